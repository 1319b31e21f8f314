/-
  Joined texts of this seat's trees, and of them only what is used. Conditions: as each theorem says.
-/
import Derived.Test.YtgliogfggajfgaaGreatDoorRows
import Derived.WalkKit
import Derived.WalkSpells
import Derived.WalkLawsBesides
import Derived.WalkSmall
import Derived.Deep.QuietTactic
import Derived.BigQuiet
import Derived.Lib.Hide
import Derived.Deep.DeepFit
import Derived.Deep.DeepCutAuto
import Derived.Deep.LoopGhost
import Derived.StillTailTactics
import Derived.Deep.RegionWith
import Derived.Deep.RegionHeld3
import Derived.Deep.RegionLaw
import Derived.Laws.EntriesVeiled
import Derived.OneCell
import Derived.Laws.RangeAny
import Derived.Laws.Tables
import Derived.Laws.Rows
import Derived.Laws.ResultCell
import Derived.ArgAppend
import Derived.Deep.RegionLawGrows
import Derived.WalkMore
import Derived.Laws.AppendOwnNone
import Derived.ProofKit
import Derived.LaidMore
import Derived.OpenShut
import Derived.ChangeSame
import Derived.SizedLaws
import Derived.Lib.SmallJoins
import Derived.Deep.Slices
import Derived.Stop.Joined
import Derived.BigRegion
import Derived.Deep.MidRow
namespace Go.Proofs.YtgliogfggajfgaaGreatDoor
open Go.RowKit
inductive Tr where
  | mk (k n : Int) (s t : ByteArray) (l : List Tr) : Tr
def Tr.k : Tr → Int | .mk k _ _ _ _ => k
def Tr.n : Tr → Int | .mk _ n _ _ _ => n
def Tr.s : Tr → ByteArray | .mk _ _ s _ _ => s
def Tr.t : Tr → ByteArray | .mk _ _ _ t _ => t
def Tr.l : Tr → List Tr | .mk _ _ _ _ l => l
def BL : Nat := 2199023255552
structure NodeWf (x : Tr) : Prop where
  k : (Lit.int .i8 x.k).wf = true
  n : (Lit.int .i64 x.n).wf = true
  s : x.s.size ≤ BL * 64
  t : x.t.size ≤ BL * 64
structure NodeAt (w : World) (g o : Nat) (x : Tr) (sv : Value) : Prop where
  k : w.cell? ⟨g, o, none⟩ = some (.int .i8 x.k)
  n : w.cell? ⟨g, o + 1, none⟩ = some (.int .i64 x.n)
  s : w.cell? ⟨g, o + 2, none⟩ = some (.string x.s)
  t : w.cell? ⟨g, o + 3, none⟩ = some (.string x.t)
  l : w.cell? ⟨g, o + 4, none⟩ = some sv
inductive Kids (F : Nat → Prop) (w : World) : Value → List Tr → Prop
  | mk (p : Option Addr) (c : Nat) (l : List Tr) (sv : Nat → Value) (hc : l.length ≤ c) (hb : l.length ≤ BL) (hwf : ∀ i (h : i < l.length), NodeWf l[i])
      (hcells : ∀ i (h : i < l.length), ∃ g o, p = some ⟨g, o, none⟩ ∧ F g ∧ NodeAt w g (o + i * 5) l[i] (sv i))
      (hk : ∀ i (h : i < l.length), Kids F w (sv i) l[i].l) : Kids F w (.slice p l.length c) l
theorem cell_block {w : World} {g o : Nat} {v : Value} (h : w.cell? ⟨g, o, none⟩ = some v) : g < w.heap.size := by
  unfold World.cell? at h
  cases hg : w.heap[g]? with
  | none => simp [hg] at h
  | some ob => exact (Array.getElem?_eq_some_iff.1 hg).1
theorem NodeAt.lt {w : World} {g o : Nat} {x : Tr} {sv : Value} (h : NodeAt w g o x sv) : g < w.heap.size := cell_block h.k
theorem NodeAt.keep {w w' : World} {g o : Nat} {x : Tr} {sv : Value} (h : NodeAt w g o x sv) (hb : w'.heap[g]? = w.heap[g]?) : NodeAt w' g o x sv :=
  ⟨(World.cell?_of_block (a := ⟨g, o, none⟩) hb).trans h.k, (World.cell?_of_block (a := ⟨g, o + 1, none⟩) hb).trans h.n, (World.cell?_of_block (a := ⟨g, o + 2, none⟩) hb).trans h.s, (World.cell?_of_block (a := ⟨g, o + 3, none⟩) hb).trans h.t, (World.cell?_of_block (a := ⟨g, o + 4, none⟩) hb).trans h.l⟩
theorem Kids.keep {F : Nat → Prop} {w w' : World} {v : Value} {l : List Tr} (h : Kids F w v l) (hb : ∀ g, F g → g < w.heap.size → w'.heap[g]? = w.heap[g]?) : Kids F w' v l := by
  induction h with
  | mk p c l sv hc hbl hwf hcells hk ih =>
    exact .mk p c l sv hc hbl hwf (fun i hi => by
      obtain ⟨g, o, hp, hF, hn⟩ := hcells i hi
      exact ⟨g, o, hp, hF, hn.keep (hb g hF hn.lt)⟩) ih
theorem Kids.under {F : Nat → Prop} {w w' : World} {v : Value} {l : List Tr} (h : Kids F w v l) (hb : Below w.heap.size w w') : Kids F w' v l := h.keep fun g _ hg => hb.block g hg
theorem Kids.mono {F F' : Nat → Prop} {w : World} {v : Value} {l : List Tr} (h : Kids F w v l) (hF : ∀ g, F g → g < w.heap.size → F' g) : Kids F' w v l := by
  induction h with
  | mk p c l sv hc hbl hwf hcells hk ih =>
    exact .mk p c l sv hc hbl hwf (fun i hi => by
      obtain ⟨g, o, hp, hF', hn⟩ := hcells i hi
      exact ⟨g, o, hp, hF g hF' hn.lt, hn⟩) ih
theorem Kids.nil (F : Nat → Prop) (w : World) : Kids F w (.slice none 0 0) [] :=
  .mk none 0 [] (fun _ => .slice none 0 0) (Nat.le_refl _) (Nat.zero_le _) (fun i hi => absurd hi (by simp)) (fun i hi => absurd hi (by simp)) (fun i hi => absurd hi (by simp))
theorem Kids.open_ {F : Nat → Prop} {w : World} {v : Value} {l : List Tr} (h : Kids F w v l) : ∃ p c, v = .slice p l.length c ∧ l.length ≤ c ∧ l.length ≤ BL ∧
    ∀ i (h : i < l.length), ∃ g o sv, p = some ⟨g, o, none⟩ ∧ F g ∧ NodeAt w g (o + i * 5) l[i] sv ∧ NodeWf l[i] ∧ Kids F w sv l[i].l := by
  cases h with
  | mk p c l sv hc hbl hwf hcells hk =>
    refine ⟨p, c, rfl, hc, hbl, fun i hi => ?_⟩
    obtain ⟨g, o, hp, hF, hn⟩ := hcells i hi
    exact ⟨g, o, sv i, hp, hF, hn, hwf i hi, hk i hi⟩
theorem Kids.slice {F : Nat → Prop} {w : World} {v : Value} {l : List Tr} (h : Kids F w v l) : ∃ p c, v = .slice p l.length c := by
  obtain ⟨p, c, rfl, _⟩ := h.open_
  exact ⟨p, c, rfl⟩
theorem Kids.len {F : Nat → Prop} {w : World} {v : Value} {l : List Tr} (h : Kids F w v l) : l.length ≤ BL := by
  obtain ⟨p, c, rfl, _, h, _⟩ := h.open_
  exact h
structure TrV (F : Nat → Prop) (w : World) (x : Tr) (sv : Value) : Prop where
  wf : NodeWf x
  kids : Kids F w sv x.l
theorem Kids.at {F : Nat → Prop} {w : World} {p : Option Addr} {n c : Nat} {l : List Tr} (h : Kids F w (.slice p n c) l) {i : Nat} (hi : i < l.length) : ∃ g o sv, p = some ⟨g, o, none⟩ ∧ F g ∧ NodeAt w g (o + i * 5) l[i] sv ∧ TrV F w l[i] sv := by
  obtain ⟨p', c', he, _, _, hx⟩ := h.open_
  cases he
  obtain ⟨g, o, sv, h1, h2, h3, h4, h5⟩ := hx i hi
  exact ⟨g, o, sv, h1, h2, h3, h4, h5⟩
theorem TrV.below {F : Nat → Prop} {w w' : World} {x : Tr} {sv : Value} (h : TrV F w x sv) (hb : Below w.heap.size w w') : TrV F w' x sv := ⟨h.wf, h.kids.under hb⟩
def Tr.h : Tr → Nat
  | .mk _ _ _ _ l => hl l + 1
where hl : List Tr → Nat
  | [] => 0
  | x :: r => max x.h (hl r)
theorem Tr.h_mem {x : Tr} : ∀ {l : List Tr}, x ∈ l → x.h ≤ Tr.h.hl l
  | y :: r, hx => by
    rcases List.mem_cons.1 hx with rfl | hx
    · simp only [Tr.h.hl]; omega
    · have := Tr.h_mem hx; simp only [Tr.h.hl]; omega
theorem Tr.h_kid {x y : Tr} (h : y ∈ x.l) : y.h < x.h := by
  cases x with
  | mk k n s t l =>
    have := Tr.h_mem (show y ∈ l from h)
    show _ < Tr.h.hl l + 1
    omega
theorem Tr.ind {P : Tr → Prop} (h : ∀ x, (∀ y ∈ x.l, P y) → P x) : ∀ x, P x := by
  have : ∀ n (x : Tr), x.h < n → P x := by
    intro n
    induction n with
    | zero => exact fun x hx => absurd hx (Nat.not_lt_zero _)
    | succ n ih => exact fun x hx => h x fun y hy => ih y (by have := Tr.h_kid hy; omega)
  exact fun x => this (x.h + 1) x (Nat.lt_succ_self _)
def Tr.sz : Tr → Int → Int
  | .mk _ _ _ _ l, m => szl l m 1
where szl : List Tr → Int → Int → Int
  | [], _, n => n
  | x :: r, m, n => if n < m then szl r m (n + x.sz (m - n)) else n
theorem szl_stop (l : List Tr) {m n : Int} (h : m ≤ n) : Tr.sz.szl l m n = n := by
  cases l with
  | nil => rfl
  | cons x r => rw [Tr.sz.szl, if_neg (by omega)]
theorem sz_bound (x : Tr) : ∀ m : Int, 1 ≤ m → 1 ≤ x.sz m ∧ x.sz m ≤ m := by
  induction x using Tr.ind with
  | h x ih =>
    intro m hm
    cases x with
    | mk k n s t l =>
      have key : ∀ (r : List Tr), (∀ y ∈ r, y ∈ l) → ∀ a : Int, 1 ≤ a → a ≤ m → a ≤ Tr.sz.szl r m a ∧ Tr.sz.szl r m a ≤ m := by
        intro r
        induction r with
        | nil => exact fun _ a _ h => ⟨Int.le_refl _, h⟩
        | cons y r ihr =>
          intro hr a h1 h2
          rw [Tr.sz.szl]
          split
          · have h3 := ih y (hr y (by simp)) (m - a) (by omega)
            have h4 := ihr (fun z hz => hr z (List.mem_cons_of_mem _ hz)) (a + y.sz (m - a)) (by omega) (by omega)
            omega
          · omega
      exact key l (fun _ h => h) 1 (Int.le_refl _) hm
end Go.Proofs.YtgliogfggajfgaaGreatDoor
namespace Go.Proofs.YtgliogfggajfgaaGreatDoor
open Go.RowKit
theorem szl_take {l : List Tr} {k : Nat} {m a : Int} (hk : k < l.length) (ha : a < m) : Tr.sz.szl (l.drop k) m a = Tr.sz.szl (l.drop (k + 1)) m (a + l[k].sz (m - a)) := by
  rw [List.drop_eq_getElem_cons hk, Tr.sz.szl, if_pos ha]
theorem node_box (w : World) (T : TypeId) (k n : Int) (s t : ByteArray) (sv : Value) :
    Below w.heap.size w (w.alloc (.cells #[.int .i8 k, .int .i64 n, .string s, .string t, sv] T)) ∧ (w.alloc (.cells #[.int .i8 k, .int .i64 n, .string s, .string t, sv] T)).heap.size = w.heap.size + 1 ∧
      NodeAt (w.alloc (.cells #[.int .i8 k, .int .i64 n, .string s, .string t, sv] T)) w.heap.size 0 (.mk k n s t []) sv := by
  refine ⟨(Below.refl _ _).alloc (Nat.le_refl _) _, by simp, ?_, ?_, ?_, ?_, ?_⟩ <;> (rw [World.cell?_alloc_at _ _ _ _ (by simp)]; rfl)
def SzRel (x : Tr) (m : Int) (w1 : World) (n i : Value) (wr : World) : Prop :=
  ∃ k : Nat, k ≤ x.l.length ∧ i = .int .i64 k ∧ ∃ a : Int, n = .int .i64 a ∧ 1 ≤ a ∧ a ≤ m ∧ Tr.sz.szl (x.l.drop k) m a = x.sz m ∧ Below w1.heap.size w1 wr
set_option maxHeartbeats 1000000 in
set_option maxRecDepth 100000 in
theorem size_any {F : Nat → Prop} (x : Tr) : ∀ (w : World) (sv : Value) (m : Int), TrV F w x sv → 1 ≤ m → m ≤ 1099511627776 →
    Calls Tryz.prog 17 #[.agg #[.int .i8 x.k, .int .i64 x.n, .string x.s, .string x.t, sv], .int .i64 m] w fun e w' => e = .returned (.int .i64 (x.sz m)) ∧ Below w.heap.size w w' := by
  induction x using Tr.ind with
  | h x ih =>
    intro w sv m hx hm hm2
    obtain ⟨p, c, rfl⟩ := hx.kids.slice
    obtain ⟨hb1, hz1, hn1⟩ := node_box w 25 x.k x.n x.s x.t (.slice p x.l.length c)
    have hx1 := hx.below hb1
    have hlen := hx.kids.len
    have hlen' : x.l.length ≤ 2199023255552 := hlen
    have h4 := hn1.l
    have hrel0 : x.sz m = Tr.sz.szl x.l m 1 := by cases x; rfl
    have IH := Lib.hid ih
    have HR := Lib.hid hrel0
    clear hn1 ih hrel0 hx hlen
    go_enter Tryz.func17, Tryz.ntmps17
    go_wp2
    generalize w.alloc (.cells #[.int .i8 x.k, .int .i64 x.n, .string x.s, .string x.t, .slice p x.l.length c] 25) = w1 at hb1 hz1 h4 hx1 ⊢
    go_loopw [5, 6] (fun n i wr => SzRel x m w1 n i wr) (fun _ i _ => x.l.length - (intOf i).toNat)
    case atStart => exact ⟨0, Nat.zero_le _, rfl, 1, rfl, Int.le_refl _, hm, HR.out.symm, Below.refl _ _⟩
    case round =>
      obtain ⟨k, hk, rfl, a, rfl, ha1, ha2, hrest, hbr⟩ := hrel
      have hxr := hx1.below hbr
      have hbw := hb1.trans (hbr.mono (by omega))
      have h4r := (hbr.cell (p := ⟨w.heap.size, 0 + 4, none⟩) (by show w.heap.size < _; omega)).trans h4
      simp only [Nat.zero_add] at h4r
      by_cases hlt : k < x.l.length
      · by_cases ham : a < m
        · obtain ⟨g, o, kv, rfl, hg, hnode, hkid⟩ := hxr.kids.at hlt
          have cK := fun W hb => IH.out x.l[k] (List.getElem_mem hlt) W kv (m - a) (hkid.below (w' := W) hb) (by omega) (by omega)
          have hszk := sz_bound x.l[k] (m - a) (by omega)
          have hnext := szl_take hlt ham
          obtain ⟨e0, e1, e2, e3, e4⟩ := hnode
          generalize x.l[k] = y at *
          have HN := Lib.hid (hnext.symm.trans hrest)
          clear hnext hrest hkid hxr h4 hx1
          go_wp2_with (go_at_call 17; refine (cK _ (Below.refl _ _)).mono ?_; rintro e w2 ⟨rfl, hb2⟩)
          go_roundw
          case rel => exact ⟨k + 1, hlt, by go_num, _, rfl, by omega, by omega, HN.out, hbr.trans (hb2.mono hbr.size)⟩
          case measure => simp [intOf]; omega
        · rw [szl_stop _ (by omega)] at hrest
          subst hrest
          clear h4 hx1 hxr
          go_wp2
          go_ret
          exact ⟨rfl, hbw⟩
      · rw [List.drop_eq_nil_of_le (by omega), Tr.sz.szl] at hrest
        subst hrest
        clear h4 hx1 hxr
        by_cases ham : x.sz m < m
        all_goals
          go_wp2
          go_ret
          exact ⟨rfl, hbw⟩
end Go.Proofs.YtgliogfggajfgaaGreatDoor
namespace Go.Proofs.YtgliogfggajfgaaGreatDoor
open Go.RowKit
theorem alloc_below (w : World) (o : Obj) : Below w.heap.size w (w.alloc o) := (Below.refl _ _).alloc (Nat.le_refl _) _
set_option maxHeartbeats 400000 in
theorem greatT_any {F : Nat → Prop} {x : Tr} {w : World} {sv : Value} (hx : TrV F w x sv) :
    Calls Tryz.prog 4 #[.agg #[.int .i8 x.k, .int .i64 x.n, .string x.s, .string x.t, sv]] w fun e w' => e = .returned (.bool (decide (1024 ≤ x.sz 1024))) ∧ Below w.heap.size w w' := by
  obtain ⟨p, c, rfl⟩ := hx.kids.slice
  have cK := fun W hb => size_any x W _ 1024 (hx.below (w' := W) hb) (by omega) (by omega)
  clear hx
  go_enter Tryz.func4, Tryz.ntmps4
  go_wp2_with (go_at_call 17; refine (cK _ (alloc_below _ _)).mono ?_; rintro e w2 ⟨rfl, hb2⟩)
  go_ret
  exact ⟨rfl, (alloc_below _ _).trans (hb2.mono (by simp))⟩
end Go.Proofs.YtgliogfggajfgaaGreatDoor
namespace Go.Proofs.YtgliogfggajfgaaGreatDoor
open Go.RowKit
theorem ret_bool {a b : Bool} (h : a = b) : Ending.returned (.bool a) = .returned (.bool b) := by rw [h]
theorem ret_i64 {a b : Int} (h : a = b) : Ending.returned (.int .i64 a) = .returned (.int .i64 b) := by rw [h]
def letB (c : Int) : Bool := (decide (97 ≤ c) && decide (c ≤ 122)) || (decide (65 ≤ c) && decide (c ≤ 90)) || (decide (48 ≤ c) && decide (c ≤ 57)) || (c == 95)
theorem letB_iff (c : Int) : letB c = true ↔ (97 ≤ c ∧ c ≤ 122) ∨ (65 ≤ c ∧ c ≤ 90) ∨ (48 ≤ c ∧ c ≤ 57) ∨ c = 95 := by
  simp [letB, or_assoc]
def inB (c : Int) (L : List (Int × Int)) : Bool := L.any fun x => decide (x.1 ≤ c) && decide (c ≤ x.2)
def LR : List (Int × Int) := [(97, 122), (65, 90), (48, 57), (95, 95)]
theorem inB_LR (c : Int) : inB c LR = letB c := by
  rw [Bool.eq_iff_iff, letB_iff]
  simp only [inB, LR, List.any_cons, List.any_nil, Bool.or_false, Bool.or_eq_true, Bool.and_eq_true, decide_eq_true_eq]
  omega
theorem inB_small (c : Int) : inB c (LR.take 1) = (decide (97 ≤ c) && decide (c ≤ 122)) := by simp [inB, LR]
structure Letters (w : World) : Prop where
  c0 : w.cell? ⟨0, 0, none⟩ = some (.int .u8 97)
  c1 : w.cell? ⟨0, 1, none⟩ = some (.int .u8 122)
  c2 : w.cell? ⟨0, 2, none⟩ = some (.int .u8 65)
  c3 : w.cell? ⟨0, 3, none⟩ = some (.int .u8 90)
  c4 : w.cell? ⟨0, 4, none⟩ = some (.int .u8 48)
  c5 : w.cell? ⟨0, 5, none⟩ = some (.int .u8 57)
  c6 : w.cell? ⟨0, 6, none⟩ = some (.int .u8 95)
  c7 : w.cell? ⟨0, 7, none⟩ = some (.int .u8 95)
theorem Letters.lt {w : World} (h : Letters w) : 0 < w.heap.size := cell_block h.c0
theorem Letters.below {w w' : World} (h : Letters w) {B : Nat} (hB : 0 < B) (hb : Below B w w') : Letters w' :=
  ⟨(hb.cell (p := ⟨0, 0, none⟩) hB).trans h.c0, (hb.cell (p := ⟨0, 1, none⟩) hB).trans h.c1, (hb.cell (p := ⟨0, 2, none⟩) hB).trans h.c2, (hb.cell (p := ⟨0, 3, none⟩) hB).trans h.c3, (hb.cell (p := ⟨0, 4, none⟩) hB).trans h.c4, (hb.cell (p := ⟨0, 5, none⟩) hB).trans h.c5, (hb.cell (p := ⟨0, 6, none⟩) hB).trans h.c6, (hb.cell (p := ⟨0, 7, none⟩) hB).trans h.c7⟩
theorem Letters.under {w w' : World} (h : Letters w) (hb : Below w.heap.size w w') : Letters w' := h.below h.lt hb
def Part (w : World) (o : Nat) (L : List (Int × Int)) : Prop := ∀ k (hk : k < L.length), w.cell? ⟨0, o + k * 2, none⟩ = some (.int .u8 L[k].1) ∧ w.cell? ⟨0, o + k * 2 + 1, none⟩ = some (.int .u8 L[k].2)
theorem Letters.whole {w : World} (h : Letters w) : Part w 0 LR := fun k hk => by
  match k, hk with
  | 0, _ => exact ⟨h.c0, h.c1⟩
  | 1, _ => exact ⟨h.c2, h.c3⟩
  | 2, _ => exact ⟨h.c4, h.c5⟩
  | 3, _ => exact ⟨h.c6, h.c7⟩
theorem Letters.small {w : World} (h : Letters w) : Part w 0 (LR.take 1) := fun k hk => by
  match k, hk with
  | 0, _ => exact ⟨h.c0, h.c1⟩
set_option maxHeartbeats 1000000 in
set_option maxRecDepth 100000 in
theorem is_any {w : World} {o cap : Nat} {L : List (Int × Int)} (hP : Part w o L) (hlen : L.length ≤ 4) (hw : 0 < w.heap.size) (c : Int) :
    Calls Tryz.prog 97 #[.int .u8 c, .slice (some ⟨0, o, none⟩) L.length cap] w fun e w' => e = .returned (.bool (inB c L)) ∧ Below w.heap.size w w' := by
  have HP := Lib.hid hP
  clear hP
  go_enter Tryz.func97, Tryz.ntmps97
  go_wp2
  go_loopw [9] (fun i wr => ∃ k : Nat, k ≤ L.length ∧ i = .int .i64 k ∧ inB c (L.take k) = false ∧ Below w.heap.size w wr) (fun i _ => L.length - (intOf i).toNat)
  case atStart => exact ⟨0, Nat.zero_le _, rfl, rfl, Below.refl _ _⟩
  case round =>
    obtain ⟨k, hk, rfl, hno, hbr⟩ := hrel
    have HNO := Lib.hid hno
    clear hno
    by_cases hlt : k < L.length
    · obtain ⟨e0, e1⟩ := HP.out k hlt
      have e0 := (hbr.cell (p := ⟨0, o + k * 2, none⟩) hw).trans e0
      have e1 := (hbr.cell (p := ⟨0, o + k * 2 + 1, none⟩) hw).trans e1
      have hnext : inB c (L.take (k + 1)) = (decide (L[k].1 ≤ c) && decide (c ≤ L[k].2)) := by
        have := HNO.out
        unfold inB at this ⊢
        rw [List.take_succ_eq_append_getElem hlt, List.any_append, this]
        simp
      have hall : (decide (L[k].1 ≤ c) && decide (c ≤ L[k].2)) = true → inB c L = true := fun h => by
        unfold inB
        exact List.any_eq_true.2 ⟨_, List.getElem_mem hlt, h⟩
      generalize L[k] = x at *
      have HN := Lib.hid hnext
      have HALL := Lib.hid hall
      clear hnext hall
      by_cases h1 : x.1 ≤ c
      · by_cases h2 : c ≤ x.2
        · go_wp2
          go_ret
          exact ⟨ret_bool (HALL.out (by simp [h1, h2])).symm, (hbr.alloc hbr.size _)⟩
        · go_wp2
          go_roundw
          case rel => exact ⟨k + 1, hlt, by go_num, by rw [HN.out]; simp [h2], (hbr.alloc hbr.size _)⟩
          case measure => simp [intOf]; omega
      · go_wp2
        go_roundw
        case rel => exact ⟨k + 1, hlt, by go_num, by rw [HN.out]; simp [h1], (hbr.alloc hbr.size _)⟩
        case measure => simp [intOf]; omega
    · go_wp2
      go_ret
      have : L.take k = L := List.take_of_length_le (by omega)
      exact ⟨ret_bool (by have h := HNO.out; rw [this] at h; exact h.symm), hbr⟩
def pfx (s : ByteArray) : Nat := (s.data.toList.takeWhile fun c => letB c.toNat).length
theorem takeWhile_len {α : Type} (p : α → Bool) : ∀ (l : List α) (k : Nat), k ≤ l.length → (l.take k).all p = true → (∀ h : k < l.length, p l[k] = false) → (l.takeWhile p).length = k
  | [], k, hk, _, _ => by simp at hk; simp [hk]
  | x :: r, 0, _, _, h => by
    have := h (by simp)
    simp only [List.getElem_cons_zero] at this
    simp [this]
  | x :: r, k + 1, hk, ha, h => by
    simp only [List.take_succ_cons, List.all_cons, Bool.and_eq_true] at ha
    rw [List.takeWhile_cons, if_pos ha.1, List.length_cons, takeWhile_len p r k (by simpa using hk) ha.2 fun hl => by
      have := h (by simpa using hl)
      simpa using this]
theorem size_list (s : ByteArray) : s.data.toList.length = s.size := by show _ = s.data.size; exact Array.length_toList
theorem pfx_of {s : ByteArray} {k : Nat} (hk : k ≤ s.size) (ha : (s.data.toList.take k).all (fun c => letB c.toNat) = true) (hn : ∀ h : k < s.size, letB s[k].toNat = false) : pfx s = k :=
  takeWhile_len _ _ k (by rw [size_list]; exact hk) ha fun h => by
    have h' : k < s.size := by rw [size_list] at h; exact h
    have := hn h'
    simpa [ByteArray.getElem_eq_getElem_data] using this
theorem all_succ {s : ByteArray} {k : Nat} (h : k < s.size) (ha : (s.data.toList.take k).all (fun c => letB c.toNat) = true) (hl : letB s[k].toNat = true) : (s.data.toList.take (k + 1)).all (fun c => letB c.toNat) = true := by
  rw [List.take_succ_eq_append_getElem (by rw [size_list]; exact h), List.all_append, ha]
  simpa [ByteArray.getElem_eq_getElem_data] using hl
def wordB (s : ByteArray) : Bool := decide (1 ≤ s.size) && decide (s.size ≤ 32) && pfx s == s.size
def fb (s : ByteArray) : Int := ((s.data.toList.headD 0).toNat : Int)
theorem fb_eq {s : ByteArray} (h : 0 < s.size) : (s[0].toNat : Int) = fb s := by
  unfold fb
  cases hs : s.data.toList with
  | nil => have := size_list s; rw [hs] at this; simp at this; omega
  | cons c r =>
    have : s[0] = c := by
      rw [ByteArray.getElem_eq_getElem_data]
      rw [← Array.getElem_toList]
      simp [hs]
    rw [this]; rfl
def mayA (s : ByteArray) : Bool := wordB s && (decide (97 ≤ fb s) && decide (fb s ≤ 122))
def nameA (s : ByteArray) : Bool := wordB s && ((decide (65 ≤ fb s) && decide (fb s ≤ 90)) || fb s == 95)
set_option maxHeartbeats 1000000 in
set_option maxRecDepth 100000 in
theorem prefix_any {w : World} (hL : Letters w) (s : ByteArray) (hs : s.size ≤ 140737488355328) :
    Calls Tryz.prog 116 #[.string s] w fun e w' => e = .returned (.int .i64 (pfx s)) ∧ Below w.heap.size w w' := by
  have hw := hL.lt
  have cI := fun W (hb : Below w.heap.size w W) c => is_any (cap := 4) (hL.under hb).whole (by decide) (Nat.lt_of_lt_of_le hw hb.size) c
  clear hL
  go_enter Tryz.func116, Tryz.ntmps116
  go_wp2
  go_loopw [6] (fun i wr => ∃ k : Nat, k ≤ s.size ∧ i = .int .i64 k ∧ (s.data.toList.take k).all (fun c => letB c.toNat) = true ∧ Below w.heap.size w wr) (fun i _ => s.size - (intOf i).toNat)
  case atStart => exact ⟨0, Nat.zero_le _, rfl, rfl, Below.refl _ _⟩
  case round =>
    obtain ⟨k, hk, rfl, hall, hbr⟩ := hrel
    have HALL := Lib.hid hall
    clear hall
    by_cases hlt : k < s.size
    · have hbd := below_drewN hbr 1
      cases hl : letB s[k].toNat
      all_goals
        have HLB := Lib.hid hl
        clear hl
        go_wp2
        go_still_tail 4, (by kernel_rfl)
        change wpList _ _ _ _ _ (wr.drewN 1)
        generalize wr.drewN 1 = w4 at hbd ⊢
        go_wp2_with (go_at_call 97; refine (cI _ hbd _).mono ?_; rintro e w5 ⟨rfl, hb5⟩; rw [inB_LR, HLB.out])
      · go_ret
        exact ⟨ret_i64 (by rw [pfx_of hk HALL.out fun h => HLB.out]), hbd.trans (hb5.mono hbd.size)⟩
      · go_roundw
        case rel => exact ⟨k + 1, hlt, by go_num, all_succ hlt HALL.out HLB.out, hbd.trans (hb5.mono hbd.size)⟩
        case measure => simp [intOf]; omega
    · go_wp2
      go_ret
      exact ⟨ret_i64 (by rw [pfx_of hk HALL.out fun h => absurd h hlt]; congr 1; omega), hbr⟩
set_option maxHeartbeats 1000000 in
set_option maxRecDepth 100000 in
theorem fits_any {w : World} (hL : Letters w) (s : ByteArray) (hs : s.size ≤ 140737488355328) :
    Calls Tryz.prog 96 #[.string s] w fun e w' => e = .returned (.bool (wordB s)) ∧ Below w.heap.size w w' := by
  have cP := prefix_any hL s hs
  clear hL
  by_cases h1 : 1 ≤ s.size
  · by_cases h2 : s.size ≤ 32
    · go_enter Tryz.func96, Tryz.ntmps96
      go_wp2_with (go_at_call 116; refine cP.mono ?_; rintro e w5 ⟨rfl, hb5⟩)
      go_ret
      refine ⟨ret_bool ?_, hb5⟩
      unfold wordB
      rw [decide_eq_true h1, decide_eq_true h2, Bool.eq_iff_iff]
      simp; omega
    · go_enter Tryz.func96, Tryz.ntmps96
      go_wp2
      go_ret
      exact ⟨ret_bool (by unfold wordB; rw [decide_eq_false h2]; simp), Below.refl _ _⟩
  · go_enter Tryz.func96, Tryz.ntmps96
    go_wp2
    go_ret
    exact ⟨ret_bool (by unfold wordB; rw [decide_eq_false h1]; simp), Below.refl _ _⟩
set_option maxHeartbeats 1000000 in
set_option maxRecDepth 100000 in
theorem mayA_any {w : World} (hL : Letters w) (s : ByteArray) (hs : s.size ≤ 140737488355328) :
    Calls Tryz.prog 72 #[.string s] w fun e w' => e = .returned (.bool (mayA s)) ∧ Below w.heap.size w w' := by
  have cF := fun W (hb : Below w.heap.size w W) => fits_any (hL.under hb) s hs
  have cI := fun W (hb : Below w.heap.size w W) c => is_any (cap := 4) (hL.under hb).small (by decide) (Nat.lt_of_lt_of_le hL.lt hb.size) c
  have hd : Below w.heap.size w w.drew := below_drewN (Below.refl _ _) 1
  have hS0 := hL.c0
  have hmv := fun W (hb : Below w.heap.size w W) => (hL.under hb).c0
  clear hL
  cases hw : wordB s
  · have HW := Lib.hid hw
    rw [hw] at cF
    clear hw
    go_enter Tryz.func72, Tryz.ntmps72
    go_wp2_with fail
    refine wp_region_any (by kernel_rfl) ?_
    change wpAny _ _ _ _ _ _ _ (World.drew _)
    refine wpAny_take (i := 0) (v := ?_) rfl (by kernel_rfl) (by kernel_rfl) (by kernel_rfl) (fun _ _ _ h => h) (Or.inl ⟨by rfl, ?_⟩) ?_
    rotate_left 1
    (intro w; go_simp; try with_reducible rfl)
    (try simp only [List.getElem_toArray, List.getElem_cons_zero, Act.put, List.setIfInBounds_toArray, List.set_cons_zero, List.set_cons_succ])
    refine wpAny_ready (rs := [1]) (by kernel_rfl) (by simp) ?_
    refine AllReady.cons rfl (fun K hK => ?_) AllReady.nil
    go_simp
    go_wp2_with (go_at_call 96; refine (cF _ hd).mono ?_; rintro e w5 ⟨rfl, hb5⟩; have hb5' := hd.trans (hb5.mono hd.size))
    (try (refine hK _ _ ?_; clear hK K))
    refine wpAny_take (i := 2) (v := ?_) rfl (by kernel_rfl) (by kernel_rfl) (by kernel_rfl) (fun _ _ _ h => h) (Or.inl ⟨by rfl, ?_⟩) ?_
    rotate_left 1
    (intro w; go_simp; try with_reducible rfl)
    (try simp only [List.getElem_toArray, List.getElem_cons_succ, List.getElem_cons_zero, Act.put, List.setIfInBounds_toArray, List.set_cons_zero, List.set_cons_succ])
    refine wpAny_take (i := 3) (v := undef) rfl (by kernel_rfl) (by kernel_rfl) (by kernel_rfl) (fun _ _ _ h => h) (Or.inr ⟨by rfl, rfl⟩) ?_
    (try simp only [List.getElem_toArray, List.getElem_cons_succ, List.getElem_cons_zero, Act.put, List.setIfInBounds_toArray, List.set_cons_zero, List.set_cons_succ])
    refine wpAny_take (i := 4) (v := undef) rfl (by kernel_rfl) (by kernel_rfl) (by kernel_rfl) (fun _ _ _ h => h) (Or.inr ⟨by rfl, rfl⟩) ?_
    (try simp only [List.getElem_toArray, List.getElem_cons_succ, List.getElem_cons_zero, Act.put, List.setIfInBounds_toArray, List.set_cons_zero, List.set_cons_succ])
    refine wpAny_take (i := 5) (v := undef) rfl (by kernel_rfl) (by kernel_rfl) (by kernel_rfl) (fun _ _ _ h => h) (Or.inr ⟨by rfl, rfl⟩) ?_
    (try simp only [List.getElem_toArray, List.getElem_cons_succ, List.getElem_cons_zero, Act.put, List.setIfInBounds_toArray, List.set_cons_zero, List.set_cons_succ])
    refine wpAny_take (i := 6) (v := undef) rfl (by kernel_rfl) (by kernel_rfl) (by kernel_rfl) (fun _ _ _ h => h) (Or.inr ⟨by rfl, rfl⟩) ?_
    (try simp only [List.getElem_toArray, List.getElem_cons_succ, List.getElem_cons_zero, Act.put, List.setIfInBounds_toArray, List.set_cons_zero, List.set_cons_succ])
    refine wpAny_take (i := 7) (v := ?_) rfl (by kernel_rfl) (by kernel_rfl) (by kernel_rfl) (fun _ _ _ h => h) (Or.inl ⟨by rfl, ?_⟩) ?_
    rotate_left 1
    (intro w; go_simp; try with_reducible rfl)
    (try simp only [List.getElem_toArray, List.getElem_cons_succ, List.getElem_cons_zero, Act.put, List.setIfInBounds_toArray, List.set_cons_zero, List.set_cons_succ])
    refine wpAny_take (i := 8) (v := ?_) rfl (by kernel_rfl) (by kernel_rfl) (by kernel_rfl) (fun _ _ _ h => h) (Or.inl ⟨by rfl, ?_⟩) ?_
    rotate_left 1
    (intro w; go_simp; try with_reducible rfl)
    (try simp only [List.getElem_toArray, List.getElem_cons_succ, List.getElem_cons_zero, Act.put, List.setIfInBounds_toArray, List.set_cons_zero, List.set_cons_succ])
    refine wpAny_done (by kernel_rfl) ?_ _
    go_wp2
    go_ret
    exact ⟨ret_bool (by unfold mayA; rw [HW.out]; rfl), hb5'⟩
  · have HW := Lib.hid hw
    have h0 : 0 < s.size := by
      unfold wordB at hw
      simp only [Bool.and_eq_true, decide_eq_true_eq] at hw
      omega
    have HF := Lib.hid (fb_eq h0)
    rw [hw] at cF
    clear hw
    go_enter Tryz.func72, Tryz.ntmps72
    go_wp2_with fail
    go_region_held3 (fun W => W.cell? ⟨0, 0, none⟩ = some (.int .u8 97)) (first | exact hS0 | exact hS1 | exact hS2) (first
      | (go_at_call 96; refine (cF _ hd).mono ?_; rintro e w5 ⟨rfl, hb5⟩; have hb5' := hd.trans (hb5.mono hd.size); have hS1 := hmv _ hb5')
      | (go_at_call 97; refine (cI _ hb5' _).mono ?_; rintro e w6 ⟨rfl, hb6⟩; have hb6' := hb5'.trans (hb6.mono hb5'.size); have hS2 := hmv _ hb6'))
    go_wp2
    go_ret
    exact ⟨ret_bool (by unfold mayA; rw [HW.out, inB_small, HF.out]; rfl), hb6'⟩
end Go.Proofs.YtgliogfggajfgaaGreatDoor
namespace Go.Proofs.YtgliogfggajfgaaGreatDoor
open Go.RowKit
set_option maxHeartbeats 1000000 in
theorem letter_any (w : World) (c : Int) :
    Calls Tryz.prog 134 #[.int .u8 c] w fun e w' => e = .returned (.bool (letB c)) ∧ w = w' := by
  by_cases h1 : 97 ≤ c
  · by_cases h2 : c ≤ 122
    · go_enter Tryz.func134, Tryz.ntmps134
      go_wp2
      go_ret
      exact ⟨ret_bool (by rw [Bool.eq_iff_iff, letB_iff]; simp; omega), rfl⟩
    · go_enter Tryz.func134, Tryz.ntmps134
      go_wp2
      go_ret
      exact ⟨ret_bool (by rw [Bool.eq_iff_iff, letB_iff]; simp; omega), rfl⟩
  · by_cases h3 : 65 ≤ c
    · by_cases h4 : c ≤ 90
      · go_enter Tryz.func134, Tryz.ntmps134
        go_wp2
        go_ret
        exact ⟨ret_bool (by rw [Bool.eq_iff_iff, letB_iff]; simp; omega), rfl⟩
      · go_enter Tryz.func134, Tryz.ntmps134
        go_wp2
        go_ret
        exact ⟨ret_bool (by rw [Bool.eq_iff_iff, letB_iff]; simp; omega), rfl⟩
    · by_cases h4 : 48 ≤ c
      · by_cases h5 : c ≤ 57
        · go_enter Tryz.func134, Tryz.ntmps134
          go_wp2
          go_ret
          exact ⟨ret_bool (by rw [Bool.eq_iff_iff, letB_iff]; simp; omega), rfl⟩
        · go_enter Tryz.func134, Tryz.ntmps134
          go_wp2
          go_ret
          exact ⟨ret_bool (by rw [Bool.eq_iff_iff, letB_iff]; simp; omega), rfl⟩
      · go_enter Tryz.func134, Tryz.ntmps134
        go_wp2
        go_ret
        exact ⟨ret_bool (by rw [Bool.eq_iff_iff, letB_iff]; simp; omega), rfl⟩
set_option maxHeartbeats 1000000 in
theorem rprefix_any (w : World) (s : ByteArray) (hs : s.size ≤ 140737488355328) :
    Calls Tryz.prog 126 #[.string s] w fun e w' => e = .returned (.int .i64 (pfx s)) ∧ w = w' := by
  go_enter Tryz.func126, Tryz.ntmps126
  go_wp2
  go_loopw [3] (fun i wr => ∃ k : Nat, k ≤ s.size ∧ i = .int .i64 k ∧ (s.data.toList.take k).all (fun c => letB c.toNat) = true ∧ w = wr) (fun i _ => s.size - (intOf i).toNat)
  case atStart => exact ⟨0, Nat.zero_le _, rfl, rfl, rfl⟩
  case round =>
    obtain ⟨k, hk, rfl, hall, rfl⟩ := hrel
    have HALL := Lib.hid hall
    clear hall
    by_cases hlt : k < s.size
    · cases hl : letB s[k].toNat
      all_goals
        have HLB := Lib.hid hl
        clear hl
        go_wp2_with (go_at_call 134; refine (letter_any _ _).mono ?_; rintro e w5 ⟨rfl, rfl⟩; rw [HLB.out])
      · go_ret
        exact ⟨ret_i64 (by rw [pfx_of hk HALL.out fun h => HLB.out]), rfl⟩
      · go_roundw
        case rel => exact ⟨k + 1, hlt, by go_num, all_succ hlt HALL.out HLB.out, by first | rfl | trivial⟩
        case measure => simp [intOf]; omega
    · go_wp2
      go_ret
      exact ⟨ret_i64 (by rw [pfx_of hk HALL.out fun h => absurd h hlt]), rfl⟩
theorem wordB_iff (s : ByteArray) : wordB s = true ↔ 1 ≤ s.size ∧ s.size ≤ 32 ∧ pfx s = s.size := by
  unfold wordB
  simp [and_assoc]
set_option maxHeartbeats 1000000 in
set_option maxRecDepth 100000 in
theorem rmay_any (w : World) (s : ByteArray) (hs : s.size ≤ 140737488355328) :
    Calls Tryz.prog 113 #[.string s] w fun e w' => e = .returned (.bool (mayA s)) ∧ w = w' := by
  have cP := rprefix_any w s hs
  by_cases h1 : 1 ≤ s.size
  · have h0 : 0 < s.size := h1
    have hf := fb_eq h0
    by_cases h2 : s.size ≤ 32
    · by_cases h3 : 97 ≤ fb s
      · by_cases h4 : fb s ≤ 122
        · have g3 : 97 ≤ (s[0].toNat : Int) := by omega
          have g4 : (s[0].toNat : Int) ≤ 122 := by omega
          have HF := Lib.hid hf
          clear hf h3 h4
          go_enter Tryz.func113, Tryz.ntmps113
          go_wp2_with (go_at_call 126; refine cP.mono ?_; rintro e w5 ⟨rfl, rfl⟩)
          go_ret
          have := HF.out
          exact ⟨ret_bool (by rw [Bool.eq_iff_iff]; unfold mayA; rw [Bool.and_eq_true, wordB_iff]; simp; omega), rfl⟩
        · have g3 : 97 ≤ (s[0].toNat : Int) := by omega
          have g4 : ¬ (s[0].toNat : Int) ≤ 122 := by omega
          have H4 := Lib.hid h4
          clear hf h3 h4
          go_enter Tryz.func113, Tryz.ntmps113
          go_wp2
          go_ret
          exact ⟨ret_bool (by have := H4.out; unfold mayA; rw [Bool.eq_iff_iff]; simp; omega), rfl⟩
      · have g3 : ¬ 97 ≤ (s[0].toNat : Int) := by omega
        have H4 := Lib.hid h3
        clear hf h3
        go_enter Tryz.func113, Tryz.ntmps113
        go_wp2
        go_ret
        exact ⟨ret_bool (by have := H4.out; unfold mayA; rw [Bool.eq_iff_iff]; simp; omega), rfl⟩
    · clear hf
      go_enter Tryz.func113, Tryz.ntmps113
      go_wp2
      go_ret
      exact ⟨ret_bool (by unfold mayA wordB; rw [decide_eq_false h2]; simp), rfl⟩
  · go_enter Tryz.func113, Tryz.ntmps113
    go_wp2
    go_ret
    exact ⟨ret_bool (by unfold mayA wordB; rw [decide_eq_false h1]; simp), rfl⟩
def mayI (n : Int) : Bool := decide (-576460752303423488 ≤ n) && decide (n ≤ 576460752303423487)
set_option maxHeartbeats 400000 in
theorem intsMay_any (w : World) (n : Int) : Calls Tryz.prog 71 #[.int .i64 n] w fun e w' => e = .returned (.bool (mayI n)) ∧ w = w' := by
  by_cases h1 : -576460752303423488 ≤ n
  · go_enter Tryz.func71, Tryz.ntmps71
    go_wp2
    go_ret
    exact ⟨ret_bool (by unfold mayI; rw [decide_eq_true h1]; simp), rfl⟩
  · go_enter Tryz.func71, Tryz.ntmps71
    go_wp2
    go_ret
    exact ⟨ret_bool (by unfold mayI; rw [Bool.eq_iff_iff]; simp; omega), rfl⟩
set_option maxHeartbeats 400000 in
theorem rintsMay_any (w : World) (n : Int) : Calls Tryz.prog 112 #[.int .i64 n] w fun e w' => e = .returned (.bool (mayI n)) ∧ w = w' := by
  by_cases h1 : -576460752303423488 ≤ n
  · go_enter Tryz.func112, Tryz.ntmps112
    go_wp2
    go_ret
    exact ⟨ret_bool (by unfold mayI; rw [decide_eq_true h1]; simp), rfl⟩
  · go_enter Tryz.func112, Tryz.ntmps112
    go_wp2
    go_ret
    exact ⟨ret_bool (by unfold mayI; rw [Bool.eq_iff_iff]; simp; omega), rfl⟩
end Go.Proofs.YtgliogfggajfgaaGreatDoor
namespace Go.Proofs.YtgliogfggajfgaaGreatDoor
open Go.RowKit
def emp (s : ByteArray) : Bool := s.toList.isEmpty
def bareB (x : Tr) (n s t l : Bool) : Bool := (n || x.n == 0) && (s || emp x.s) && (t || emp x.t) && (l || (x.l.length : Int) == 0)
set_option maxHeartbeats 4000000 in
set_option maxRecDepth 100000 in
theorem kind1_any {w : World} {pb g o : Nat} {x : Tr} {p : Option Addr} {c : Nat} (hp : w.cell? ⟨pb, 0, none⟩ = some (.pointer (some ⟨g, o, none⟩))) (h : NodeAt w g o x (.slice p x.l.length c)) (n s t l : Bool) :
    Calls Tryz.prog 95 #[.bool n, .bool s, .bool t, .bool l, .pointer (some ⟨pb, 0, none⟩)] w fun e w' => e = .returned (.bool (bareB x n s t l)) ∧ w = w' := by
  obtain ⟨e0, e1, e2, e3, e4⟩ := h
  cases n <;> cases s <;> cases t <;> cases l
  all_goals
    go_enter Tryz.func95, Tryz.ntmps95
    go_wp2
    all_goals
      go_ret
      exact ⟨ret_bool (by simp [bareB, emp, *]), rfl⟩
theorem box_cell (w : World) (v : Value) (T : TypeId) : (w.alloc (.cells #[v] T)).cell? ⟨w.heap.size, 0, none⟩ = some v := by rw [World.cell?_alloc_at _ _ _ _ (by simp)]; rfl
def kindV (x : Tr) (sv : Value) : Value :=
  if x.k = 0 then (if bareB x true false false false then .iface 146 (.agg #[.int .i64 x.n]) else .nilIface)
  else if x.k = 2 ∨ x.k = 4 then (if bareB x true false false false then .iface 147 (.agg #[.int .i64 x.n]) else .nilIface)
  else if x.k = 1 then (if bareB x false true false false then .iface 149 (.agg #[.string x.s]) else .nilIface)
  else if x.k = 3 then (if bareB x true true true false then .iface 152 (.agg #[.string x.s, .string x.t, .int .i64 x.n]) else .nilIface)
  else if x.k = 5 then (if bareB x false false false true then .iface 154 (.agg #[sv, .int .i64 (-1)]) else .nilIface)
  else if x.k = 6 then (if bareB x false false false false then .iface 154 (.agg #[.slice none 0 0, .int .i64 0]) else .nilIface)
  else if x.k = 7 then (if bareB x false false false true then .iface 154 (.agg #[sv, .int .i64 2]) else .nilIface)
  else .nilIface
set_option maxHeartbeats 4000000 in
set_option maxRecDepth 100000 in
theorem kind_any {w : World} {g o : Nat} {x : Tr} {p : Option Addr} {c : Nat} (h : NodeAt w g o x (.slice p x.l.length c)) :
    Calls Tryz.prog 70 #[.pointer (some ⟨g, o, none⟩)] w fun e w' => e = .returned (kindV x (.slice p x.l.length c)) ∧ Below w.heap.size w w' := by
  have hk := h.k
  have hn := h.n
  have hs := h.s
  have ht := h.t
  have hkids := h.l
  have hlt := h.lt
  have cK := fun (W : World) (hb : Below w.heap.size w W) (hp : W.cell? ⟨w.heap.size, 0, none⟩ = some (.pointer (some ⟨g, o, none⟩))) => kind1_any hp (h.keep (hb.block g hlt))
  clear h
  by_cases h0 : x.k = 0
  · rw [h0] at hk
    cases hb : bareB x true false false false
    · have HV : Hid (kindV x (.slice p x.l.length c) = .nilIface) := by
        unfold Hid kindV; simp [h0, hb]
      have HB := Lib.hid hb
      clear hb h0
      go_enter Tryz.func70, Tryz.ntmps70
      go_wp2_with (go_at_call 95; refine (cK _ (alloc_below _ _) (box_cell _ _ _) _ _ _ _).mono ?_; rintro e w' ⟨rfl, rfl⟩; rw [HB.out])
      go_ret
      exact ⟨by rw [HV.out]; rfl, alloc_below _ _⟩
    · have HV : Hid (kindV x (.slice p x.l.length c) = .iface 146 (.agg #[.int .i64 x.n])) := by
        unfold Hid kindV; simp [h0, hb]
      have HB := Lib.hid hb
      clear hb h0
      go_enter Tryz.func70, Tryz.ntmps70
      go_wp2_with (go_at_call 95; refine (cK _ (alloc_below _ _) (box_cell _ _ _) _ _ _ _).mono ?_; rintro e w' ⟨rfl, rfl⟩; rw [HB.out])
      go_ret
      exact ⟨by rw [HV.out]; rfl, alloc_below _ _⟩
  by_cases h2 : x.k = 2
  · rw [h2] at hk
    cases hb : bareB x true false false false
    · have HV : Hid (kindV x (.slice p x.l.length c) = .nilIface) := by
        unfold Hid kindV; simp [h2, hb]
      have HB := Lib.hid hb
      clear hb h0 h2
      go_enter Tryz.func70, Tryz.ntmps70
      go_wp2_with (go_at_call 95; refine (cK _ (alloc_below _ _) (box_cell _ _ _) _ _ _ _).mono ?_; rintro e w' ⟨rfl, rfl⟩; rw [HB.out])
      go_ret
      exact ⟨by rw [HV.out]; rfl, alloc_below _ _⟩
    · have HV : Hid (kindV x (.slice p x.l.length c) = .iface 147 (.agg #[.int .i64 x.n])) := by
        unfold Hid kindV; simp [h2, hb]
      have HB := Lib.hid hb
      clear hb h0 h2
      go_enter Tryz.func70, Tryz.ntmps70
      go_wp2_with (go_at_call 95; refine (cK _ (alloc_below _ _) (box_cell _ _ _) _ _ _ _).mono ?_; rintro e w' ⟨rfl, rfl⟩; rw [HB.out])
      go_ret
      exact ⟨by rw [HV.out]; rfl, alloc_below _ _⟩
  by_cases h4 : x.k = 4
  · rw [h4] at hk
    cases hb : bareB x true false false false
    · have HV : Hid (kindV x (.slice p x.l.length c) = .nilIface) := by
        unfold Hid kindV; simp [h4, hb]
      have HB := Lib.hid hb
      clear hb h0 h2 h4
      go_enter Tryz.func70, Tryz.ntmps70
      go_wp2_with (go_at_call 95; refine (cK _ (alloc_below _ _) (box_cell _ _ _) _ _ _ _).mono ?_; rintro e w' ⟨rfl, rfl⟩; rw [HB.out])
      go_ret
      exact ⟨by rw [HV.out]; rfl, alloc_below _ _⟩
    · have HV : Hid (kindV x (.slice p x.l.length c) = .iface 147 (.agg #[.int .i64 x.n])) := by
        unfold Hid kindV; simp [h4, hb]
      have HB := Lib.hid hb
      clear hb h0 h2 h4
      go_enter Tryz.func70, Tryz.ntmps70
      go_wp2_with (go_at_call 95; refine (cK _ (alloc_below _ _) (box_cell _ _ _) _ _ _ _).mono ?_; rintro e w' ⟨rfl, rfl⟩; rw [HB.out])
      go_ret
      exact ⟨by rw [HV.out]; rfl, alloc_below _ _⟩
  by_cases h1 : x.k = 1
  · rw [h1] at hk
    cases hb : bareB x false true false false
    · have HV : Hid (kindV x (.slice p x.l.length c) = .nilIface) := by
        unfold Hid kindV; simp [h1, hb]
      have HB := Lib.hid hb
      clear hb h0 h2 h4 h1
      go_enter Tryz.func70, Tryz.ntmps70
      go_wp2_with (go_at_call 95; refine (cK _ (alloc_below _ _) (box_cell _ _ _) _ _ _ _).mono ?_; rintro e w' ⟨rfl, rfl⟩; rw [HB.out])
      go_ret
      exact ⟨by rw [HV.out]; rfl, alloc_below _ _⟩
    · have HV : Hid (kindV x (.slice p x.l.length c) = .iface 149 (.agg #[.string x.s])) := by
        unfold Hid kindV; simp [h1, hb]
      have HB := Lib.hid hb
      clear hb h0 h2 h4 h1
      go_enter Tryz.func70, Tryz.ntmps70
      go_wp2_with (go_at_call 95; refine (cK _ (alloc_below _ _) (box_cell _ _ _) _ _ _ _).mono ?_; rintro e w' ⟨rfl, rfl⟩; rw [HB.out])
      go_ret
      exact ⟨by rw [HV.out]; rfl, alloc_below _ _⟩
  by_cases h3 : x.k = 3
  · rw [h3] at hk
    cases hb : bareB x true true true false
    · have HV : Hid (kindV x (.slice p x.l.length c) = .nilIface) := by
        unfold Hid kindV; simp [h3, hb]
      have HB := Lib.hid hb
      clear hb h0 h2 h4 h1 h3
      go_enter Tryz.func70, Tryz.ntmps70
      go_wp2_with (go_at_call 95; refine (cK _ (alloc_below _ _) (box_cell _ _ _) _ _ _ _).mono ?_; rintro e w' ⟨rfl, rfl⟩; rw [HB.out])
      go_ret
      exact ⟨by rw [HV.out]; rfl, alloc_below _ _⟩
    · have HV : Hid (kindV x (.slice p x.l.length c) = .iface 152 (.agg #[.string x.s, .string x.t, .int .i64 x.n])) := by
        unfold Hid kindV; simp [h3, hb]
      have HB := Lib.hid hb
      clear hb h0 h2 h4 h1 h3
      go_enter Tryz.func70, Tryz.ntmps70
      go_wp2_with (go_at_call 95; refine (cK _ (alloc_below _ _) (box_cell _ _ _) _ _ _ _).mono ?_; rintro e w' ⟨rfl, rfl⟩; rw [HB.out])
      go_quiet (fail)
      go_wp2
      go_ret
      exact ⟨by rw [HV.out]; rfl, below_drewN (alloc_below _ _) nq⟩
  by_cases h5 : x.k = 5
  · rw [h5] at hk
    cases hb : bareB x false false false true
    · have HV : Hid (kindV x (.slice p x.l.length c) = .nilIface) := by
        unfold Hid kindV; simp [h5, hb]
      have HB := Lib.hid hb
      clear hb h0 h2 h4 h1 h3 h5
      go_enter Tryz.func70, Tryz.ntmps70
      go_wp2_with (go_at_call 95; refine (cK _ (alloc_below _ _) (box_cell _ _ _) _ _ _ _).mono ?_; rintro e w' ⟨rfl, rfl⟩; rw [HB.out])
      go_ret
      exact ⟨by rw [HV.out]; rfl, alloc_below _ _⟩
    · have HV : Hid (kindV x (.slice p x.l.length c) = .iface 154 (.agg #[.slice p x.l.length c, .int .i64 (-1)])) := by
        unfold Hid kindV; simp [h5, hb]
      have HB := Lib.hid hb
      clear hb h0 h2 h4 h1 h3 h5
      go_enter Tryz.func70, Tryz.ntmps70
      go_wp2_with (go_at_call 95; refine (cK _ (alloc_below _ _) (box_cell _ _ _) _ _ _ _).mono ?_; rintro e w' ⟨rfl, rfl⟩; rw [HB.out])
      go_ret
      exact ⟨by rw [HV.out]; rfl, alloc_below _ _⟩
  by_cases h6 : x.k = 6
  · rw [h6] at hk
    cases hb : bareB x false false false false
    · have HV : Hid (kindV x (.slice p x.l.length c) = .nilIface) := by
        unfold Hid kindV; simp [h6, hb]
      have HB := Lib.hid hb
      clear hb h0 h2 h4 h1 h3 h5 h6
      go_enter Tryz.func70, Tryz.ntmps70
      go_wp2_with (go_at_call 95; refine (cK _ (alloc_below _ _) (box_cell _ _ _) _ _ _ _).mono ?_; rintro e w' ⟨rfl, rfl⟩; rw [HB.out])
      go_ret
      exact ⟨by rw [HV.out]; rfl, alloc_below _ _⟩
    · have HV : Hid (kindV x (.slice p x.l.length c) = .iface 154 (.agg #[.slice none 0 0, .int .i64 0])) := by
        unfold Hid kindV; simp [h6, hb]
      have HB := Lib.hid hb
      clear hb h0 h2 h4 h1 h3 h5 h6
      go_enter Tryz.func70, Tryz.ntmps70
      go_wp2_with (go_at_call 95; refine (cK _ (alloc_below _ _) (box_cell _ _ _) _ _ _ _).mono ?_; rintro e w' ⟨rfl, rfl⟩; rw [HB.out])
      go_ret
      exact ⟨by rw [HV.out]; rfl, alloc_below _ _⟩
  by_cases h7 : x.k = 7
  · rw [h7] at hk
    cases hb : bareB x false false false true
    · have HV : Hid (kindV x (.slice p x.l.length c) = .nilIface) := by
        unfold Hid kindV; simp [h7, hb]
      have HB := Lib.hid hb
      clear hb h0 h2 h4 h1 h3 h5 h6 h7
      go_enter Tryz.func70, Tryz.ntmps70
      go_wp2_with (go_at_call 95; refine (cK _ (alloc_below _ _) (box_cell _ _ _) _ _ _ _).mono ?_; rintro e w' ⟨rfl, rfl⟩; rw [HB.out])
      go_ret
      exact ⟨by rw [HV.out]; rfl, alloc_below _ _⟩
    · have HV : Hid (kindV x (.slice p x.l.length c) = .iface 154 (.agg #[.slice p x.l.length c, .int .i64 2])) := by
        unfold Hid kindV; simp [h7, hb]
      have HB := Lib.hid hb
      clear hb h0 h2 h4 h1 h3 h5 h6 h7
      go_enter Tryz.func70, Tryz.ntmps70
      go_wp2_with (go_at_call 95; refine (cK _ (alloc_below _ _) (box_cell _ _ _) _ _ _ _).mono ?_; rintro e w' ⟨rfl, rfl⟩; rw [HB.out])
      go_ret
      exact ⟨by rw [HV.out]; rfl, alloc_below _ _⟩
  have HV : Hid (kindV x (.slice p x.l.length c) = .nilIface) := by
    unfold Hid kindV; simp [h0, h1, h2, h3, h4, h5, h6, h7]
  have e0 : (x.k == 0) = false := by simpa using h0
  have e1 : (x.k == 1) = false := by simpa using h1
  have e2 : (x.k == 2) = false := by simpa using h2
  have e3 : (x.k == 3) = false := by simpa using h3
  have e4 : (x.k == 4) = false := by simpa using h4
  have e5 : (x.k == 5) = false := by simpa using h5
  have e6 : (x.k == 6) = false := by simpa using h6
  have e7 : (x.k == 7) = false := by simpa using h7
  clear h0 h1 h2 h3 h4 h5 h6 h7
  go_enter Tryz.func70, Tryz.ntmps70
  go_wp2
  go_ret
  exact ⟨by rw [HV.out]; rfl, alloc_below _ _⟩
end Go.Proofs.YtgliogfggajfgaaGreatDoor
namespace Go.Proofs.YtgliogfggajfgaaGreatDoor
open Go.RowKit
def oneB (x : Tr) : Bool :=
  if x.k = 0 then bareB x true false false false && mayI x.n
  else if x.k = 2 ∨ x.k = 4 then bareB x true false false false && (decide (0 ≤ x.n) && decide (x.n ≤ 576460752303423487))
  else if x.k = 1 then bareB x false true false false && mayA x.s
  else if x.k = 3 then bareB x true true true false && (mayA x.s && mayA x.t && (decide (0 ≤ x.n) && decide (x.n ≤ 8)))
  else if x.k = 5 then bareB x false false false true
  else if x.k = 6 then bareB x false false false false
  else if x.k = 7 then bareB x false false false true && ((x.l.length : Int) == 2)
  else false
theorem wf_s {x : Tr} (h : NodeWf x) : x.s.size ≤ 140737488355328 := h.s
theorem wf_t {x : Tr} (h : NodeWf x) : x.t.size ≤ 140737488355328 := h.t
theorem box3 (w : World) (x y z : Value) (T : TypeId) : (w.alloc (.cells #[x, y, z] T)).cell? ⟨w.heap.size, 0, none⟩ = some x ∧ (w.alloc (.cells #[x, y, z] T)).cell? ⟨w.heap.size, 1, none⟩ = some y ∧ (w.alloc (.cells #[x, y, z] T)).cell? ⟨w.heap.size, 2, none⟩ = some z := by
  refine ⟨?_, ?_, ?_⟩ <;> (rw [World.cell?_alloc_at _ _ _ _ (by simp)]; rfl)
theorem as_number_number (v : Value) (w : World) : (Instr.typeAssert (.iface 146 v) 20 146 true).run Tryz.prog w = .ok (.tuple #[v, .bool true]) w := by kernel_rfl
theorem as_named_number (v : Value) (w : World) : (Instr.typeAssert (.iface 147 v) 20 146 true).run Tryz.prog w = .ok (.tuple #[.agg #[.int .i64 0], .bool false]) w := by kernel_rfl
theorem as_named_named (v : Value) (w : World) : (Instr.typeAssert (.iface 147 v) 20 147 true).run Tryz.prog w = .ok (.tuple #[v, .bool true]) w := by kernel_rfl
theorem as_atom_number (v : Value) (w : World) : (Instr.typeAssert (.iface 149 v) 20 146 true).run Tryz.prog w = .ok (.tuple #[.agg #[.int .i64 0], .bool false]) w := by kernel_rfl
theorem as_atom_named (v : Value) (w : World) : (Instr.typeAssert (.iface 149 v) 20 147 true).run Tryz.prog w = .ok (.tuple #[.agg #[.int .i64 0], .bool false]) w := by kernel_rfl
theorem as_atom_atom (v : Value) (w : World) : (Instr.typeAssert (.iface 149 v) 20 149 true).run Tryz.prog w = .ok (.tuple #[v, .bool true]) w := by kernel_rfl
theorem as_fun_number (v : Value) (w : World) : (Instr.typeAssert (.iface 152 v) 20 146 true).run Tryz.prog w = .ok (.tuple #[.agg #[.int .i64 0], .bool false]) w := by kernel_rfl
theorem as_fun_named (v : Value) (w : World) : (Instr.typeAssert (.iface 152 v) 20 147 true).run Tryz.prog w = .ok (.tuple #[.agg #[.int .i64 0], .bool false]) w := by kernel_rfl
theorem as_fun_atom (v : Value) (w : World) : (Instr.typeAssert (.iface 152 v) 20 149 true).run Tryz.prog w = .ok (.tuple #[.agg #[.string ⟨#[]⟩], .bool false]) w := by kernel_rfl
theorem as_fun_fun (v : Value) (w : World) : (Instr.typeAssert (.iface 152 v) 20 152 true).run Tryz.prog w = .ok (.tuple #[v, .bool true]) w := by kernel_rfl
theorem as_parts_number (v : Value) (w : World) : (Instr.typeAssert (.iface 154 v) 20 146 true).run Tryz.prog w = .ok (.tuple #[.agg #[.int .i64 0], .bool false]) w := by kernel_rfl
theorem as_parts_named (v : Value) (w : World) : (Instr.typeAssert (.iface 154 v) 20 147 true).run Tryz.prog w = .ok (.tuple #[.agg #[.int .i64 0], .bool false]) w := by kernel_rfl
theorem as_parts_atom (v : Value) (w : World) : (Instr.typeAssert (.iface 154 v) 20 149 true).run Tryz.prog w = .ok (.tuple #[.agg #[.string ⟨#[]⟩], .bool false]) w := by kernel_rfl
theorem as_parts_fun (v : Value) (w : World) : (Instr.typeAssert (.iface 154 v) 20 152 true).run Tryz.prog w = .ok (.tuple #[.agg #[.string ⟨#[]⟩, .string ⟨#[]⟩, .int .i64 0], .bool false]) w := by kernel_rfl
theorem as_parts_parts (v : Value) (w : World) : (Instr.typeAssert (.iface 154 v) 20 154 true).run Tryz.prog w = .ok (.tuple #[v, .bool true]) w := by kernel_rfl
theorem as_nil_number (w : World) : (Instr.typeAssert .nilIface 20 146 true).run Tryz.prog w = .ok (.tuple #[.agg #[.int .i64 0], .bool false]) w := by kernel_rfl
theorem as_nil_named (w : World) : (Instr.typeAssert .nilIface 20 147 true).run Tryz.prog w = .ok (.tuple #[.agg #[.int .i64 0], .bool false]) w := by kernel_rfl
theorem as_nil_atom (w : World) : (Instr.typeAssert .nilIface 20 149 true).run Tryz.prog w = .ok (.tuple #[.agg #[.string ⟨#[]⟩], .bool false]) w := by kernel_rfl
theorem as_nil_fun (w : World) : (Instr.typeAssert .nilIface 20 152 true).run Tryz.prog w = .ok (.tuple #[.agg #[.string ⟨#[]⟩, .string ⟨#[]⟩, .int .i64 0], .bool false]) w := by kernel_rfl
theorem as_nil_parts (w : World) : (Instr.typeAssert .nilIface 20 154 true).run Tryz.prog w = .ok (.tuple #[.agg #[.slice none 0 0, .int .i64 0], .bool false]) w := by kernel_rfl
set_option maxHeartbeats 1000000 in
set_option maxRecDepth 100000 in
theorem one_nil {w : World} {g o : Nat} (cK : Calls Tryz.prog 70 #[.pointer (some ⟨g, o, none⟩)] w fun e w' => e = .returned .nilIface ∧ Below w.heap.size w w') :
    Calls Tryz.prog 51 #[.pointer (some ⟨g, o, none⟩)] w fun e w' => e = .returned (.bool false) ∧ Below w.heap.size w w' := by
  have as_number := as_nil_number
  have as_named := as_nil_named
  have as_atom := as_nil_atom
  have as_fun := as_nil_fun
  have as_parts := as_nil_parts
  go_enter Tryz.func51, Tryz.ntmps51
  go_wp2_with (go_at_call 70; refine cK.mono ?_; rintro e w1 ⟨rfl, hb1⟩)
  go_ret
  refine ⟨rfl, ?_⟩
  exact hb1
set_option maxHeartbeats 1000000 in
set_option maxRecDepth 100000 in
theorem one_number {w : World} {g o : Nat} {n : Int} (cK : Calls Tryz.prog 70 #[.pointer (some ⟨g, o, none⟩)] w fun e w' => e = .returned (.iface 146 (.agg #[.int .i64 n])) ∧ Below w.heap.size w w') :
    Calls Tryz.prog 51 #[.pointer (some ⟨g, o, none⟩)] w fun e w' => e = .returned (.bool (mayI n)) ∧ Below w.heap.size w w' := by
  have as_number := as_number_number
  go_enter Tryz.func51, Tryz.ntmps51
  go_wp2_with (first | (go_at_call 70; refine cK.mono ?_; rintro e w1 ⟨rfl, hb1⟩) | (go_at_call 71; refine (intsMay_any _ _).mono ?_; rintro e w' ⟨rfl, rfl⟩))
  go_ret
  exact ⟨rfl, hb1.alloc hb1.size _⟩
set_option maxHeartbeats 1000000 in
set_option maxRecDepth 100000 in
theorem one_named {w : World} {g o : Nat} {n : Int} (cK : Calls Tryz.prog 70 #[.pointer (some ⟨g, o, none⟩)] w fun e w' => e = .returned (.iface 147 (.agg #[.int .i64 n])) ∧ Below w.heap.size w w') :
    Calls Tryz.prog 51 #[.pointer (some ⟨g, o, none⟩)] w fun e w' => e = .returned (.bool (decide (0 ≤ n) && decide (n ≤ 576460752303423487))) ∧ Below w.heap.size w w' := by
  have as_number := as_named_number
  have as_named := as_named_named
  by_cases h0 : 0 ≤ n
  · go_enter Tryz.func51, Tryz.ntmps51
    go_wp2_with (first | (go_at_call 70; refine cK.mono ?_; rintro e w1 ⟨rfl, hb1⟩))
    go_ret
    exact ⟨ret_bool (by rw [decide_eq_true h0]; rfl), hb1.alloc hb1.size _⟩
  · go_enter Tryz.func51, Tryz.ntmps51
    go_wp2_with (first | (go_at_call 70; refine cK.mono ?_; rintro e w1 ⟨rfl, hb1⟩))
    go_ret
    exact ⟨ret_bool (by rw [Bool.eq_iff_iff]; simp; omega), hb1.alloc hb1.size _⟩
set_option maxHeartbeats 1000000 in
set_option maxRecDepth 100000 in
theorem one_atom {w : World} {g o : Nat} {s : ByteArray} (hL : Letters w) (hS : s.size ≤ 140737488355328) (cK : Calls Tryz.prog 70 #[.pointer (some ⟨g, o, none⟩)] w fun e w' => e = .returned (.iface 149 (.agg #[.string s])) ∧ Below w.heap.size w w') :
    Calls Tryz.prog 51 #[.pointer (some ⟨g, o, none⟩)] w fun e w' => e = .returned (.bool (mayA s)) ∧ Below w.heap.size w w' := by
  have as_number := as_atom_number
  have as_named := as_atom_named
  have as_atom := as_atom_atom
  go_enter Tryz.func51, Tryz.ntmps51
  go_wp2_with (first | (go_at_call 70; refine cK.mono ?_; rintro e w1 ⟨rfl, hb1⟩; have hBz := hb1.alloc hb1.size (.cells #[.string s] 149); have hL1 := hL.under hBz) | (go_at_call 72; refine (mayA_any hL1 _ hS).mono ?_; rintro e w2 ⟨rfl, hb2⟩))
  go_ret
  exact ⟨rfl, hBz.trans (hb2.mono hBz.size)⟩
set_option maxHeartbeats 1000000 in
set_option maxRecDepth 100000 in
theorem one_fun {w : World} {g o : Nat} {s t : ByteArray} {n : Int} (hL : Letters w) (hS : s.size ≤ 140737488355328) (hT : t.size ≤ 140737488355328) (cK : Calls Tryz.prog 70 #[.pointer (some ⟨g, o, none⟩)] w fun e w' => e = .returned (.iface 152 (.agg #[.string s, .string t, .int .i64 n])) ∧ Below w.heap.size w w') :
    Calls Tryz.prog 51 #[.pointer (some ⟨g, o, none⟩)] w fun e w' => e = .returned (.bool (mayA s && mayA t && (decide (0 ≤ n) && decide (n ≤ 8)))) ∧ Below w.heap.size w w' := by
  have as_number := as_fun_number
  have as_named := as_fun_named
  have as_atom := as_fun_atom
  have as_fun := as_fun_fun
  have cM := fun (W : World) (u : ByteArray) (hb : Below w.heap.size w W) (hu : u = s ∨ u = t) => mayA_any (hL.under hb) u (by rcases hu with rfl | rfl <;> assumption)
  clear hL
  cases hs : mayA s
  · have HS := Lib.hid hs
    clear hs
    go_enter Tryz.func51, Tryz.ntmps51
    go_wp2_with (first | (go_at_call 70; refine cK.mono ?_; rintro e w1 ⟨rfl, hb1⟩; have hBz := hb1.alloc hb1.size (.cells #[.string s, .string t, .int .i64 n] 152); have hb2c := Below.refl (w1.heap.size + 1) (w1.alloc (.cells #[.string s, .string t, .int .i64 n] 152)); have q1 : (w1.alloc (.cells #[.string s, .string t, .int .i64 n] 152)).cell? ⟨w1.heap.size, 1, none⟩ = some (.string t) := (box3 _ _ _ _ _).2.1; have q2 : (w1.alloc (.cells #[.string s, .string t, .int .i64 n] 152)).cell? ⟨w1.heap.size, 2, none⟩ = some (.int .i64 n) := (box3 _ _ _ _ _).2.2) | (go_at_call 72; refine (cM _ _ hBz (by first | exact .inl rfl | exact .inr rfl)).mono ?_; rintro e w2 ⟨rfl, hb2⟩; have hBz := hBz.trans (hb2.mono hBz.size); have q1 := (hb2.cell (p := ⟨w1.heap.size, 1, none⟩) (cell_block q1)).trans q1; have q2 := (hb2.cell (p := ⟨w1.heap.size, 2, none⟩) (cell_block q2)).trans q2; rw [HS.out]))
    go_ret
    exact ⟨rfl, hBz⟩
  · have HS := Lib.hid hs
    clear hs
    cases ht : mayA t
    · have HT := Lib.hid ht
      clear ht
      go_enter Tryz.func51, Tryz.ntmps51
      go_wp2_with (first | (go_at_call 70; refine cK.mono ?_; rintro e w1 ⟨rfl, hb1⟩; have hBz := hb1.alloc hb1.size (.cells #[.string s, .string t, .int .i64 n] 152); have hb2c := Below.refl (w1.heap.size + 1) (w1.alloc (.cells #[.string s, .string t, .int .i64 n] 152)); have q1 : (w1.alloc (.cells #[.string s, .string t, .int .i64 n] 152)).cell? ⟨w1.heap.size, 1, none⟩ = some (.string t) := (box3 _ _ _ _ _).2.1; have q2 : (w1.alloc (.cells #[.string s, .string t, .int .i64 n] 152)).cell? ⟨w1.heap.size, 2, none⟩ = some (.int .i64 n) := (box3 _ _ _ _ _).2.2) | (go_at_call 72; refine (cM _ _ hBz (by first | exact .inl rfl | exact .inr rfl)).mono ?_; rintro e w2 ⟨rfl, hb2⟩; have hBz := hBz.trans (hb2.mono hBz.size); have q1 := (hb2.cell (p := ⟨w1.heap.size, 1, none⟩) (cell_block q1)).trans q1; have q2 := (hb2.cell (p := ⟨w1.heap.size, 2, none⟩) (cell_block q2)).trans q2; first | rw [HS.out] | rw [HT.out]))
      go_ret
      exact ⟨rfl, hBz⟩
    · have HT := Lib.hid ht
      clear ht
      by_cases h0 : 0 ≤ n
      · go_enter Tryz.func51, Tryz.ntmps51
        go_wp2_with (first | (go_at_call 70; refine cK.mono ?_; rintro e w1 ⟨rfl, hb1⟩; have hBz := hb1.alloc hb1.size (.cells #[.string s, .string t, .int .i64 n] 152); have hb2c := Below.refl (w1.heap.size + 1) (w1.alloc (.cells #[.string s, .string t, .int .i64 n] 152)); have q1 : (w1.alloc (.cells #[.string s, .string t, .int .i64 n] 152)).cell? ⟨w1.heap.size, 1, none⟩ = some (.string t) := (box3 _ _ _ _ _).2.1; have q2 : (w1.alloc (.cells #[.string s, .string t, .int .i64 n] 152)).cell? ⟨w1.heap.size, 2, none⟩ = some (.int .i64 n) := (box3 _ _ _ _ _).2.2) | (go_at_call 72; refine (cM _ _ hBz (by first | exact .inl rfl | exact .inr rfl)).mono ?_; rintro e w2 ⟨rfl, hb2⟩; have hBz := hBz.trans (hb2.mono hBz.size); have q1 := (hb2.cell (p := ⟨w1.heap.size, 1, none⟩) (cell_block q1)).trans q1; have q2 := (hb2.cell (p := ⟨w1.heap.size, 2, none⟩) (cell_block q2)).trans q2; first | rw [HS.out] | rw [HT.out]))
        go_ret
        exact ⟨ret_bool (by rw [decide_eq_true h0]; rfl), hBz⟩
      · go_enter Tryz.func51, Tryz.ntmps51
        go_wp2_with (first | (go_at_call 70; refine cK.mono ?_; rintro e w1 ⟨rfl, hb1⟩; have hBz := hb1.alloc hb1.size (.cells #[.string s, .string t, .int .i64 n] 152); have hb2c := Below.refl (w1.heap.size + 1) (w1.alloc (.cells #[.string s, .string t, .int .i64 n] 152)); have q1 : (w1.alloc (.cells #[.string s, .string t, .int .i64 n] 152)).cell? ⟨w1.heap.size, 1, none⟩ = some (.string t) := (box3 _ _ _ _ _).2.1; have q2 : (w1.alloc (.cells #[.string s, .string t, .int .i64 n] 152)).cell? ⟨w1.heap.size, 2, none⟩ = some (.int .i64 n) := (box3 _ _ _ _ _).2.2) | (go_at_call 72; refine (cM _ _ hBz (by first | exact .inl rfl | exact .inr rfl)).mono ?_; rintro e w2 ⟨rfl, hb2⟩; have hBz := hBz.trans (hb2.mono hBz.size); have q1 := (hb2.cell (p := ⟨w1.heap.size, 1, none⟩) (cell_block q1)).trans q1; have q2 := (hb2.cell (p := ⟨w1.heap.size, 2, none⟩) (cell_block q2)).trans q2; first | rw [HS.out] | rw [HT.out]))
        go_ret
        exact ⟨ret_bool (by rw [Bool.eq_iff_iff]; simp; omega), hBz⟩
set_option maxHeartbeats 1000000 in
set_option maxRecDepth 100000 in
theorem one_parts {w : World} {g o : Nat} {p : Option Addr} {n c : Nat} {m : Int} (_hn : n ≤ 2199023255552) (cK : Calls Tryz.prog 70 #[.pointer (some ⟨g, o, none⟩)] w fun e w' => e = .returned (.iface 154 (.agg #[.slice p n c, .int .i64 m])) ∧ Below w.heap.size w w') :
    Calls Tryz.prog 51 #[.pointer (some ⟨g, o, none⟩)] w fun e w' => e = .returned (.bool (decide (m < 0) || (n : Int) == m)) ∧ Below w.heap.size w w' := by
  have as_number := as_parts_number
  have as_named := as_parts_named
  have as_atom := as_parts_atom
  have as_fun := as_parts_fun
  have as_parts := as_parts_parts
  by_cases h0 : m < 0
  · go_enter Tryz.func51, Tryz.ntmps51
    go_wp2_with (first | (go_at_call 70; refine cK.mono ?_; rintro e w1 ⟨rfl, hb1⟩))
    go_ret
    exact ⟨ret_bool (by rw [decide_eq_true h0, Bool.true_or]), hb1.alloc hb1.size _⟩
  · go_enter Tryz.func51, Tryz.ntmps51
    go_wp2_with (first | (go_at_call 70; refine cK.mono ?_; rintro e w1 ⟨rfl, hb1⟩))
    go_ret
    exact ⟨ret_bool (by rw [Bool.eq_iff_iff]), hb1.alloc hb1.size _⟩
theorem one_any {w : World} (hL : Letters w) {g o : Nat} {x : Tr} {p : Option Addr} {c : Nat} (h : NodeAt w g o x (.slice p x.l.length c)) (hw : NodeWf x) (hlen : x.l.length ≤ 2199023255552) :
    Calls Tryz.prog 51 #[.pointer (some ⟨g, o, none⟩)] w fun e w' => e = .returned (.bool (oneB x)) ∧ Below w.heap.size w w' := by
  have cK := kind_any h
  have hS := wf_s hw
  have hT := wf_t hw
  unfold kindV at cK
  unfold oneB
  by_cases h0 : x.k = 0
  · rw [if_pos h0] at cK ⊢
    cases hb : bareB x true false false false <;> rw [hb] at cK
    · exact one_nil cK
    · exact one_number cK
  rw [if_neg h0] at cK ⊢
  by_cases h2 : x.k = 2 ∨ x.k = 4
  · rw [if_pos h2] at cK ⊢
    cases hb : bareB x true false false false <;> rw [hb] at cK
    · exact one_nil cK
    · exact one_named cK
  rw [if_neg h2] at cK ⊢
  by_cases h1 : x.k = 1
  · rw [if_pos h1] at cK ⊢
    cases hb : bareB x false true false false <;> rw [hb] at cK
    · exact one_nil cK
    · exact one_atom hL hS cK
  rw [if_neg h1] at cK ⊢
  by_cases h3 : x.k = 3
  · rw [if_pos h3] at cK ⊢
    cases hb : bareB x true true true false <;> rw [hb] at cK
    · exact one_nil cK
    · exact one_fun hL hS hT cK
  rw [if_neg h3] at cK ⊢
  by_cases h5 : x.k = 5
  · rw [if_pos h5] at cK ⊢
    cases hb : bareB x false false false true <;> rw [hb] at cK
    · exact one_nil cK
    · exact one_parts hlen cK
  rw [if_neg h5] at cK ⊢
  by_cases h6 : x.k = 6
  · rw [if_pos h6] at cK ⊢
    cases hb : bareB x false false false false <;> rw [hb] at cK
    · exact one_nil cK
    · exact one_parts (n := 0) (Nat.zero_le _) cK
  rw [if_neg h6] at cK ⊢
  by_cases h7 : x.k = 7
  · rw [if_pos h7] at cK ⊢
    cases hb : bareB x false false false true <;> rw [hb] at cK
    · exact one_nil cK
    · exact one_parts hlen cK
  rw [if_neg h7] at cK ⊢
  exact one_nil cK
end Go.Proofs.YtgliogfggajfgaaGreatDoor
namespace Go.Proofs.YtgliogfggajfgaaGreatDoor
open Go.RowKit
theorem box5 (w : World) (a b c d e : Value) (T : TypeId) : (w.alloc (.cells #[a, b, c, d, e] T)).cell? ⟨w.heap.size, 0, none⟩ = some a ∧ (w.alloc (.cells #[a, b, c, d, e] T)).cell? ⟨w.heap.size, 1, none⟩ = some b ∧ (w.alloc (.cells #[a, b, c, d, e] T)).cell? ⟨w.heap.size, 2, none⟩ = some c ∧
    (w.alloc (.cells #[a, b, c, d, e] T)).cell? ⟨w.heap.size, 3, none⟩ = some d ∧ (w.alloc (.cells #[a, b, c, d, e] T)).cell? ⟨w.heap.size, 4, none⟩ = some e := by
  refine ⟨?_, ?_, ?_, ?_, ?_⟩ <;> (rw [World.cell?_alloc_at _ _ _ _ (by simp)]; rfl)
set_option maxHeartbeats 4000000 in
set_option maxRecDepth 100000 in
theorem rbare_any (w : World) (x : Tr) (p : Option Addr) (c : Nat) (n s t l : Bool) :
    Calls Tryz.prog 111 #[.agg #[.int .i8 x.k, .int .i64 x.n, .string x.s, .string x.t, .slice p x.l.length c], .bool n, .bool s, .bool t, .bool l] w fun e w' => e = .returned (.bool (bareB x n s t l)) ∧ Below w.heap.size w w' := by
  obtain ⟨e0, e1, e2, e3, e4⟩ := box5 w (.int .i8 x.k) (.int .i64 x.n) (.string x.s) (.string x.t) (.slice p x.l.length c) 25
  cases n <;> cases s <;> cases t <;> cases l
  all_goals
    go_enter Tryz.func111, Tryz.ntmps111
    go_wp2
    all_goals
      go_ret
      exact ⟨ret_bool (by simp [bareB, emp, *]), alloc_below _ _⟩
set_option maxHeartbeats 4000000 in
set_option maxRecDepth 100000 in
theorem rone_any (w : World) (x : Tr) (p : Option Addr) (c : Nat) (hw : NodeWf x) :
    Calls Tryz.prog 91 #[.agg #[.int .i8 x.k, .int .i64 x.n, .string x.s, .string x.t, .slice p x.l.length c]] w fun e w' => e = .returned (.bool (oneB x)) ∧ Below w.heap.size w w' := by
  obtain ⟨e0, e1, e2, e3, e4⟩ := box5 w (.int .i8 x.k) (.int .i64 x.n) (.string x.s) (.string x.t) (.slice p x.l.length c) 25
  have hb0 := alloc_below w (.cells #[.int .i8 x.k, .int .i64 x.n, .string x.s, .string x.t, .slice p x.l.length c] 25)
  have cB := fun W => rbare_any W x p c
  have hS := wf_s hw
  have hT := wf_t hw
  have cM := fun (W : World) (u : ByteArray) (hu : u = x.s ∨ u = x.t) => rmay_any W u (by rcases hu with rfl | rfl <;> assumption)
  clear hw
  by_cases h0 : x.k = 0
  · rw [h0] at cB
    cases hb : bareB x true false false false
    · have HV : Hid (oneB x = false) := by unfold Hid oneB; simp [h0, hb]
      have HB := Lib.hid hb
      rw [h0] at e0 hb0 e1 e2 e3 e4 ⊢
      clear hb h0
      go_enter Tryz.func91, Tryz.ntmps91
      go_wp2_with (first | (go_at_call 111; refine (cB _ _ _ _ _).mono ?_; rintro e w1 ⟨rfl, hb1⟩; rw [HB.out]; have e1 := (hb1.cell (p := ⟨w.heap.size, 1, none⟩) (cell_block e1)).trans e1; have e2 := (hb1.cell (p := ⟨w.heap.size, 2, none⟩) (cell_block e2)).trans e2; have e3 := (hb1.cell (p := ⟨w.heap.size, 3, none⟩) (cell_block e3)).trans e3; have e4 := (hb1.cell (p := ⟨w.heap.size, 4, none⟩) (cell_block e4)).trans e4))
      go_ret
      exact ⟨by rw [HV.out]; rfl, hb0.trans (hb1.mono hb0.size)⟩
    · have HV : Hid (oneB x = (mayI x.n)) := by unfold Hid oneB; simp [h0, hb]
      have HB := Lib.hid hb
      rw [h0] at e0 hb0 e1 e2 e3 e4 ⊢
      clear hb h0
      go_enter Tryz.func91, Tryz.ntmps91
      go_wp2_with (first | (go_at_call 111; refine (cB _ _ _ _ _).mono ?_; rintro e w1 ⟨rfl, hb1⟩; rw [HB.out]; have e1 := (hb1.cell (p := ⟨w.heap.size, 1, none⟩) (cell_block e1)).trans e1; have e2 := (hb1.cell (p := ⟨w.heap.size, 2, none⟩) (cell_block e2)).trans e2; have e3 := (hb1.cell (p := ⟨w.heap.size, 3, none⟩) (cell_block e3)).trans e3; have e4 := (hb1.cell (p := ⟨w.heap.size, 4, none⟩) (cell_block e4)).trans e4) | (go_at_call 112; refine (rintsMay_any _ _).mono ?_; rintro e w' ⟨rfl, rfl⟩))
      go_ret
      exact ⟨by rw [HV.out]; rfl, hb0.trans (hb1.mono hb0.size)⟩
  by_cases h1 : x.k = 1
  · rw [h1] at cB
    cases hb : bareB x false true false false
    · have HV : Hid (oneB x = false) := by unfold Hid oneB; simp [h1, hb]
      have HB := Lib.hid hb
      rw [h1] at e0 hb0 e1 e2 e3 e4 ⊢
      clear hb h0 h1
      go_enter Tryz.func91, Tryz.ntmps91
      go_wp2_with (first | (go_at_call 111; refine (cB _ _ _ _ _).mono ?_; rintro e w1 ⟨rfl, hb1⟩; rw [HB.out]; have e1 := (hb1.cell (p := ⟨w.heap.size, 1, none⟩) (cell_block e1)).trans e1; have e2 := (hb1.cell (p := ⟨w.heap.size, 2, none⟩) (cell_block e2)).trans e2; have e3 := (hb1.cell (p := ⟨w.heap.size, 3, none⟩) (cell_block e3)).trans e3; have e4 := (hb1.cell (p := ⟨w.heap.size, 4, none⟩) (cell_block e4)).trans e4))
      go_ret
      exact ⟨by rw [HV.out]; rfl, hb0.trans (hb1.mono hb0.size)⟩
    · have HV : Hid (oneB x = (mayA x.s)) := by unfold Hid oneB; simp [h1, hb]
      have HB := Lib.hid hb
      rw [h1] at e0 hb0 e1 e2 e3 e4 ⊢
      clear hb h0 h1
      go_enter Tryz.func91, Tryz.ntmps91
      go_wp2_with (first | (go_at_call 111; refine (cB _ _ _ _ _).mono ?_; rintro e w1 ⟨rfl, hb1⟩; rw [HB.out]; have e1 := (hb1.cell (p := ⟨w.heap.size, 1, none⟩) (cell_block e1)).trans e1; have e2 := (hb1.cell (p := ⟨w.heap.size, 2, none⟩) (cell_block e2)).trans e2; have e3 := (hb1.cell (p := ⟨w.heap.size, 3, none⟩) (cell_block e3)).trans e3; have e4 := (hb1.cell (p := ⟨w.heap.size, 4, none⟩) (cell_block e4)).trans e4) | (go_at_call 113; refine (cM _ _ (.inl rfl)).mono ?_; rintro e w' ⟨rfl, rfl⟩))
      go_ret
      exact ⟨by rw [HV.out]; rfl, hb0.trans (hb1.mono hb0.size)⟩
  by_cases h2 : x.k = 2
  · rw [h2] at cB
    cases hb : bareB x true false false false
    · have HV : Hid (oneB x = false) := by unfold Hid oneB; simp [h2, hb]
      have HB := Lib.hid hb
      rw [h2] at e0 hb0 e1 e2 e3 e4 ⊢
      clear hb h0 h1 h2
      go_enter Tryz.func91, Tryz.ntmps91
      go_wp2_with (first | (go_at_call 111; refine (cB _ _ _ _ _).mono ?_; rintro e w1 ⟨rfl, hb1⟩; rw [HB.out]; have e1 := (hb1.cell (p := ⟨w.heap.size, 1, none⟩) (cell_block e1)).trans e1; have e2 := (hb1.cell (p := ⟨w.heap.size, 2, none⟩) (cell_block e2)).trans e2; have e3 := (hb1.cell (p := ⟨w.heap.size, 3, none⟩) (cell_block e3)).trans e3; have e4 := (hb1.cell (p := ⟨w.heap.size, 4, none⟩) (cell_block e4)).trans e4))
      go_ret
      exact ⟨by rw [HV.out]; rfl, hb0.trans (hb1.mono hb0.size)⟩
    · have HV : Hid (oneB x = (decide (0 ≤ x.n) && decide (x.n ≤ 576460752303423487))) := by unfold Hid oneB; simp [h2, hb]
      have HB := Lib.hid hb
      rw [h2] at e0 hb0 e1 e2 e3 e4 ⊢
      clear hb h0 h1 h2
      by_cases h0 : 0 ≤ x.n
      · go_enter Tryz.func91, Tryz.ntmps91
        go_wp2_with (first | (go_at_call 111; refine (cB _ _ _ _ _).mono ?_; rintro e w1 ⟨rfl, hb1⟩; rw [HB.out]; have e1 := (hb1.cell (p := ⟨w.heap.size, 1, none⟩) (cell_block e1)).trans e1; have e2 := (hb1.cell (p := ⟨w.heap.size, 2, none⟩) (cell_block e2)).trans e2; have e3 := (hb1.cell (p := ⟨w.heap.size, 3, none⟩) (cell_block e3)).trans e3; have e4 := (hb1.cell (p := ⟨w.heap.size, 4, none⟩) (cell_block e4)).trans e4))
        go_ret
        exact ⟨by rw [HV.out]; rw [decide_eq_true h0]; rfl, hb0.trans (hb1.mono hb0.size)⟩
      · go_enter Tryz.func91, Tryz.ntmps91
        go_wp2_with (first | (go_at_call 111; refine (cB _ _ _ _ _).mono ?_; rintro e w1 ⟨rfl, hb1⟩; rw [HB.out]; have e1 := (hb1.cell (p := ⟨w.heap.size, 1, none⟩) (cell_block e1)).trans e1; have e2 := (hb1.cell (p := ⟨w.heap.size, 2, none⟩) (cell_block e2)).trans e2; have e3 := (hb1.cell (p := ⟨w.heap.size, 3, none⟩) (cell_block e3)).trans e3; have e4 := (hb1.cell (p := ⟨w.heap.size, 4, none⟩) (cell_block e4)).trans e4))
        go_ret
        exact ⟨by rw [HV.out]; rw [decide_eq_false (by omega)]; rfl, hb0.trans (hb1.mono hb0.size)⟩
  by_cases h4 : x.k = 4
  · rw [h4] at cB
    cases hb : bareB x true false false false
    · have HV : Hid (oneB x = false) := by unfold Hid oneB; simp [h4, hb]
      have HB := Lib.hid hb
      rw [h4] at e0 hb0 e1 e2 e3 e4 ⊢
      clear hb h0 h1 h2 h4
      go_enter Tryz.func91, Tryz.ntmps91
      go_wp2_with (first | (go_at_call 111; refine (cB _ _ _ _ _).mono ?_; rintro e w1 ⟨rfl, hb1⟩; rw [HB.out]; have e1 := (hb1.cell (p := ⟨w.heap.size, 1, none⟩) (cell_block e1)).trans e1; have e2 := (hb1.cell (p := ⟨w.heap.size, 2, none⟩) (cell_block e2)).trans e2; have e3 := (hb1.cell (p := ⟨w.heap.size, 3, none⟩) (cell_block e3)).trans e3; have e4 := (hb1.cell (p := ⟨w.heap.size, 4, none⟩) (cell_block e4)).trans e4))
      go_ret
      exact ⟨by rw [HV.out]; rfl, hb0.trans (hb1.mono hb0.size)⟩
    · have HV : Hid (oneB x = (decide (0 ≤ x.n) && decide (x.n ≤ 576460752303423487))) := by unfold Hid oneB; simp [h4, hb]
      have HB := Lib.hid hb
      rw [h4] at e0 hb0 e1 e2 e3 e4 ⊢
      clear hb h0 h1 h2 h4
      by_cases h0 : 0 ≤ x.n
      · go_enter Tryz.func91, Tryz.ntmps91
        go_wp2_with (first | (go_at_call 111; refine (cB _ _ _ _ _).mono ?_; rintro e w1 ⟨rfl, hb1⟩; rw [HB.out]; have e1 := (hb1.cell (p := ⟨w.heap.size, 1, none⟩) (cell_block e1)).trans e1; have e2 := (hb1.cell (p := ⟨w.heap.size, 2, none⟩) (cell_block e2)).trans e2; have e3 := (hb1.cell (p := ⟨w.heap.size, 3, none⟩) (cell_block e3)).trans e3; have e4 := (hb1.cell (p := ⟨w.heap.size, 4, none⟩) (cell_block e4)).trans e4))
        go_ret
        exact ⟨by rw [HV.out]; rw [decide_eq_true h0]; rfl, hb0.trans (hb1.mono hb0.size)⟩
      · go_enter Tryz.func91, Tryz.ntmps91
        go_wp2_with (first | (go_at_call 111; refine (cB _ _ _ _ _).mono ?_; rintro e w1 ⟨rfl, hb1⟩; rw [HB.out]; have e1 := (hb1.cell (p := ⟨w.heap.size, 1, none⟩) (cell_block e1)).trans e1; have e2 := (hb1.cell (p := ⟨w.heap.size, 2, none⟩) (cell_block e2)).trans e2; have e3 := (hb1.cell (p := ⟨w.heap.size, 3, none⟩) (cell_block e3)).trans e3; have e4 := (hb1.cell (p := ⟨w.heap.size, 4, none⟩) (cell_block e4)).trans e4))
        go_ret
        exact ⟨by rw [HV.out]; rw [decide_eq_false (by omega)]; rfl, hb0.trans (hb1.mono hb0.size)⟩
  by_cases h3 : x.k = 3
  · rw [h3] at cB
    cases hb : bareB x true true true false
    · have HV : Hid (oneB x = false) := by unfold Hid oneB; simp [h3, hb]
      have HB := Lib.hid hb
      rw [h3] at e0 hb0 e1 e2 e3 e4 ⊢
      clear hb h0 h1 h2 h4 h3
      go_enter Tryz.func91, Tryz.ntmps91
      go_wp2_with (first | (go_at_call 111; refine (cB _ _ _ _ _).mono ?_; rintro e w1 ⟨rfl, hb1⟩; rw [HB.out]; have e1 := (hb1.cell (p := ⟨w.heap.size, 1, none⟩) (cell_block e1)).trans e1; have e2 := (hb1.cell (p := ⟨w.heap.size, 2, none⟩) (cell_block e2)).trans e2; have e3 := (hb1.cell (p := ⟨w.heap.size, 3, none⟩) (cell_block e3)).trans e3; have e4 := (hb1.cell (p := ⟨w.heap.size, 4, none⟩) (cell_block e4)).trans e4))
      go_ret
      exact ⟨by rw [HV.out]; rfl, hb0.trans (hb1.mono hb0.size)⟩
    · have HV : Hid (oneB x = (mayA x.s && mayA x.t && (decide (0 ≤ x.n) && decide (x.n ≤ 8)))) := by unfold Hid oneB; simp [h3, hb]
      have HB := Lib.hid hb
      rw [h3] at e0 hb0 e1 e2 e3 e4 ⊢
      clear hb h0 h1 h2 h4 h3
      cases hs : mayA x.s
      · have HS := Lib.hid hs
        rw [hs] at HV
        clear hs
        go_enter Tryz.func91, Tryz.ntmps91
        go_wp2_with (first | (go_at_call 111; refine (cB _ _ _ _ _).mono ?_; rintro e w1 ⟨rfl, hb1⟩; rw [HB.out]; have e1 := (hb1.cell (p := ⟨w.heap.size, 1, none⟩) (cell_block e1)).trans e1; have e2 := (hb1.cell (p := ⟨w.heap.size, 2, none⟩) (cell_block e2)).trans e2; have e3 := (hb1.cell (p := ⟨w.heap.size, 3, none⟩) (cell_block e3)).trans e3; have e4 := (hb1.cell (p := ⟨w.heap.size, 4, none⟩) (cell_block e4)).trans e4) | (go_at_call 113; refine (cM _ _ (by first | exact .inl rfl | exact .inr rfl)).mono ?_; rintro e w' ⟨rfl, rfl⟩; rw [HS.out]))
        go_ret
        exact ⟨by rw [HV.out]; rfl, hb0.trans (hb1.mono hb0.size)⟩
      · have HS := Lib.hid hs
        rw [hs] at HV
        clear hs
        cases ht : mayA x.t
        · have HT := Lib.hid ht
          rw [ht] at HV
          clear ht
          go_enter Tryz.func91, Tryz.ntmps91
          go_wp2_with (first | (go_at_call 111; refine (cB _ _ _ _ _).mono ?_; rintro e w1 ⟨rfl, hb1⟩; rw [HB.out]; have e1 := (hb1.cell (p := ⟨w.heap.size, 1, none⟩) (cell_block e1)).trans e1; have e2 := (hb1.cell (p := ⟨w.heap.size, 2, none⟩) (cell_block e2)).trans e2; have e3 := (hb1.cell (p := ⟨w.heap.size, 3, none⟩) (cell_block e3)).trans e3; have e4 := (hb1.cell (p := ⟨w.heap.size, 4, none⟩) (cell_block e4)).trans e4) | (go_at_call 113; refine (cM _ _ (by first | exact .inl rfl | exact .inr rfl)).mono ?_; rintro e w' ⟨rfl, rfl⟩; first | rw [HS.out] | rw [HT.out]))
          go_ret
          exact ⟨by rw [HV.out]; rfl, hb0.trans (hb1.mono hb0.size)⟩
        · have HT := Lib.hid ht
          rw [ht] at HV
          clear ht
          by_cases h0 : 0 ≤ x.n
          · go_enter Tryz.func91, Tryz.ntmps91
            go_wp2_with (first | (go_at_call 111; refine (cB _ _ _ _ _).mono ?_; rintro e w1 ⟨rfl, hb1⟩; rw [HB.out]; have e1 := (hb1.cell (p := ⟨w.heap.size, 1, none⟩) (cell_block e1)).trans e1; have e2 := (hb1.cell (p := ⟨w.heap.size, 2, none⟩) (cell_block e2)).trans e2; have e3 := (hb1.cell (p := ⟨w.heap.size, 3, none⟩) (cell_block e3)).trans e3; have e4 := (hb1.cell (p := ⟨w.heap.size, 4, none⟩) (cell_block e4)).trans e4) | (go_at_call 113; refine (cM _ _ (by first | exact .inl rfl | exact .inr rfl)).mono ?_; rintro e w' ⟨rfl, rfl⟩; first | rw [HS.out] | rw [HT.out]))
            go_ret
            exact ⟨by rw [HV.out]; rw [decide_eq_true h0]; rfl, hb0.trans (hb1.mono hb0.size)⟩
          · go_enter Tryz.func91, Tryz.ntmps91
            go_wp2_with (first | (go_at_call 111; refine (cB _ _ _ _ _).mono ?_; rintro e w1 ⟨rfl, hb1⟩; rw [HB.out]; have e1 := (hb1.cell (p := ⟨w.heap.size, 1, none⟩) (cell_block e1)).trans e1; have e2 := (hb1.cell (p := ⟨w.heap.size, 2, none⟩) (cell_block e2)).trans e2; have e3 := (hb1.cell (p := ⟨w.heap.size, 3, none⟩) (cell_block e3)).trans e3; have e4 := (hb1.cell (p := ⟨w.heap.size, 4, none⟩) (cell_block e4)).trans e4) | (go_at_call 113; refine (cM _ _ (by first | exact .inl rfl | exact .inr rfl)).mono ?_; rintro e w' ⟨rfl, rfl⟩; first | rw [HS.out] | rw [HT.out]))
            go_ret
            exact ⟨by rw [HV.out]; rw [decide_eq_false (by omega)]; rfl, hb0.trans (hb1.mono hb0.size)⟩
  by_cases h5 : x.k = 5
  · rw [h5] at cB
    cases hb : bareB x false false false true
    · have HV : Hid (oneB x = false) := by unfold Hid oneB; simp [h5, hb]
      have HB := Lib.hid hb
      rw [h5] at e0 hb0 e1 e2 e3 e4 ⊢
      clear hb h0 h1 h2 h4 h3 h5
      go_enter Tryz.func91, Tryz.ntmps91
      go_wp2_with (first | (go_at_call 111; refine (cB _ _ _ _ _).mono ?_; rintro e w1 ⟨rfl, hb1⟩; rw [HB.out]; have e1 := (hb1.cell (p := ⟨w.heap.size, 1, none⟩) (cell_block e1)).trans e1; have e2 := (hb1.cell (p := ⟨w.heap.size, 2, none⟩) (cell_block e2)).trans e2; have e3 := (hb1.cell (p := ⟨w.heap.size, 3, none⟩) (cell_block e3)).trans e3; have e4 := (hb1.cell (p := ⟨w.heap.size, 4, none⟩) (cell_block e4)).trans e4))
      go_ret
      exact ⟨by rw [HV.out]; rfl, hb0.trans (hb1.mono hb0.size)⟩
    · have HV : Hid (oneB x = (true)) := by unfold Hid oneB; simp [h5, hb]
      have HB := Lib.hid hb
      rw [h5] at e0 hb0 e1 e2 e3 e4 ⊢
      clear hb h0 h1 h2 h4 h3 h5
      go_enter Tryz.func91, Tryz.ntmps91
      go_wp2_with (first | (go_at_call 111; refine (cB _ _ _ _ _).mono ?_; rintro e w1 ⟨rfl, hb1⟩; rw [HB.out]; have e1 := (hb1.cell (p := ⟨w.heap.size, 1, none⟩) (cell_block e1)).trans e1; have e2 := (hb1.cell (p := ⟨w.heap.size, 2, none⟩) (cell_block e2)).trans e2; have e3 := (hb1.cell (p := ⟨w.heap.size, 3, none⟩) (cell_block e3)).trans e3; have e4 := (hb1.cell (p := ⟨w.heap.size, 4, none⟩) (cell_block e4)).trans e4))
      go_ret
      exact ⟨by rw [HV.out]; rfl, hb0.trans (hb1.mono hb0.size)⟩
  by_cases h6 : x.k = 6
  · rw [h6] at cB
    cases hb : bareB x false false false false
    · have HV : Hid (oneB x = false) := by unfold Hid oneB; simp [h6, hb]
      have HB := Lib.hid hb
      rw [h6] at e0 hb0 e1 e2 e3 e4 ⊢
      clear hb h0 h1 h2 h4 h3 h5 h6
      go_enter Tryz.func91, Tryz.ntmps91
      go_wp2_with (first | (go_at_call 111; refine (cB _ _ _ _ _).mono ?_; rintro e w1 ⟨rfl, hb1⟩; rw [HB.out]; have e1 := (hb1.cell (p := ⟨w.heap.size, 1, none⟩) (cell_block e1)).trans e1; have e2 := (hb1.cell (p := ⟨w.heap.size, 2, none⟩) (cell_block e2)).trans e2; have e3 := (hb1.cell (p := ⟨w.heap.size, 3, none⟩) (cell_block e3)).trans e3; have e4 := (hb1.cell (p := ⟨w.heap.size, 4, none⟩) (cell_block e4)).trans e4))
      go_ret
      exact ⟨by rw [HV.out]; rfl, hb0.trans (hb1.mono hb0.size)⟩
    · have HV : Hid (oneB x = (true)) := by unfold Hid oneB; simp [h6, hb]
      have HB := Lib.hid hb
      rw [h6] at e0 hb0 e1 e2 e3 e4 ⊢
      clear hb h0 h1 h2 h4 h3 h5 h6
      go_enter Tryz.func91, Tryz.ntmps91
      go_wp2_with (first | (go_at_call 111; refine (cB _ _ _ _ _).mono ?_; rintro e w1 ⟨rfl, hb1⟩; rw [HB.out]; have e1 := (hb1.cell (p := ⟨w.heap.size, 1, none⟩) (cell_block e1)).trans e1; have e2 := (hb1.cell (p := ⟨w.heap.size, 2, none⟩) (cell_block e2)).trans e2; have e3 := (hb1.cell (p := ⟨w.heap.size, 3, none⟩) (cell_block e3)).trans e3; have e4 := (hb1.cell (p := ⟨w.heap.size, 4, none⟩) (cell_block e4)).trans e4))
      go_ret
      exact ⟨by rw [HV.out]; rfl, hb0.trans (hb1.mono hb0.size)⟩
  by_cases h7 : x.k = 7
  · rw [h7] at cB
    cases hb : bareB x false false false true
    · have HV : Hid (oneB x = false) := by unfold Hid oneB; simp [h7, hb]
      have HB := Lib.hid hb
      rw [h7] at e0 hb0 e1 e2 e3 e4 ⊢
      clear hb h0 h1 h2 h4 h3 h5 h6 h7
      go_enter Tryz.func91, Tryz.ntmps91
      go_wp2_with (first | (go_at_call 111; refine (cB _ _ _ _ _).mono ?_; rintro e w1 ⟨rfl, hb1⟩; rw [HB.out]; have e1 := (hb1.cell (p := ⟨w.heap.size, 1, none⟩) (cell_block e1)).trans e1; have e2 := (hb1.cell (p := ⟨w.heap.size, 2, none⟩) (cell_block e2)).trans e2; have e3 := (hb1.cell (p := ⟨w.heap.size, 3, none⟩) (cell_block e3)).trans e3; have e4 := (hb1.cell (p := ⟨w.heap.size, 4, none⟩) (cell_block e4)).trans e4))
      go_ret
      exact ⟨by rw [HV.out]; rfl, hb0.trans (hb1.mono hb0.size)⟩
    · have HV : Hid (oneB x = ((x.l.length : Int) == 2)) := by unfold Hid oneB; simp [h7, hb]
      have HB := Lib.hid hb
      rw [h7] at e0 hb0 e1 e2 e3 e4 ⊢
      clear hb h0 h1 h2 h4 h3 h5 h6 h7
      go_enter Tryz.func91, Tryz.ntmps91
      go_wp2_with (first | (go_at_call 111; refine (cB _ _ _ _ _).mono ?_; rintro e w1 ⟨rfl, hb1⟩; rw [HB.out]; have e1 := (hb1.cell (p := ⟨w.heap.size, 1, none⟩) (cell_block e1)).trans e1; have e2 := (hb1.cell (p := ⟨w.heap.size, 2, none⟩) (cell_block e2)).trans e2; have e3 := (hb1.cell (p := ⟨w.heap.size, 3, none⟩) (cell_block e3)).trans e3; have e4 := (hb1.cell (p := ⟨w.heap.size, 4, none⟩) (cell_block e4)).trans e4))
      go_ret
      exact ⟨by rw [HV.out]; rfl, hb0.trans (hb1.mono hb0.size)⟩
  have HV : Hid (oneB x = false) := by
    unfold Hid oneB; simp [h0, h1, h2, h3, h4, h5, h6, h7]
  have g0 : (x.k == 0) = false := by simpa using h0
  have g1 : (x.k == 1) = false := by simpa using h1
  have g2 : (x.k == 2) = false := by simpa using h2
  have g3 : (x.k == 3) = false := by simpa using h3
  have g4 : (x.k == 4) = false := by simpa using h4
  have g5 : (x.k == 5) = false := by simpa using h5
  have g6 : (x.k == 6) = false := by simpa using h6
  have g7 : (x.k == 7) = false := by simpa using h7
  clear h0 h1 h2 h3 h4 h5 h6 h7
  go_enter Tryz.func91, Tryz.ntmps91
  go_wp2
  go_ret
  exact ⟨by rw [HV.out]; rfl, hb0⟩
end Go.Proofs.YtgliogfggajfgaaGreatDoor
namespace Go.Proofs.YtgliogfggajfgaaGreatDoor
open Go.RowKit
structure Turn (T : Nat → Prop) (w w' : World) : Prop where
  os : w'.os = w.os
  tape : w'.tape = w.tape
  output : w'.output = w.output
  size : w.heap.size ≤ w'.heap.size
  block : ∀ k, k < w.heap.size → ¬ T k → w'.heap[k]? = w.heap[k]?
theorem Turn.refl (T : Nat → Prop) (w : World) : Turn T w w := ⟨rfl, rfl, rfl, Nat.le_refl _, fun _ _ _ => rfl⟩
theorem Turn.trans {T : Nat → Prop} {a b c : World} (h : Turn T a b) (k : Turn T b c) : Turn T a c :=
  ⟨k.os.trans h.os, k.tape.trans h.tape, k.output.trans h.output, Nat.le_trans h.size k.size, fun i hi hT => (k.block i (Nat.lt_of_lt_of_le hi h.size) hT).trans (h.block i hi hT)⟩
theorem Turn.mono {T T' : Nat → Prop} {a b : World} (h : Turn T a b) (hT : ∀ k, k < a.heap.size → T k → T' k) : Turn T' a b :=
  ⟨h.os, h.tape, h.output, h.size, fun i hi hn => h.block i hi fun ht => hn (hT i hi ht)⟩
theorem Turn.of_below {T : Nat → Prop} {w w' : World} (h : Below w.heap.size w w') : Turn T w w' := ⟨h.os, h.tape, h.output, h.size, fun k hk _ => h.block k hk⟩
theorem Turn.setCell (w : World) (p : Addr) (u : Value) : Turn (· = p.block) w (w.setCell p u) :=
  ⟨rfl, rfl, rfl, by simp [World.setCell], fun k _ hne => Below.heap_setCell _ _ _ _ hne⟩
theorem Turn.alloc (T : Nat → Prop) (w : World) (o : Obj) : Turn T w (w.alloc o) := Turn.of_below ((Below.refl _ w).alloc (Nat.le_refl _) o)
theorem Turn.below {T : Nat → Prop} {w w' : World} (h : Turn T w w') {B : Nat} (hB : B ≤ w.heap.size) (hT : ∀ k, k < B → ¬ T k) : Below B w w' :=
  ⟨h.os, h.tape, h.output, h.size, fun k hk => h.block k (Nat.lt_of_lt_of_le hk hB) (hT k hk)⟩
theorem Turn.cell {T : Nat → Prop} {w w' : World} (h : Turn T w w') {g o : Nat} {v : Value} (hc : w.cell? ⟨g, o, none⟩ = some v) (hT : ¬ T g) : w'.cell? ⟨g, o, none⟩ = some v :=
  (World.cell?_of_block (a := ⟨g, o, none⟩) (h.block g (cell_block hc) hT)).trans hc
theorem Kids.turn {F : Nat → Prop} {w w' : World} {v : Value} {l : List Tr} (h : Kids F w v l) {T : Nat → Prop} (ht : Turn T w w') (hT : ∀ g, F g → ¬ T g) : Kids F w' v l := h.keep fun g hg hlt => ht.block g hlt (hT g hg)
theorem TrV.turn {F : Nat → Prop} {w w' : World} {x : Tr} {v : Value} (h : TrV F w x v) {T : Nat → Prop} (ht : Turn T w w') (hT : ∀ g, F g → ¬ T g) : TrV F w' x v := ⟨h.wf, h.kids.turn ht hT⟩
theorem NodeAt.turn {w w' : World} {g o : Nat} {x : Tr} {sv : Value} (h : NodeAt w g o x sv) {T : Nat → Prop} (ht : Turn T w w') (hT : ¬ T g) : NodeAt w' g o x sv := h.keep (ht.block g h.lt hT)
def Tr.cnt : Tr → Int → Int × Bool
  | .mk k n s t l, m => if oneB (.mk k n s t l) then cntl l m 1 else (1, false)
where cntl : List Tr → Int → Int → Int × Bool
  | [], _, n => (n, true)
  | x :: r, m, n => if m ≤ n then (n, true) else if (x.cnt (m - n)).2 then cntl r m (n + (x.cnt (m - n)).1) else (n, false)
theorem cnt_eq (x : Tr) (m : Int) : x.cnt m = if oneB x then Tr.cnt.cntl x.l m 1 else (1, false) := by cases x; rfl
theorem cntl_stop (l : List Tr) {m n : Int} (h : m ≤ n) : Tr.cnt.cntl l m n = (n, true) := by
  cases l with
  | nil => rfl
  | cons x r => rw [Tr.cnt.cntl, if_pos h]
theorem cntl_take {l : List Tr} {k : Nat} {m a : Int} (hk : k < l.length) (ha : a < m) : Tr.cnt.cntl (l.drop k) m a = if (l[k].cnt (m - a)).2 then Tr.cnt.cntl (l.drop (k + 1)) m (a + (l[k].cnt (m - a)).1) else (a, false) := by
  rw [List.drop_eq_getElem_cons hk, Tr.cnt.cntl, if_neg (by omega)]
theorem cnt_bound (x : Tr) : ∀ m : Int, 1 ≤ m → 1 ≤ (x.cnt m).1 ∧ (x.cnt m).1 ≤ m := by
  induction x using Tr.ind with
  | h x ih =>
    intro m hm
    rw [cnt_eq]
    have key : ∀ (r : List Tr), (∀ y ∈ r, y ∈ x.l) → ∀ a : Int, 1 ≤ a → a ≤ m → a ≤ (Tr.cnt.cntl r m a).1 ∧ (Tr.cnt.cntl r m a).1 ≤ m := by
      intro r
      induction r with
      | nil => exact fun _ a _ h => ⟨Int.le_refl _, h⟩
      | cons y r ihr =>
        intro hr a h1 h2
        rw [Tr.cnt.cntl]
        split
        · exact ⟨Int.le_refl _, h2⟩
        · split
          · have h3 := ih y (hr y (by simp)) (m - a) (by omega)
            have h4 := ihr (fun z hz => hr z (List.mem_cons_of_mem _ hz)) (a + (y.cnt (m - a)).1) (by omega) (by omega)
            omega
          · exact ⟨Int.le_refl _, h2⟩
    split
    · exact key x.l (fun _ h => h) 1 (Int.le_refl _) hm
    · exact ⟨Int.le_refl _, hm⟩
def CntRel (x : Tr) (m : Int) (w1 : World) (n i : Value) (wr : World) : Prop :=
  ∃ k : Nat, k ≤ x.l.length ∧ i = .int .i64 k ∧ ∃ a : Int, n = .int .i64 a ∧ 1 ≤ a ∧ a ≤ m ∧ Tr.cnt.cntl (x.l.drop k) m a = x.cnt m ∧ Below w1.heap.size w1 wr
set_option maxHeartbeats 1000000 in
set_option maxRecDepth 100000 in
theorem count_any {F : Nat → Prop} (x : Tr) : ∀ (w : World) (sv : Value) (m : Int), TrV F w x sv → 1 ≤ m → m ≤ 1099511627776 →
    Calls Tryz.prog 65 #[.agg #[.int .i8 x.k, .int .i64 x.n, .string x.s, .string x.t, sv], .int .i64 m] w fun e w' => e = .returned (.tuple #[.int .i64 (x.cnt m).1, .bool (x.cnt m).2]) ∧ Below w.heap.size w w' := by
  induction x using Tr.ind with
  | h x ih =>
    intro w sv m hx hm hm2
    obtain ⟨p, c, rfl⟩ := hx.kids.slice
    obtain ⟨hb1, hz1, hn1⟩ := node_box w 25 x.k x.n x.s x.t (.slice p x.l.length c)
    have hx1 := hx.below hb1
    have hlen := hx.kids.len
    have hlen' : x.l.length ≤ 2199023255552 := hlen
    have h4 := hn1.l
    have cO := fun W => rone_any W x p c hx.wf
    have hrel0 := cnt_eq x m
    have IH := Lib.hid ih
    clear hn1 ih hx hlen
    cases ho : oneB x
    · rw [ho] at cO hrel0
      have HR := Lib.hid hrel0
      clear hrel0 ho
      go_enter Tryz.func65, Tryz.ntmps65
      go_wp2_with (go_at_call 91; refine (cO _).mono ?_; rintro e w2 ⟨rfl, hb2⟩)
      go_ret2
      exact ⟨by rw [HR.out]; rfl, hb1.trans (hb2.mono hb1.size)⟩
    rw [ho, if_pos rfl] at hrel0
    rw [ho] at cO
    have HR := Lib.hid hrel0
    clear hrel0 ho
    go_enter Tryz.func65, Tryz.ntmps65
    go_wp2_with (go_at_call 91; refine (cO _).mono ?_; rintro e w2 ⟨rfl, hb2⟩)
    have h4 := (hb2.cell (p := ⟨w.heap.size, 0 + 4, none⟩) (by show w.heap.size < _; omega)).trans h4
    have hx2 := hx1.below hb2
    have hb3 := hb1.trans (hb2.mono hb1.size)
    have hz3 : w.heap.size < w2.heap.size := by have := hb2.size; omega
    clear hb1 hb2 hx1 hz1
    go_loopw [6, 7] (fun n i wr => CntRel x m w2 n i wr) (fun _ i _ => x.l.length - (intOf i).toNat)
    case atStart => exact ⟨0, Nat.zero_le _, rfl, 1, rfl, Int.le_refl _, hm, HR.out.symm, Below.refl _ _⟩
    case round =>
      obtain ⟨k, hk, rfl, a, rfl, ha1, ha2, hrest, hbr⟩ := hrel
      have hxr := hx2.below hbr
      have hbw := hb3.trans (hbr.mono hb3.size)
      have h4r := (hbr.cell (p := ⟨w.heap.size, 0 + 4, none⟩) hz3).trans h4
      simp only [Nat.zero_add] at h4r
      by_cases hlt : k < x.l.length
      · by_cases ham : a < m
        · obtain ⟨g, o, kv, rfl, hg, hnode, hkid⟩ := hxr.kids.at hlt
          have cK := fun W hb => IH.out x.l[k] (List.getElem_mem hlt) W kv (m - a) (hkid.below (w' := W) hb) (by omega) (by omega)
          have hszk := cnt_bound x.l[k] (m - a) (by omega)
          have hnext := cntl_take hlt ham
          obtain ⟨e0, e1, e2, e3, e4⟩ := hnode
          generalize x.l[k] = y at *
          rw [hrest] at hnext
          generalize y.cnt (m - a) = q at *
          obtain ⟨qn, qb⟩ := q
          simp only at hnext hszk
          have HN := Lib.hid hnext
          clear hnext hrest hkid hxr h4 hx2
          cases qb
          · go_wp2_with (go_at_call 65; refine (cK _ (Below.refl _ _)).mono ?_; rintro e w3 ⟨rfl, hb3⟩)
            go_ret2
            exact ⟨by rw [HN.out]; rfl, hbw.trans (hb3.mono hbw.size)⟩
          · go_wp2_with (go_at_call 65; refine (cK _ (Below.refl _ _)).mono ?_; rintro e w3 ⟨rfl, hb3⟩)
            go_roundw
            case rel => exact ⟨k + 1, hlt, by go_num, _, rfl, by omega, by omega, by rw [HN.out]; rfl, hbr.trans (hb3.mono hbr.size)⟩
            case measure => simp [intOf]; omega
        · rw [cntl_stop _ (by omega)] at hrest
          have HN := Lib.hid hrest
          clear hrest h4 hx2 hxr
          go_wp2
          go_ret2
          exact ⟨by rw [← HN.out]; rfl, hbw⟩
      · rw [List.drop_eq_nil_of_le (by omega), Tr.cnt.cntl] at hrest
        have HN := Lib.hid hrest
        clear hrest h4 hx2 hxr
        go_wp2
        go_ret2
        exact ⟨by rw [← HN.out]; rfl, hbw⟩
def chkT (x : Tr) : Int := if (x.cnt 257).2 then (if 256 < (x.cnt 257).1 then 11 else 0) else 30
set_option maxHeartbeats 1000000 in
theorem rcheck_any {F : Nat → Prop} {x : Tr} {w : World} {sv : Value} (hx : TrV F w x sv) :
    Calls Tryz.prog 46 #[.agg #[.int .i8 x.k, .int .i64 x.n, .string x.s, .string x.t, sv]] w fun e w' => e = .returned (.int .i64 (chkT x)) ∧ Below w.heap.size w w' := by
  obtain ⟨p, c, rfl⟩ := hx.kids.slice
  have cK := fun W hb => count_any x W _ 257 (hx.below (w' := W) hb) (by omega) (by omega)
  clear hx
  unfold chkT
  generalize x.cnt 257 = q at cK
  obtain ⟨qn, qb⟩ := q
  simp only at cK
  cases qb
  · go_enter Tryz.func46, Tryz.ntmps46
    go_wp2_with (go_at_call 65; refine (cK _ (alloc_below _ _)).mono ?_; rintro e w2 ⟨rfl, hb2⟩)
    go_ret
    exact ⟨rfl, (alloc_below _ _).trans (hb2.mono (by simp))⟩
  · by_cases h : 256 < qn
    all_goals
      go_enter Tryz.func46, Tryz.ntmps46
      go_wp2_with (go_at_call 65; refine (cK _ (alloc_below _ _)).mono ?_; rintro e w2 ⟨rfl, hb2⟩)
      go_ret
      exact ⟨ret_i64 (by simp only), (alloc_below _ _).trans (hb2.mono (by simp))⟩
set_option maxHeartbeats 1000000 in
theorem rsize_any {F : Nat → Prop} {x : Tr} {w : World} {sv : Value} (hx : TrV F w x sv) :
    Calls Tryz.prog 94 #[.agg #[.int .i8 x.k, .int .i64 x.n, .string x.s, .string x.t, sv]] w fun e w' => e = .returned (.int .i64 (x.sz 257)) ∧ Below w.heap.size w w' := by
  obtain ⟨p, c, rfl⟩ := hx.kids.slice
  have cK := fun W hb => size_any x W _ 257 (hx.below (w' := W) hb) (by omega) (by omega)
  have hb := sz_bound x 257 (by omega)
  clear hx
  generalize x.sz 257 = q at cK hb
  go_enter Tryz.func94, Tryz.ntmps94
  go_wp2_with (go_at_call 17; refine (cK _ (alloc_below _ _)).mono ?_; rintro e w2 ⟨rfl, hb2⟩)
  go_ret
  exact ⟨ret_i64 (by first | rfl | omega | (split <;> omega)), (alloc_below _ _).trans (hb2.mono (by simp))⟩
end Go.Proofs.YtgliogfggajfgaaGreatDoor
namespace Go.Proofs.YtgliogfggajfgaaGreatDoor
open Go.RowKit
theorem one_set {w : World} {b : Nat} {v u : Value} {T : TypeId} (h : w.heap[b]? = some (.cells #[v] T (0, 0))) : (w.setCell ⟨b, 0, none⟩ u).heap[b]? = some (.cells #[u] T (0, 0)) := by
  simp only [World.setCell, Array.getElem?_modify, if_true, h]; rfl
theorem one_cell {w : World} {b : Nat} {v : Value} {T : TypeId} (h : w.heap[b]? = some (.cells #[v] T (0, 0))) : w.cell? ⟨b, 0, none⟩ = some v := by simp [World.cell?, h]
theorem one_free {w : World} {b : Nat} {v : Value} {T : TypeId} (h : w.heap[b]? = some (.cells #[v] T (0, 0))) : w.frozen? ⟨b, 0, none⟩ = false := by simp [World.frozen?, h]
theorem heap_new (w : World) (o : Obj) : (w.alloc o).heap[w.heap.size]? = some o := (MapKept.heap_alloc w o).1
theorem heap_old (w : World) (o : Obj) {i : Nat} (h : i < w.heap.size) : (w.alloc o).heap[i]? = w.heap[i]? := Below.heap_alloc _ _ _ h
theorem three_new (w : World) (o1 o2 o3 : Obj) : (((w.alloc o1).alloc o2).alloc o3).heap[w.heap.size]? = some o1 ∧ (((w.alloc o1).alloc o2).alloc o3).heap[w.heap.size + 1]? = some o2 ∧ (((w.alloc o1).alloc o2).alloc o3).heap[w.heap.size + 1 + 1]? = some o3 ∧
    Below w.heap.size w (((w.alloc o1).alloc o2).alloc o3) ∧ (((w.alloc o1).alloc o2).alloc o3).heap.size = w.heap.size + 3 := by
  have e1 : (w.alloc o1).heap.size = w.heap.size + 1 := by simp
  have e2 : ((w.alloc o1).alloc o2).heap.size = w.heap.size + 1 + 1 := by simp
  refine ⟨?_, ?_, ?_, (((Below.refl _ _).alloc (Nat.le_refl _) _).alloc (by simp) _).alloc (by simp; omega) _, by simp⟩
  · rw [heap_old _ _ (by omega), heap_old _ _ (by omega), heap_new]
  · rw [heap_old _ _ (by omega), ← e1, heap_new]
  · rw [← e2, heap_new]
theorem four_new (w : World) (o1 o2 o3 o4 : Obj) : ((((w.alloc o1).alloc o2).alloc o3).alloc o4).heap[w.heap.size]? = some o1 ∧ ((((w.alloc o1).alloc o2).alloc o3).alloc o4).heap[w.heap.size + 1]? = some o2 ∧ ((((w.alloc o1).alloc o2).alloc o3).alloc o4).heap[w.heap.size + 1 + 1]? = some o3 ∧ ((((w.alloc o1).alloc o2).alloc o3).alloc o4).heap[w.heap.size + 1 + 1 + 1]? = some o4 ∧
    Below w.heap.size w ((((w.alloc o1).alloc o2).alloc o3).alloc o4) ∧ ((((w.alloc o1).alloc o2).alloc o3).alloc o4).heap.size = w.heap.size + 4 := by
  obtain ⟨h1, h2, h3, hb, hs⟩ := three_new w o1 o2 o3
  have e3 : (((w.alloc o1).alloc o2).alloc o3).heap.size = w.heap.size + 1 + 1 + 1 := by simp
  refine ⟨?_, ?_, ?_, ?_, hb.alloc (by omega) _, by simp⟩
  · rw [heap_old _ _ (by omega), h1]
  · rw [heap_old _ _ (by omega), h2]
  · rw [heap_old _ _ (by omega), h3]
  · rw [← e3, heap_new]
theorem node_heap {w : World} {b : Nat} {x : Tr} {sv : Value} {T : TypeId} (h : w.heap[b]? = some (.cells #[.int .i8 x.k, .int .i64 x.n, .string x.s, .string x.t, sv] T (0, 0))) : NodeAt w b 0 x sv := by
  constructor <;> simp [World.cell?, h]
set_option maxHeartbeats 2000000 in
set_option maxRecDepth 100000 in
theorem sizeC_any {F : Nat → Prop} {bn bw : Nat} (hF : ∀ k, F k → k ≠ bn) (hne : bw ≠ bn) (x : Tr) : ∀ (W : World) (g o : Nat) (sv : Value) (a : Int), NodeAt W g o x sv → g ≠ bn → TrV F W x sv →
    W.heap[bn]? = some (.cells #[.int .i64 a] 3 (0, 0)) → W.cell? ⟨bw, 0, none⟩ = some (.func (Fn.func 115) #[] #[.pointer (some ⟨bn, 0, none⟩), .pointer (some ⟨bw, 0, none⟩)]) → 0 ≤ a → a ≤ 256 →
    Calls Tryz.prog 115 #[.pointer (some ⟨g, o, none⟩), .pointer (some ⟨bn, 0, none⟩), .pointer (some ⟨bw, 0, none⟩)] W fun e w' => e = .returned (.tuple #[]) ∧ w'.heap[bn]? = some (.cells #[.int .i64 (a + x.sz (257 - a))] 3 (0, 0)) ∧ Turn (· = bn) W w' := by
  induction x using Tr.ind with
  | h x ih =>
    intro W g o sv a hnode hgn hx hbn hbw ha0 ha1
    obtain ⟨p, c, rfl⟩ := hx.kids.slice
    have hlen : x.l.length ≤ 2199023255552 := hx.kids.len
    have hrel0 : x.sz (257 - a) = Tr.sz.szl x.l (257 - a) 1 := by cases x; rfl
    have h4 := hnode.l
    have hcn := one_cell hbn
    have hfn := one_free hbn
    have ht1 := Turn.setCell W ⟨bn, 0, none⟩ (.int .i64 (a + 1))
    have hbn1 := one_set (u := .int .i64 (a + 1)) hbn
    have h41 := ht1.cell h4 hgn
    have hbw1 := ht1.cell hbw hne
    have hx1 := hx.turn ht1 hF
    have IH := Lib.hid ih
    have HR := Lib.hid hrel0
    clear ih hrel0 hx hnode hbn
    go_enter Tryz.func115, Tryz.ntmps115
    go_wp2_with fail
    generalize W.setCell ⟨bn, 0, none⟩ (.int .i64 (a + 1)) = w1 at ht1 hbn1 h41 hbw1 hx1 ⊢
    clear h4 hcn hfn hbw
    go_loopw [12] (fun i wr => ∃ k : Nat, k ≤ x.l.length ∧ i = .int .i64 k ∧ ∃ s : Int, 1 ≤ s ∧ s ≤ 257 - a ∧ wr.heap[bn]? = some (.cells #[.int .i64 (a + s)] 3 (0, 0)) ∧ Tr.sz.szl (x.l.drop k) (257 - a) s = x.sz (257 - a) ∧ Turn (· = bn) w1 wr) (fun i _ => x.l.length - (intOf i).toNat)
    case atStart => exact ⟨0, Nat.zero_le _, rfl, 1, by omega, by omega, hbn1, HR.out.symm, Turn.refl _ _⟩
    case round =>
      obtain ⟨k, hk, rfl, s, hs1, hs2, hbr, hrest, htr⟩ := hrel
      have htw := ht1.trans htr
      have hxr := hx1.turn htr hF
      have h4r := htr.cell h41 hgn
      have hbwr := htr.cell hbw1 hne
      by_cases hlt : k < x.l.length
      · have hcr := one_cell hbr
        by_cases hms : a + s ≤ 256
        · obtain ⟨g2, o2, kv, rfl, hg2, hnode2, hkid⟩ := hxr.kids.at hlt
          have hg2n : g2 ≠ bn := hF g2 hg2
          have hszk := sz_bound x.l[k] (257 - a - s) (by omega)
          have hnext := szl_take hlt (show s < 257 - a by omega)
          have htd : Turn (· = bn) wr (wr.drewN 1) := Turn.of_below (below_drewN (Below.refl _ _) 1)
          have hbd : (wr.drewN 1).heap[bn]? = some (.cells #[.int .i64 (a + s)] 3 (0, 0)) := hbr
          have cK := IH.out x.l[k] (List.getElem_mem hlt) (wr.drewN 1) g2 (o2 + k * 5) kv (a + s) (hnode2.turn htd hg2n) hg2n (hkid.turn htd hF) hbd (htd.cell hbwr hne) (by omega) (by omega)
          rw [show (257 : Int) - (a + s) = 257 - a - s from by omega] at cK
          generalize x.l[k] = y at *
          have HN := Lib.hid (hnext.symm.trans hrest)
          clear hnext hrest hkid hxr hnode2 hx1 hbd
          go_wp2
          go_still_tail 7, (by kernel_rfl)
          change wpList _ _ _ _ _ (wr.drewN 1)
          generalize wr.drewN 1 = w4 at htd cK ⊢
          go_wp2_with (go_at_call 115; refine cK.mono ?_; rintro e w5 ⟨rfl, hb5, ht5⟩)
          go_roundw
          case rel => exact ⟨k + 1, hlt, by go_num, s + y.sz (257 - a - s), by omega, by omega, by rw [← Int.add_assoc]; exact hb5, HN.out, (htr.trans htd).trans ht5⟩
          case measure => simp [intOf]; omega
        · rw [szl_stop _ (by omega)] at hrest
          clear hxr hx1 HR
          have HN := Lib.hid hrest
          clear hrest
          have hms2 : 256 < a + s := by omega
          clear hms
          go_wp2
          refine bodyPost_ret (v := .tuple #[]) (by simp [results, Tryz.results115]) rfl ?_
          exact ⟨rfl, by rw [← HN.out]; exact hbr, htw⟩
      · rw [List.drop_eq_nil_of_le (by omega), Tr.sz.szl] at hrest
        subst hrest
        clear hxr hx1
        go_wp2
        go_end0
        exact ⟨rfl, hbr, htw⟩
set_option maxHeartbeats 1000000 in
set_option maxRecDepth 100000 in
theorem tsize_any {F : Nat → Prop} {x : Tr} {w : World} {sv : Value} (hx : TrV F w x sv) :
    Calls Tryz.prog 93 #[.agg #[.int .i8 x.k, .int .i64 x.n, .string x.s, .string x.t, sv]] w fun e w' => e = .returned (.int .i64 (x.sz 257)) ∧ Below w.heap.size w w' := by
  obtain ⟨p, c, rfl⟩ := hx.kids.slice
  have hx0 : TrV (fun k => k < w.heap.size) w x (.slice p x.l.length c) := ⟨hx.wf, hx.kids.mono fun _ _ h => h⟩
  have hsz := sz_bound x 257 (by omega)
  clear hx
  go_enter Tryz.func93, Tryz.ntmps93
  go_wp2_with fail
  obtain ⟨n1, n2, n3, hb, hs⟩ := three_new w (.cells #[.int .i8 x.k, .int .i64 x.n, .string x.s, .string x.t, .slice p x.l.length c] 25) (.cells #[.int .i64 0] 3) (.cells #[.func (Fn.func 115) #[] #[.pointer (some ⟨w.heap.size + 1, 0, none⟩), .pointer (some ⟨w.heap.size + 1 + 1, 0, none⟩)]] 112)
  generalize ((w.alloc (.cells #[.int .i8 x.k, .int .i64 x.n, .string x.s, .string x.t, .slice p x.l.length c] 25)).alloc (.cells #[.int .i64 0] 3)).alloc (.cells #[.func (Fn.func 115) #[] #[.pointer (some ⟨w.heap.size + 1, 0, none⟩), .pointer (some ⟨w.heap.size + 1 + 1, 0, none⟩)]] 112) = w3 at n1 n2 n3 hb hs ⊢
  refine (sizeC_any (F := fun k => k < w.heap.size) (bn := w.heap.size + 1) (bw := w.heap.size + 1 + 1) (fun k hk => by omega) (by omega) x w3 w.heap.size 0 _ 0 (node_heap n1) (by omega) (hx0.below hb) n2 (one_cell n3) (by omega) (by omega)).mono ?_
  rintro e w5 ⟨rfl, hb5, ht5⟩
  rw [show (0 : Int) + x.sz (257 - 0) = x.sz 257 from by simp] at hb5
  have hc5 := one_cell hb5
  have hB := hb.trans (ht5.below (B := w.heap.size) (by omega) fun k hk e => by omega)
  go_wp2
  go_ret
  exact ⟨rfl, hB⟩
end Go.Proofs.YtgliogfggajfgaaGreatDoor
namespace Go.Proofs.YtgliogfggajfgaaGreatDoor
open Go.RowKit
theorem Letters.turn {w w' : World} (h : Letters w) {T : Nat → Prop} (ht : Turn T w w') (hT : ¬ T 0) : Letters w' :=
  ⟨ht.cell h.c0 hT, ht.cell h.c1 hT, ht.cell h.c2 hT, ht.cell h.c3 hT, ht.cell h.c4 hT, ht.cell h.c5 hT, ht.cell h.c6 hT, ht.cell h.c7 hT⟩
structure CkPost (bn bo : Nat) (a : Int) (q : Int × Bool) (w w' : World) : Prop where
  n : ∃ n' : Int, w'.heap[bn]? = some (.cells #[.int .i64 n'] 3 (0, 0)) ∧ (q.2 = true → n' = a + q.1)
  ok : w'.heap[bo]? = some (.cells #[.bool q.2] 4 (0, 0))
  turn : Turn (fun k => k = bn ∨ k = bo) w w'
def CkSt (x : Tr) (a : Int) (k : Nat) (b : Bool) (n' : Int) : Prop :=
  if b then ∃ s : Int, n' = a + s ∧ 1 ≤ s ∧ s ≤ 257 - a ∧ Tr.cnt.cntl (x.l.drop k) (257 - a) s = x.cnt (257 - a) else (x.cnt (257 - a)).2 = false
theorem ckPost_of {bn bo : Nat} {a n' : Int} {q : Int × Bool} {w w' : World} {b : Bool} (h1 : w'.heap[bn]? = some (.cells #[.int .i64 n'] 3 (0, 0))) (h2 : w'.heap[bo]? = some (.cells #[.bool b] 4 (0, 0))) (hb : q.2 = b) (hn : b = true → n' = a + q.1) (ht : Turn (fun k => k = bn ∨ k = bo) w w') : CkPost bn bo a q w w' := by
  subst hb
  exact ⟨⟨n', h1, hn⟩, h2, ht⟩
set_option maxHeartbeats 4000000 in
set_option maxRecDepth 100000 in
theorem checkC_any {F : Nat → Prop} {bn bo bw : Nat} (hF : ∀ k, F k → ¬ (k = bn ∨ k = bo)) (hw : ¬ (bw = bn ∨ bw = bo)) (hno : bo ≠ bn) (h0 : ¬ (0 = bn ∨ 0 = bo)) (x : Tr) : ∀ (W : World) (g o : Nat) (sv : Value) (a : Int), Letters W → NodeAt W g o x sv → ¬ (g = bn ∨ g = bo) → TrV F W x sv →
    W.heap[bn]? = some (.cells #[.int .i64 a] 3 (0, 0)) → W.heap[bo]? = some (.cells #[.bool true] 4 (0, 0)) → W.cell? ⟨bw, 0, none⟩ = some (.func (Fn.func 50) #[] #[.pointer (some ⟨bn, 0, none⟩), .pointer (some ⟨bo, 0, none⟩), .pointer (some ⟨bw, 0, none⟩)]) → 0 ≤ a → a ≤ 256 →
    Calls Tryz.prog 50 #[.pointer (some ⟨g, o, none⟩), .pointer (some ⟨bn, 0, none⟩), .pointer (some ⟨bo, 0, none⟩), .pointer (some ⟨bw, 0, none⟩)] W fun e w' => e = .returned (.tuple #[]) ∧ CkPost bn bo a (x.cnt (257 - a)) W w' := by
  induction x using Tr.ind with
  | h x ih =>
    intro W g o sv a hL hnode hgn hx hbn hbo hbw ha0 ha1
    obtain ⟨p, c, rfl⟩ := hx.kids.slice
    have hlen : x.l.length ≤ 2199023255552 := hx.kids.len
    have hrel0 := cnt_eq x (257 - a)
    have hcn := one_cell hbn
    have hfn := one_free hbn
    have hco := one_cell hbo
    have ht1 : Turn (fun k => k = bn ∨ k = bo) W (W.setCell ⟨bn, 0, none⟩ (.int .i64 (a + 1))) := (Turn.setCell W ⟨bn, 0, none⟩ (.int .i64 (a + 1))).mono fun k _ e => .inl e
    have hbn1 := one_set (u := .int .i64 (a + 1)) hbn
    have hbo1 : (W.setCell ⟨bn, 0, none⟩ (.int .i64 (a + 1))).heap[bo]? = some (.cells #[.bool true] 4 (0, 0)) := (Below.heap_setCell _ _ _ _ hno).trans hbo
    have hL1 := hL.turn ht1 h0
    have hnode1 := hnode.turn ht1 hgn
    have hbw1 := ht1.cell hbw hw
    have hx1 := hx.turn ht1 hF
    have IH := Lib.hid ih
    have HR := Lib.hid hrel0
    have cO := one_any hL1 hnode1 hx.wf hlen
    clear ih hrel0 hx hnode hbn hbo hL hbw
    go_enter Tryz.func50, Tryz.ntmps50
    go_wp2_with fail
    have hco1 := one_cell hbo1
    generalize W.setCell ⟨bn, 0, none⟩ (.int .i64 (a + 1)) = w1 at ht1 hbn1 hbo1 hL1 hbw1 hx1 cO hnode1 hco1 ⊢
    clear hcn hfn hco
    refine cO.mono ?_
    rintro e w2 ⟨rfl, hb2⟩
    have hT2 : Turn (fun k => k = bn ∨ k = bo) w1 w2 := Turn.of_below hb2
    have hbn2 : w2.heap[bn]? = _ := (hb2.block bn (cell_block (one_cell hbn1))).trans hbn1
    have hbo2 : w2.heap[bo]? = _ := (hb2.block bo (cell_block hco1)).trans hbo1
    have hco2 := one_cell hbo2
    have hfo2 := one_free hbo2
    have ht3 : Turn (fun k => k = bn ∨ k = bo) w2 (w2.setCell ⟨bo, 0, none⟩ (.bool (oneB x))) := (Turn.setCell w2 ⟨bo, 0, none⟩ (.bool (oneB x))).mono fun k _ e => .inr e
    have hbo3 := one_set (u := .bool (oneB x)) hbo2
    have hbn3 : (w2.setCell ⟨bo, 0, none⟩ (.bool (oneB x))).heap[bn]? = some (.cells #[.int .i64 (a + 1)] 3 (0, 0)) := (Below.heap_setCell _ _ _ _ (Ne.symm hno)).trans hbn2
    have htw := (ht1.trans hT2).trans ht3
    have hL3 := (hL1.turn hT2 h0).turn ht3 h0
    have h43 := ((hnode1.turn hT2 hgn).turn ht3 hgn).l
    have hbw3 := ht3.cell (hT2.cell hbw1 hw) hw
    have hx3 := (hx1.turn hT2 hF).turn ht3 hF
    clear ht1 hT2 ht3 hbn1 hbo1 hL1 hbw1 hx1 cO hnode1 hco1 hbn2 hbo2 hb2
    go_wp2_with fail
    generalize w2.setCell ⟨bo, 0, none⟩ (.bool (oneB x)) = w3 at hbo3 hbn3 htw hL3 h43 hbw3 hx3 ⊢
    clear hco2 hfo2
    have hst0 : CkSt x a 0 (oneB x) (a + 1) := by
      unfold CkSt
      have hr := HR.out
      cases ho : oneB x
      · rw [ho] at hr; rw [if_neg (by simp), hr]; rfl
      · rw [ho] at hr; rw [if_pos rfl]; exact ⟨1, rfl, by omega, by omega, by rw [hr, if_pos rfl]; rfl⟩
    generalize oneB x = ob at hbo3 hst0
    go_loopw [18] (fun i wr => ∃ k : Nat, k ≤ x.l.length ∧ i = .int .i64 k ∧ ∃ (b : Bool) (n' : Int), wr.heap[bn]? = some (.cells #[.int .i64 n'] 3 (0, 0)) ∧ wr.heap[bo]? = some (.cells #[.bool b] 4 (0, 0)) ∧ CkSt x a k b n' ∧ Turn (fun k => k = bn ∨ k = bo) w3 wr) (fun i _ => x.l.length - (intOf i).toNat)
    case atStart => exact ⟨0, Nat.zero_le _, rfl, ob, a + 1, hbn3, hbo3, hst0, Turn.refl _ _⟩
    case round =>
      obtain ⟨k, hk, rfl, b, n', hbnr, hbor, hst, htr⟩ := hrel
      have htwr := htw.trans htr
      have hxr := hx3.turn htr hF
      have hLr := hL3.turn htr h0
      have h4r := htr.cell h43 hgn
      have hbwr := htr.cell hbw3 hw
      have hcor := one_cell hbor
      have hcnr := one_cell hbnr
      clear hbo3 hbn3 hst0 hx3 h43 hbw3 hL3
      by_cases hlt : k < x.l.length
      · cases b
        · -- a part may not be: the closure ends
          have hend := ckPost_of (a := a) (q := x.cnt (257 - a)) hbnr hbor hst (fun h => by cases h) htwr
          have HE := Lib.hid hend
          clear hend hst hbnr hbor hxr hLr hbwr
          by_cases h256 : 256 < n'
          all_goals
            go_wp2
            refine bodyPost_ret (v := .tuple #[]) (by simp [results, Tryz.results50]) rfl ?_
            exact ⟨rfl, HE.out⟩
        · obtain ⟨s, rfl, hs1, hs2, hrest⟩ : ∃ s : Int, n' = a + s ∧ 1 ≤ s ∧ s ≤ 257 - a ∧ Tr.cnt.cntl (x.l.drop k) (257 - a) s = x.cnt (257 - a) := hst
          by_cases h256 : 256 < a + s
          · rw [cntl_stop _ (by omega)] at hrest
            have hend := ckPost_of (a := a) (q := x.cnt (257 - a)) hbnr hbor (by rw [← hrest]) (fun _ => by rw [← hrest]) htwr
            have HE := Lib.hid hend
            clear hend hrest hbnr hbor hxr hLr hbwr
            go_wp2
            refine bodyPost_ret (v := .tuple #[]) (by simp [results, Tryz.results50]) rfl ?_
            exact ⟨rfl, HE.out⟩
          · obtain ⟨g2, o2, kv, rfl, hg2, hnode2, hkid⟩ := hxr.kids.at hlt
            have hg2n := hF g2 hg2
            have hqb := cnt_bound x.l[k] (257 - a - s) (by omega)
            have hnext := cntl_take hlt (show s < 257 - a by omega)
            have htd : Turn (fun k => k = bn ∨ k = bo) wr (wr.drewN 1) := Turn.of_below (below_drewN (Below.refl _ _) 1)
            have hbd : (wr.drewN 1).heap[bn]? = some (.cells #[.int .i64 (a + s)] 3 (0, 0)) := hbnr
            have hbd2 : (wr.drewN 1).heap[bo]? = some (.cells #[.bool true] 4 (0, 0)) := hbor
            have cK := IH.out x.l[k] (List.getElem_mem hlt) (wr.drewN 1) g2 (o2 + k * 5) kv (a + s) (hLr.turn htd h0) (hnode2.turn htd hg2n) hg2n (hkid.turn htd hF) hbd hbd2 (htd.cell hbwr hw) (by omega) (by omega)
            rw [show (257 : Int) - (a + s) = 257 - a - s from by omega] at cK
            rw [hrest] at hnext
            have hstn : ∀ n'' : Int, ((x.l[k].cnt (257 - a - s)).2 = true → n'' = a + s + (x.l[k].cnt (257 - a - s)).1) → CkSt x a (k + 1) (x.l[k].cnt (257 - a - s)).2 n'' := by
              intro n'' hn''
              unfold CkSt
              cases hq : (x.l[k].cnt (257 - a - s)).2
              · rw [if_neg (by simp), hnext, hq]; rfl
              · rw [if_pos rfl]
                rw [hq, if_pos rfl] at hnext
                exact ⟨s + (x.l[k].cnt (257 - a - s)).1, by rw [hn'' hq]; omega, by omega, by omega, hnext.symm⟩
            have HST := Lib.hid hstn
            clear hstn hnext hrest hkid hxr hnode2 hbd hbd2 hbnr hbor hLr hqb
            generalize x.l[k].cnt (257 - a - s) = q at *
            go_wp2
            go_still_tail 7, (by kernel_rfl)
            change wpList _ _ _ _ _ (wr.drewN 1)
            generalize wr.drewN 1 = w4 at htd cK ⊢
            go_wp2_with (go_at_call 50; refine cK.mono ?_; rintro e w5 ⟨rfl, ⟨n'', hn5, hq5⟩, ho5, ht5⟩)
            go_roundw
            case rel => exact ⟨k + 1, hlt, by go_num, q.2, n'', hn5, ho5, HST.out n'' hq5, (htr.trans htd).trans ht5⟩
            case measure => simp [intOf]; omega
      · have hend : CkPost bn bo a (x.cnt (257 - a)) W wr := by
          cases b
          · exact ckPost_of hbnr hbor hst (fun h => by cases h) htwr
          · obtain ⟨s, rfl, hs1, hs2, hrest⟩ : ∃ s : Int, n' = a + s ∧ 1 ≤ s ∧ s ≤ 257 - a ∧ Tr.cnt.cntl (x.l.drop k) (257 - a) s = x.cnt (257 - a) := hst
            rw [List.drop_eq_nil_of_le (by omega), Tr.cnt.cntl] at hrest
            exact ckPost_of hbnr hbor (by rw [← hrest]) (fun _ => by rw [← hrest]) htwr
        have HE := Lib.hid hend
        clear hend hst hbnr hbor hxr hLr hbwr
        go_wp2
        go_end0
        exact ⟨rfl, HE.out⟩
end Go.Proofs.YtgliogfggajfgaaGreatDoor
namespace Go.Proofs.YtgliogfggajfgaaGreatDoor
open Go.RowKit
set_option maxHeartbeats 2000000 in
set_option maxRecDepth 100000 in
theorem tcheck_any {F : Nat → Prop} {x : Tr} {w : World} {sv : Value} (hL : Letters w) (hx : TrV F w x sv) :
    Calls Tryz.prog 32 #[.agg #[.int .i8 x.k, .int .i64 x.n, .string x.s, .string x.t, sv]] w fun e w' => e = .returned (.int .i64 (chkT x)) ∧ Below w.heap.size w w' := by
  obtain ⟨p, c, rfl⟩ := hx.kids.slice
  have hx0 : TrV (fun k => k < w.heap.size) w x (.slice p x.l.length c) := ⟨hx.wf, hx.kids.mono fun _ _ h => h⟩
  have hl0 := hL.lt
  clear hx
  go_enter Tryz.func32, Tryz.ntmps32
  go_wp2_with fail
  obtain ⟨n1, n2, n3, n4, hb, hs⟩ := four_new w (.cells #[.int .i8 x.k, .int .i64 x.n, .string x.s, .string x.t, .slice p x.l.length c] 25) (.cells #[.int .i64 0] 3) (.cells #[.bool true] 4) (.cells #[.func (Fn.func 50) #[] #[.pointer (some ⟨w.heap.size + 1, 0, none⟩), .pointer (some ⟨w.heap.size + 1 + 1, 0, none⟩), .pointer (some ⟨w.heap.size + 1 + 1 + 1, 0, none⟩)]] 112)
  generalize (((w.alloc (.cells #[.int .i8 x.k, .int .i64 x.n, .string x.s, .string x.t, .slice p x.l.length c] 25)).alloc (.cells #[.int .i64 0] 3)).alloc (.cells #[.bool true] 4)).alloc (.cells #[.func (Fn.func 50) #[] #[.pointer (some ⟨w.heap.size + 1, 0, none⟩), .pointer (some ⟨w.heap.size + 1 + 1, 0, none⟩), .pointer (some ⟨w.heap.size + 1 + 1 + 1, 0, none⟩)]] 112) = w3 at n1 n2 n3 n4 hb hs ⊢
  refine (checkC_any (F := fun k => k < w.heap.size) (bn := w.heap.size + 1) (bo := w.heap.size + 1 + 1) (bw := w.heap.size + 1 + 1 + 1) (fun k hk => by omega) (by omega) (by omega) (by omega) x w3 w.heap.size 0 _ 0 (hL.under hb) (node_heap n1) (by omega) (hx0.below hb) n2 n3 (one_cell n4) (by omega) (by omega)).mono ?_
  rintro e w5 ⟨rfl, ⟨n', hn5, hq5⟩, ho5, ht5⟩
  rw [show (257 : Int) - 0 = 257 from rfl] at hq5 ho5
  have hc5 := one_cell hn5
  have hc6 := one_cell ho5
  have hB := hb.trans (ht5.below (B := w.heap.size) (by omega) fun k hk e => by omega)
  clear hn5 ho5 n1 n2 n3 n4 hb hs ht5 hL hx0
  have hchk : chkT x = if (x.cnt 257).2 then (if 256 < n' then 11 else 0) else 30 := by
    unfold chkT
    cases hq : (x.cnt 257).2
    · rfl
    · have := hq5 hq
      rw [if_pos rfl, if_pos rfl, show (x.cnt 257).1 = n' by omega]
  have HC := Lib.hid hchk
  clear hq5 hchk
  generalize (x.cnt 257).2 = qb at hc6 HC
  cases qb
  · go_wp2
    go_ret
    exact ⟨by rw [HC.out]; rfl, hB⟩
  · by_cases h : 256 < n'
    · have HC2 : Hid (chkT x = 11) := by unfold Hid; rw [HC.out, if_pos rfl, if_pos h]
      go_wp2
      go_ret
      exact ⟨by rw [HC2.out]; rfl, hB⟩
    · have HC2 : Hid (chkT x = 0) := by unfold Hid; rw [HC.out, if_pos rfl, if_neg h]
      go_wp2
      go_ret
      exact ⟨by rw [HC2.out]; rfl, hB⟩
def Tr.same : Tr → Tr → Bool
  | .mk k n s t l, y => k == y.k && (n == y.n && (s.toList == y.s.toList && (t.toList == y.t.toList && ((l.length : Int) == (y.l.length : Int) && samel l y.l))))
where samel : List Tr → List Tr → Bool
  | x :: r, y :: q => x.same y && samel r q
  | _, _ => true
theorem same_eq (x y : Tr) : x.same y = (x.k == y.k && (x.n == y.n && (x.s.toList == y.s.toList && (x.t.toList == y.t.toList && ((x.l.length : Int) == (y.l.length : Int) && Tr.same.samel x.l y.l))))) := by cases x; rfl
theorem samel_take {l m : List Tr} {k : Nat} (h1 : k < l.length) (h2 : k < m.length) : Tr.same.samel (l.drop k) (m.drop k) = (l[k].same m[k] && Tr.same.samel (l.drop (k + 1)) (m.drop (k + 1))) := by
  rw [List.drop_eq_getElem_cons h1, List.drop_eq_getElem_cons h2, Tr.same.samel]
theorem two_new (w : World) (o1 o2 : Obj) : ((w.alloc o1).alloc o2).heap[w.heap.size]? = some o1 ∧ ((w.alloc o1).alloc o2).heap[w.heap.size + 1]? = some o2 ∧ Below w.heap.size w ((w.alloc o1).alloc o2) ∧ ((w.alloc o1).alloc o2).heap.size = w.heap.size + 2 := by
  have e1 : (w.alloc o1).heap.size = w.heap.size + 1 := by simp
  refine ⟨?_, ?_, ((Below.refl _ _).alloc (Nat.le_refl _) _).alloc (by simp) _, by simp⟩
  · rw [heap_old _ _ (by omega), heap_new]
  · rw [← e1, heap_new]
set_option maxHeartbeats 4000000 in
set_option maxRecDepth 100000 in
theorem rsame_any {F G : Nat → Prop} (x : Tr) : ∀ (y : Tr) (w : World) (sv tv : Value), TrV F w x sv → TrV G w y tv →
    Calls Tryz.prog 16 #[.agg #[.int .i8 x.k, .int .i64 x.n, .string x.s, .string x.t, sv], .agg #[.int .i8 y.k, .int .i64 y.n, .string y.s, .string y.t, tv]] w fun e w' => e = .returned (.bool (x.same y)) ∧ Below w.heap.size w w' := by
  induction x using Tr.ind with
  | h x ih =>
    intro y w sv tv hx hy
    obtain ⟨p, c, rfl⟩ := hx.kids.slice
    obtain ⟨p2, c2, rfl⟩ := hy.kids.slice
    obtain ⟨n1, n2, hb1, hz1⟩ := two_new w (.cells #[.int .i8 x.k, .int .i64 x.n, .string x.s, .string x.t, .slice p x.l.length c] 25) (.cells #[.int .i8 y.k, .int .i64 y.n, .string y.s, .string y.t, .slice p2 y.l.length c2] 25)
    have hx1 := hx.below hb1
    have hy1 := hy.below hb1
    have hlen : x.l.length ≤ 2199023255552 := hx.kids.len
    have hlen2 : y.l.length ≤ 2199023255552 := hy.kids.len
    obtain ⟨a0, a1, a2, a3, a4⟩ := node_heap n1
    obtain ⟨b0, b1, b2, b3, b4⟩ := node_heap n2
    simp only [Nat.zero_add] at a1 a2 a3 a4 b1 b2 b3 b4
    have hrel0 := same_eq x y
    have IH := Lib.hid ih
    have HR := Lib.hid hrel0
    clear ih hrel0 hx hy n1 n2
    cases e0 : (x.k == y.k)
    · have g0 : (x.k != y.k) = true := by simpa using e0
      have HV : Hid (x.same y = false) := by unfold Hid; rw [HR.out, e0]; rfl
      clear e0
      go_enter Tryz.func16, Tryz.ntmps16
      go_wp2
      go_ret
      exact ⟨by rw [HV.out]; rfl, hb1⟩
    have g0 : (x.k != y.k) = false := by simpa using e0
    cases e1 : (x.n == y.n)
    · have g1 : (x.n != y.n) = true := by simpa using e1
      have HV : Hid (x.same y = false) := by unfold Hid; rw [HR.out, e0, e1]; rfl
      clear e0 e1
      go_enter Tryz.func16, Tryz.ntmps16
      go_wp2
      go_ret
      exact ⟨by rw [HV.out]; rfl, hb1⟩
    have g1 : (x.n != y.n) = false := by simpa using e1
    cases e2 : (x.s.toList == y.s.toList)
    · have HV : Hid (x.same y = false) := by unfold Hid; rw [HR.out, e0, e1, e2]; rfl
      clear e0 e1
      go_enter Tryz.func16, Tryz.ntmps16
      go_wp2
      go_ret
      exact ⟨by rw [HV.out]; rfl, hb1⟩
    cases e3 : (x.t.toList == y.t.toList)
    · have HV : Hid (x.same y = false) := by unfold Hid; rw [HR.out, e0, e1, e2, e3]; rfl
      clear e0 e1
      go_enter Tryz.func16, Tryz.ntmps16
      go_wp2
      go_ret
      exact ⟨by rw [HV.out]; rfl, hb1⟩
    cases e4 : ((x.l.length : Int) == (y.l.length : Int))
    · have g4 : ((x.l.length : Int) != (y.l.length : Int)) = true := by simpa using e4
      have HV : Hid (x.same y = false) := by unfold Hid; rw [HR.out, e0, e1, e2, e3, e4]; rfl
      clear e0 e1 e4
      go_enter Tryz.func16, Tryz.ntmps16
      go_wp2
      go_ret
      exact ⟨by rw [HV.out]; rfl, hb1⟩
    have g4 : ((x.l.length : Int) != (y.l.length : Int)) = false := by simpa using e4
    have hll : x.l.length = y.l.length := by have := beq_iff_eq.1 e4; omega
    have HLL := Lib.hid hll
    have hl1 : x.l.length ≤ y.l.length := by omega
    have hl2 : y.l.length ≤ x.l.length := by omega
    have HV : Hid (x.same y = Tr.same.samel x.l y.l) := by unfold Hid; rw [HR.out, e0, e1, e2, e3, e4]; rfl
    clear e0 e1 e4 hll HR
    go_enter Tryz.func16, Tryz.ntmps16
    go_wp2
    generalize (w.alloc (.cells #[.int .i8 x.k, .int .i64 x.n, .string x.s, .string x.t, .slice p x.l.length c] 25)).alloc (.cells #[.int .i8 y.k, .int .i64 y.n, .string y.s, .string y.t, .slice p2 y.l.length c2] 25) = w1 at hb1 hz1 hx1 hy1 a0 a1 a2 a3 a4 b0 b1 b2 b3 b4 ⊢
    clear a0 a1 a2 a3 b0 b1 b2 b3 g0 g1 e2 e3
    go_loopw [5] (fun i wr => ∃ k : Nat, k ≤ x.l.length ∧ i = .int .i64 k ∧ Tr.same.samel (x.l.drop k) (y.l.drop k) = Tr.same.samel x.l y.l ∧ Below w1.heap.size w1 wr) (fun i _ => x.l.length - (intOf i).toNat)
    case atStart => exact ⟨0, Nat.zero_le _, rfl, rfl, Below.refl _ _⟩
    case round =>
      obtain ⟨k, hk, rfl, hrest, hbr⟩ := hrel
      have hxr := hx1.below hbr
      have hyr := hy1.below hbr
      have hbw := hb1.trans (hbr.mono (by omega))
      have a4r := (hbr.cell (p := ⟨w.heap.size, 4, none⟩) (by show w.heap.size < _; omega)).trans a4
      have b4r := (hbr.cell (p := ⟨w.heap.size + 1, 4, none⟩) (by show w.heap.size + 1 < _; omega)).trans b4
      by_cases hlt : k < x.l.length
      · have hlt2 : k < y.l.length := by omega
        obtain ⟨g, o, kv, rfl, _, hnode, hkid⟩ := hxr.kids.at hlt
        obtain ⟨g2, o2, kv2, rfl, _, hnode2, hkid2⟩ := hyr.kids.at hlt2
        have hbd : Below wr.heap.size wr (wr.drewN 1) := below_drewN (Below.refl _ _) 1
        have cK := IH.out x.l[k] (List.getElem_mem hlt) y.l[k] (wr.drewN 1) kv kv2 (hkid.below hbd) (hkid2.below hbd)
        rw [samel_take hlt hlt2] at hrest
        obtain ⟨c0, c1, c2', c3, c4⟩ := hnode
        obtain ⟨d0, d1, d2, d3, d4⟩ := hnode2
        generalize x.l[k] = u at *
        generalize y.l[k] = v at *
        generalize u.same v = q at *
        have HN := Lib.hid hrest
        clear hrest hkid hkid2 hxr hyr hx1 hy1 a4 b4
        cases q
        all_goals
          go_wp2
          go_still_tail 10, (by kernel_rfl)
          change wpList _ _ _ _ _ (wr.drewN 1)
          generalize wr.drewN 1 = w4 at hbd cK ⊢
          go_wp2_with (go_at_call 16; refine cK.mono ?_; rintro e w5 ⟨rfl, hb5⟩)
        · go_ret
          exact ⟨by rw [HV.out, ← HN.out]; rfl, hbw.trans ((hbd.trans (hb5.mono hbd.size)).mono hbw.size)⟩
        · go_roundw
          case rel => exact ⟨k + 1, hlt, by go_num, by rw [← HN.out]; rfl, hbr.trans ((hbd.trans (hb5.mono hbd.size)).mono hbr.size)⟩
          case measure => simp [intOf]; omega
      · rw [List.drop_eq_nil_of_le (by omega)] at hrest
        have hrest' : Tr.same.samel x.l y.l = true := by rw [← hrest]; rfl
        have HN := Lib.hid hrest'
        clear hrest hrest' hxr hyr hx1 hy1 a4 b4
        go_wp2
        go_ret
        exact ⟨by rw [HV.out, HN.out]; rfl, hbw⟩
end Go.Proofs.YtgliogfggajfgaaGreatDoor
namespace Go.Proofs.YtgliogfggajfgaaGreatDoor
open Go.RowKit
end Go.Proofs.YtgliogfggajfgaaGreatDoor
namespace Go.Proofs.YtgliogfggajfgaaGreatDoor
open Go.RowKit
end Go.Proofs.YtgliogfggajfgaaGreatDoor
namespace Go.Proofs.YtgliogfggajfgaaGreatDoor
open Go.RowKit
end Go.Proofs.YtgliogfggajfgaaGreatDoor
namespace Go.Proofs.YtgliogfggajfgaaGreatDoor
open Go.RowKit
end Go.Proofs.YtgliogfggajfgaaGreatDoor
namespace Go.Proofs.YtgliogfggajfgaaGreatDoor
open Go.RowKit
end Go.Proofs.YtgliogfggajfgaaGreatDoor
namespace Go.Proofs.YtgliogfggajfgaaGreatDoor
open Go.RowKit
end Go.Proofs.YtgliogfggajfgaaGreatDoor
namespace Go.Proofs.YtgliogfggajfgaaGreatDoor
open Go.RowKit
def words13 : List (List UInt8) := [[97, 102, 116, 101, 114], [99, 97, 115, 101], [99, 97, 116, 99, 104], [99, 111, 110, 102, 105, 103], [100, 105, 118], [101, 110, 100], [102, 117, 110], [109, 111, 100, 117, 108, 101], [111, 102], [114, 101, 99, 101, 105, 118, 101], [114, 101, 109], [116, 114, 121], [119, 104, 101, 110]]
def wordK (s : ByteArray) : Bool := words13.any fun u => s.toList == u
def atomN (s : ByteArray) : Bool := mayA s && !wordK s
def leafB (x : Tr) : Bool :=
  if x.k = 5 then bareB x false true false false && nameA x.s
  else if x.k = 6 then bareB x true false false false && mayI x.n
  else if x.k = 7 then bareB x false true false false && atomN x.s
  else if x.k = 8 then bareB x false false false false
  else false
def Tr.pat : Tr → Bool
  | .mk k n s t l => leafB (.mk k n s t l) || ((k == 10 || (k == 9 && (l.length : Int) == 2)) && bareB (.mk k n s t l) false false false true && patl l)
where patl : List Tr → Bool
  | [] => true
  | x :: r => x.pat && patl r
end Go.Proofs.YtgliogfggajfgaaGreatDoor
namespace Go.Proofs.YtgliogfggajfgaaGreatDoor
open Go.RowKit
end Go.Proofs.YtgliogfggajfgaaGreatDoor
namespace Go.Proofs.YtgliogfggajfgaaGreatDoor
open Go.RowKit
end Go.Proofs.YtgliogfggajfgaaGreatDoor
namespace Go.Proofs.YtgliogfggajfgaaGreatDoor
open Go.RowKit
def WordsAt (w : World) (b : Nat) (l : List (List UInt8)) : Prop := ∀ k (h : k < l.length), ∃ u : ByteArray, w.cell? ⟨b, k, none⟩ = some (.string u) ∧ u.toList = l[k]
end Go.Proofs.YtgliogfggajfgaaGreatDoor
namespace Go.Proofs.YtgliogfggajfgaaGreatDoor
open Go.RowKit
theorem WordsAt.under {w w' : World} {b : Nat} {l : List (List UInt8)} (h : WordsAt w b l) (hb : Below w.heap.size w w') : WordsAt w' b l := fun k hk => by
  obtain ⟨u, h1, h2⟩ := h k hk
  exact ⟨u, (hb.cell (p := ⟨b, k, none⟩) (cell_block h1)).trans h1, h2⟩
end Go.Proofs.YtgliogfggajfgaaGreatDoor
namespace Go.Proofs.YtgliogfggajfgaaGreatDoor
open Go.RowKit
def RuleSays (F : Nat → Prop) (N : FuncId) (P : Tr → Bool) (w : World) (x : Tr) : Prop := ∀ (W : World) (g o : Nat) (sv : Value), Below w.heap.size w W → NodeAt W g o x sv → TrV F W x sv →
  Calls Tryz.prog N #[.pointer (some ⟨g, o, none⟩)] W fun e w' => e = .returned (.bool (P x)) ∧ Below W.heap.size W w'
theorem RuleSays.under {F : Nat → Prop} {N : FuncId} {P : Tr → Bool} {w w' : World} {x : Tr} (h : RuleSays F N P w x) (hb : Below w.heap.size w w') : RuleSays F N P w' x := fun W g o sv hW => h W g o sv (hb.trans (hW.mono hb.size))
end Go.Proofs.YtgliogfggajfgaaGreatDoor
namespace Go.Proofs.YtgliogfggajfgaaGreatDoor
open Go.RowKit
end Go.Proofs.YtgliogfggajfgaaGreatDoor
namespace Go.Proofs.YtgliogfggajfgaaGreatDoor
open Go.RowKit
theorem setRow_heap' {w : World} {g : Nat} {old cells : Array Value} {t : TypeId} (h : w.heap[g]? = some (.cells old t (0, 0))) : (w.setRow g cells).heap[g]? = some (.cells cells t (0, 0)) := setRow_heap w g old cells t _ h
theorem below_setRow {B g : Nat} {a w : World} {cells : Array Value} (h : Below B a w) (hg : B ≤ g) : Below B a (w.setRow g cells) :=
  h.trans ⟨rfl, rfl, rfl, by simp [World.setRow], fun k hk => by simp [World.setRow, Array.getElem?_modify]; omega⟩
theorem arr_set {w : World} {b i : Nat} {A : Array Value} {u : Value} {T : TypeId} (h : w.heap[b]? = some (.cells A T (0, 0))) : (w.setCell ⟨b, i, none⟩ u).heap[b]? = some (.cells (A.modify i fun _ => u) T (0, 0)) := by
  simp only [World.setCell, Array.getElem?_modify, if_true, h]; rfl
theorem arr_cell {w : World} {b i : Nat} {A : Array Value} {T : TypeId} (h : w.heap[b]? = some (.cells A T (0, 0))) : w.cell? ⟨b, i, none⟩ = A[i]? := by simp [World.cell?, h]
theorem arr_free {w : World} {b i : Nat} {A : Array Value} {T : TypeId} (h : w.heap[b]? = some (.cells A T (0, 0))) : w.frozen? ⟨b, i, none⟩ = false := by simp [World.frozen?, h]
end Go.Proofs.YtgliogfggajfgaaGreatDoor
namespace Go.Proofs.YtgliogfggajfgaaGreatDoor
open Go.RowKit
end Go.Proofs.YtgliogfggajfgaaGreatDoor
namespace Go.Proofs.YtgliogfggajfgaaGreatDoor
open Go.RowKit
end Go.Proofs.YtgliogfggajfgaaGreatDoor
namespace Go.Proofs.YtgliogfggajfgaaGreatDoor
open Go.RowKit
end Go.Proofs.YtgliogfggajfgaaGreatDoor
namespace Go.Proofs.YtgliogfggajfgaaGreatDoor
open Go.RowKit
end Go.Proofs.YtgliogfggajfgaaGreatDoor
namespace Go.Proofs.YtgliogfggajfgaaGreatDoor
open Go.RowKit
structure Bd where
  s : ByteArray
  t : Tr
def BindAt (F : Nat → Prop) (w : World) (p : Option Addr) (i : Nat) (b : Bd) : Prop := ∃ g o sv, p = some ⟨g, o, none⟩ ∧ F g ∧ w.cell? ⟨g, o + i * 6, none⟩ = some (.string b.s) ∧ b.s.size ≤ BL * 64 ∧ NodeAt w g (o + i * 6 + 1) b.t sv ∧ TrV F w b.t sv
def Binds (F : Nat → Prop) (w : World) (v : Value) (l : List Bd) : Prop := ∃ p c, v = .slice p l.length c ∧ l.length ≤ c ∧ l.length ≤ BL ∧ (∀ i (h : i < l.length), BindAt F w p i l[i]) ∧ (p = none → c = 0)
theorem BindAt.keep {F : Nat → Prop} {w w' : World} {p : Option Addr} {i : Nat} {b : Bd} (h : BindAt F w p i b) (hb : ∀ g, F g → g < w.heap.size → w'.heap[g]? = w.heap[g]?) : BindAt F w' p i b := by
  obtain ⟨g, o, sv, h1, h2, h3, h4, h5, h6⟩ := h
  exact ⟨g, o, sv, h1, h2, (World.cell?_of_block (a := ⟨g, o + i * 6, none⟩) (hb g h2 (cell_block h3))).trans h3, h4, h5.keep (hb g h2 h5.lt), h6.wf, h6.kids.keep hb⟩
theorem Binds.keep {F : Nat → Prop} {w w' : World} {v : Value} {l : List Bd} (h : Binds F w v l) (hb : ∀ g, F g → g < w.heap.size → w'.heap[g]? = w.heap[g]?) : Binds F w' v l := by
  obtain ⟨p, c, h1, h2, h3, h4⟩ := h
  exact ⟨p, c, h1, h2, h3, fun i hi => (h4.1 i hi).keep hb, h4.2⟩
theorem Binds.under {F : Nat → Prop} {w w' : World} {v : Value} {l : List Bd} (h : Binds F w v l) (hb : Below w.heap.size w w') : Binds F w' v l := h.keep fun g _ hg => hb.block g hg
theorem Binds.mono {F F' : Nat → Prop} {w : World} {v : Value} {l : List Bd} (h : Binds F w v l) (hF : ∀ g, F g → g < w.heap.size → F' g) : Binds F' w v l := by
  obtain ⟨p, c, h1, h2, h3, h4⟩ := h
  refine ⟨p, c, h1, h2, h3, fun i hi => ?_, h4.2⟩
  obtain ⟨g, o, sv, k1, k2, k3, k4, k5, k6⟩ := h4.1 i hi
  exact ⟨g, o, sv, k1, hF g k2 k5.lt, k3, k4, k5, k6.wf, k6.kids.mono hF⟩
theorem Binds.nil (F : Nat → Prop) (w : World) : Binds F w (.slice none 0 0) [] := ⟨none, 0, rfl, Nat.le_refl _, Nat.zero_le _, fun i hi => absurd hi (by simp), fun _ => rfl⟩
theorem Binds.slice {F : Nat → Prop} {w : World} {v : Value} {l : List Bd} (h : Binds F w v l) : ∃ p c, v = .slice p l.length c := by
  obtain ⟨p, c, h1, _⟩ := h
  exact ⟨p, c, h1⟩
theorem Binds.len {F : Nat → Prop} {w : World} {v : Value} {l : List Bd} (h : Binds F w v l) : l.length ≤ BL := by
  obtain ⟨p, c, _, _, h, _⟩ := h
  exact h
theorem Binds.at {F : Nat → Prop} {w : World} {p : Option Addr} {n c : Nat} {l : List Bd} (h : Binds F w (.slice p n c) l) {i : Nat} (hi : i < l.length) : BindAt F w p i l[i] := by
  obtain ⟨p', c', he, _, _, hx⟩ := h
  cases he
  exact hx.1 i hi
theorem Binds.none {F : Nat → Prop} {w : World} {n c : Nat} {l : List Bd} (h : Binds F w (.slice none n c) l) : l.length = 0 ∧ c = 0 := by
  obtain ⟨p', c', he, _, _, hx, h0⟩ := h
  cases he
  refine ⟨?_, h0 rfl⟩
  by_cases hl : 0 < l.length
  · obtain ⟨g, o, sv, e, _⟩ := hx 0 hl
    cases e
  · omega
end Go.Proofs.YtgliogfggajfgaaGreatDoor
namespace Go.Proofs.YtgliogfggajfgaaGreatDoor
open Go.RowKit
end Go.Proofs.YtgliogfggajfgaaGreatDoor
namespace Go.Proofs.YtgliogfggajfgaaGreatDoor
open Go.RowKit
end Go.Proofs.YtgliogfggajfgaaGreatDoor
namespace Go.Proofs.YtgliogfggajfgaaGreatDoor
open Go.RowKit
theorem cnt_more (x : Tr) : ∀ m : Int, 1 ≤ m → (x.cnt m).2 = true → (x.cnt m).1 < m → ∀ m', m ≤ m' → x.cnt m' = x.cnt m := by
  induction x using Tr.ind with
  | h x ih =>
    intro m hm h2 h1 m' hmm
    rw [cnt_eq] at h1 h2
    rw [cnt_eq, cnt_eq]
    split
    · rename_i ho
      rw [if_pos ho] at h1 h2
      have key : ∀ (r : List Tr), (∀ y ∈ r, y ∈ x.l) → ∀ a : Int, 1 ≤ a → a ≤ m → (Tr.cnt.cntl r m a).2 = true → (Tr.cnt.cntl r m a).1 < m → Tr.cnt.cntl r m' a = Tr.cnt.cntl r m a := by
        intro r
        induction r with
        | nil => exact fun _ a _ _ _ _ => rfl
        | cons y r ihr =>
          intro hr a h3 h4 h5 h6
          rw [Tr.cnt.cntl] at h5 h6 ⊢
          rw [Tr.cnt.cntl]
          by_cases hma : m ≤ a
          · rw [if_pos hma] at h6; simp at h6; omega
          rw [if_neg hma] at h5 h6 ⊢
          rw [if_neg (by omega)]
          by_cases hy2 : (y.cnt (m - a)).2 = true
          · rw [if_pos hy2] at h5 h6 ⊢
            have hbd := cnt_bound y (m - a) (by omega)
            have hlt : (y.cnt (m - a)).1 < m - a := by
              by_cases hc : (y.cnt (m - a)).1 < m - a
              · exact hc
              · rw [cntl_stop r (show m ≤ a + (y.cnt (m - a)).1 by omega)] at h6
                simp at h6; omega
            have hy := ih y (hr y (by simp)) (m - a) (by omega) hy2 hlt (m' - a) (by omega)
            rw [hy, if_pos hy2]
            exact ihr (fun z hz => hr z (List.mem_cons_of_mem _ hz)) _ (by omega) (by omega) h5 h6
          · rw [if_neg hy2] at h5; simp at h5
      exact key x.l (fun _ h => h) 1 (Int.le_refl _) hm h2 h1
    · rfl
theorem chk_one {x : Tr} (h : chkT x = 0) : oneB x = true := by
  unfold chkT at h
  rw [cnt_eq] at h
  cases ho : oneB x
  · rw [ho] at h; simp at h
  · rfl
theorem chk_kids {x : Tr} (h : chkT x = 0) : ∀ y ∈ x.l, chkT y = 0 := by
  have ho := chk_one h
  unfold chkT at h
  rw [cnt_eq, if_pos ho] at h
  have h2 : (Tr.cnt.cntl x.l 257 1).2 = true := by
    cases h3 : (Tr.cnt.cntl x.l 257 1).2
    · rw [h3] at h; simp at h
    · rfl
  rw [if_pos h2] at h
  have h1 : (Tr.cnt.cntl x.l 257 1).1 < 257 := by
    by_cases hc : 256 < (Tr.cnt.cntl x.l 257 1).1
    · rw [if_pos hc] at h; simp at h
    · omega
  have key : ∀ (r : List Tr) (a : Int), 1 ≤ a → a ≤ 257 → (Tr.cnt.cntl r 257 a).2 = true → (Tr.cnt.cntl r 257 a).1 < 257 → ∀ y ∈ r, chkT y = 0 := by
    intro r
    induction r with
    | nil => exact fun a _ _ _ _ y hy => absurd hy (by simp)
    | cons z r ihr =>
      intro a h3 h4 h5 h6
      rw [Tr.cnt.cntl] at h5 h6
      by_cases hma : 257 ≤ a
      · rw [if_pos hma] at h6; simp at h6; omega
      rw [if_neg hma] at h5 h6
      by_cases hy2 : (z.cnt (257 - a)).2 = true
      · rw [if_pos hy2] at h5 h6
        have hbd := cnt_bound z (257 - a) (by omega)
        have hlt : (z.cnt (257 - a)).1 < 257 - a := by
          by_cases hc : (z.cnt (257 - a)).1 < 257 - a
          · exact hc
          · rw [cntl_stop r (show 257 ≤ a + (z.cnt (257 - a)).1 by omega)] at h6
            simp at h6; omega
        intro y hy
        rcases List.mem_cons.1 hy with rfl | hy
        · have := cnt_more y (257 - a) (by omega) hy2 hlt 257 (by omega)
          unfold chkT
          rw [this, if_pos hy2, if_neg (by omega)]
        · exact ihr _ (by omega) (by omega) h5 h6 y hy
      · rw [if_neg hy2] at h5; simp at h5
  exact key x.l 1 (by omega) (by omega) h2 h1
def Tr.nn : Tr → Nat
  | .mk _ _ _ _ l => nnl l + 1
where nnl : List Tr → Nat
  | [] => 0
  | x :: r => x.nn + nnl r
theorem nn_eq (x : Tr) : x.nn = Tr.nn.nnl x.l + 1 := by cases x; rfl
theorem nnl_drop {l : List Tr} {k : Nat} (hk : k < l.length) : Tr.nn.nnl (l.drop k) = l[k].nn + Tr.nn.nnl (l.drop (k + 1)) := by rw [List.drop_eq_getElem_cons hk, Tr.nn.nnl]
theorem sz_nn (x : Tr) : ∀ m : Int, 1 ≤ m → x.sz m < m → x.sz m = x.nn := by
  induction x using Tr.ind with
  | h x ih =>
    intro m hm h
    rw [nn_eq]
    cases x with
    | mk k n s t l =>
      have key : ∀ (r : List Tr), (∀ y ∈ r, y ∈ l) → ∀ a : Int, 1 ≤ a → a ≤ m → Tr.sz.szl r m a < m → Tr.sz.szl r m a = a + Tr.nn.nnl r := by
        intro r
        induction r with
        | nil => exact fun _ a _ _ _ => by simp [Tr.sz.szl, Tr.nn.nnl]
        | cons y r ihr =>
          intro hr a h1 h2 h3
          rw [Tr.sz.szl] at h3 ⊢
          by_cases hma : a < m
          · rw [if_pos hma] at h3 ⊢
            have hbd := sz_bound y (m - a) (by omega)
            have hlt : y.sz (m - a) < m - a := by
              by_cases hc : y.sz (m - a) < m - a
              · exact hc
              · rw [szl_stop r (show m ≤ a + y.sz (m - a) by omega)] at h3; omega
            rw [ihr (fun z hz => hr z (List.mem_cons_of_mem _ hz)) _ (by omega) (by omega) h3, ih y (hr y (by simp)) (m - a) (by omega) hlt, Tr.nn.nnl]
            omega
          · rw [if_neg hma] at h3; omega
      have := key l (fun _ h => h) 1 (by omega) hm h
      show Tr.sz.szl l m 1 = _
      rw [this]
      show 1 + (Tr.nn.nnl l : Int) = _
      simp only [Tr.l]; omega
theorem patl_mem : ∀ {l : List Tr}, Tr.pat.patl l = true → ∀ y ∈ l, y.pat = true
  | [], _, y, hy => absurd hy (by simp)
  | x :: r, h, y, hy => by
    rw [Tr.pat.patl, Bool.and_eq_true] at h
    rcases List.mem_cons.1 hy with rfl | hy
    · exact h.1
    · exact patl_mem h.2 y hy
end Go.Proofs.YtgliogfggajfgaaGreatDoor
namespace Go.Proofs.YtgliogfggajfgaaGreatDoor
open Go.RowKit
def zeroT : Tr := .mk 0 0 ⟨#[]⟩ ⟨#[]⟩ []
theorem zero_wf : NodeWf zeroT := ⟨by decide, by decide, Nat.zero_le _, Nat.zero_le _⟩
theorem zero_trv (F : Nat → Prop) (w : World) : TrV F w zeroT (.slice none 0 0) := ⟨zero_wf, Kids.nil F w⟩
def cells5 (x : Tr) (sv : Value) : Array Value := #[.int .i8 x.k, .int .i64 x.n, .string x.s, .string x.t, sv]
theorem size28 (x : Tr) (sv : Value) : (Tryz.prog.info? 25).map (·.size) = some (cells5 x sv).size := by kernel_rfl
theorem info28 (w : World) (g : Nat) (x : Tr) (sv : Value) (hg : w.heap[g]? = some (.cells (cells5 x sv) 25 (0, 0))) : (loadVar 25 ⟨g, 0, none⟩).run Tryz.prog w = .ok (.agg (cells5 x sv)) w :=
  run_loadVar_row w g 25 25 (cells5 x sv) (0, 0) _ hg Tryz.underlying25 rfl (size28 x sv)
theorem results_term {fn : Func} {p u : Tmp} (h : fn.results = #[.cell p 25, .tmp u]) (tmps : Array Value) (w : World) (g : Nat) (x : Tr) (sv : Value) (hp : tmps.getD p undef = .pointer (some ⟨g, 0, none⟩)) (hg : w.heap[g]? = some (.cells (cells5 x sv) 25 (0, 0))) :
    (results fn tmps).run Tryz.prog w = .ok (.tuple #[.agg (cells5 x sv), tmps.getD u undef]) w := by
  rw [results_cell_tmp h, hp]
  simp only [asAddr, Sem.run_pure, Result.andThen, info28 w g x sv hg]
end Go.Proofs.YtgliogfggajfgaaGreatDoor
namespace Go.Proofs.YtgliogfggajfgaaGreatDoor
open Go.RowKit
theorem addr_add (g o j : Nat) : Addr.add ⟨g, o, none⟩ j = ⟨g, o + j, none⟩ := by
  unfold Addr.add
  split
  · rename_i h; subst h; rfl
  · rfl
def bcells (q : Bd × Value) : List Value := [.string q.1.s, .int .i8 q.1.t.k, .int .i64 q.1.t.n, .string q.1.t.s, .string q.1.t.t, q.2]
def tcells (q : Tr × Value) : List Value := [.int .i8 q.1.k, .int .i64 q.1.n, .string q.1.s, .string q.1.t, q.2]
theorem flat5 : ∀ (L : List (Tr × Value)) (k : Nat) (hk : k < L.length) (j : Nat), j < 5 → (L.flatMap tcells)[k * 5 + j]? = (tcells L[k])[j]?
  | q :: r, 0, _, j, hj => by
    simp only [List.flatMap_cons, Nat.zero_mul, Nat.zero_add, List.getElem_cons_zero]
    rw [List.getElem?_append_left (by simp [tcells]; omega)]
  | q :: r, k + 1, hk, j, hj => by
    have := flat5 r k (by simpa using hk) j hj
    simp only [List.flatMap_cons, List.getElem_cons_succ]
    rw [List.getElem?_append_right (by simp [tcells]; omega)]
    rw [show (k + 1) * 5 + j - (tcells q).length = k * 5 + j from by simp [tcells]; omega]
    exact this
theorem kids_row {F : Nat → Prop} {w : World} {base : Nat} {v : Value} {L : List (Tr × Value)} {T : TypeId} (h : w.ownsRow base T 5 v L.length (L.flatMap tcells)) (hF : ∀ k, base ≤ k → F k) (hL : ∀ q ∈ L, TrV F w q.1 q.2) (hb : L.length ≤ BL) :
    Kids F w v (L.map (·.1)) := by
  obtain ⟨_, h1⟩ := h
  rcases h1 with ⟨rfl, h0⟩ | ⟨g, cap, cur, rfl, hg, hh, hc, _, _, ht⟩
  · have : L = [] := List.eq_nil_of_length_eq_zero h0
    subst this
    exact Kids.nil F w
  · have hget : ∀ j, j < L.length * 5 → ∀ u, (L.flatMap tcells)[j]? = some u → w.cell? ⟨g, j, none⟩ = some u := by
      intro j hj u hu
      rw [← ht, List.getElem?_take, if_pos hj] at hu
      simp [World.cell?, hh]
      simpa using hu
    have key : Kids F w (.slice (some ⟨g, 0, none⟩) (L.map (·.1)).length cap) (L.map (·.1)) := by
      refine .mk _ cap _ (fun i => ((L[i]?).map (·.2)).getD undef) (by simpa using hc) (by simpa using hb) (fun i hi => ?_) (fun i hi => ?_) (fun i hi => ?_)
      all_goals
        have hi' : i < L.length := by simpa using hi
        have hm : (L.map (·.1))[i] = L[i].1 := by simp
        have hq := hL L[i] (List.getElem_mem hi')
      · rw [hm]; exact hq.wf
      · have hc := fun j (hj : j < 5) => hget (i * 5 + j) (by omega)
        have hsv : ((L[i]?).map (·.2)).getD undef = L[i].2 := by simp [hi']
        rw [hm]
        refine ⟨g, 0, rfl, hF g hg, ⟨?_, ?_, ?_, ?_, ?_⟩⟩
        · have := hc 0 (by omega) _ (by rw [flat5 L i hi' 0 (by omega)]; rfl); simpa using this
        · have := hc 1 (by omega) _ (by rw [flat5 L i hi' 1 (by omega)]; rfl); simpa using this
        · have := hc 2 (by omega) _ (by rw [flat5 L i hi' 2 (by omega)]; rfl); simpa using this
        · have := hc 3 (by omega) _ (by rw [flat5 L i hi' 3 (by omega)]; rfl); simpa using this
        · have := hc 4 (by omega) _ (by rw [flat5 L i hi' 4 (by omega)]; rfl); rw [hsv]; simpa using this
      · have hsv : ((L[i]?).map (·.2)).getD undef = L[i].2 := by simp [hi']
        rw [hsv, hm]; exact hq.kids
    simpa using key
theorem Binds.cells {F : Nat → Prop} {w : World} {p : Option Addr} {n c : Nat} {l : List Bd} (h : Binds F w (.slice p n c) l) : ∃ L : List (Bd × Value), L.map (·.1) = l ∧ (∀ q ∈ L, TrV F w q.1.t q.2 ∧ q.1.s.size ≤ BL * 64) ∧ ∀ b, p = some b → ∀ j u, (L.flatMap bcells)[j]? = some u → w.cell? (b.add j) = some u := by
  have key : ∀ (m : List Bd) (k : Nat), (∀ i (h : i < m.length), BindAt F w p (k + i) m[i]) → ∃ L : List (Bd × Value), L.map (·.1) = m ∧ (∀ q ∈ L, TrV F w q.1.t q.2 ∧ q.1.s.size ≤ BL * 64) ∧ ∀ b, p = some b → ∀ j u, (L.flatMap bcells)[j]? = some u → w.cell? (b.add (k * 6 + j)) = some u := by
    intro m
    induction m with
    | nil => exact fun k _ => ⟨[], rfl, fun q hq => absurd hq (by simp), fun b _ j u hu => by simp at hu⟩
    | cons b m ih =>
      intro k hk
      obtain ⟨L, h1, h2, h3⟩ := ih (k + 1) (fun i hi => by have := hk (i + 1) (by simpa using hi); rwa [show k + (i + 1) = k + 1 + i from by omega] at this)
      obtain ⟨g, o, sv, hp, _, hs, hsz, hn, ht⟩ := hk 0 (by simp)
      refine ⟨(b, sv) :: L, by simp [h1], fun q hq => ?_, fun a ha j u hu => ?_⟩
      · rcases List.mem_cons.1 hq with rfl | hq
        · exact ⟨ht, hsz⟩
        · exact h2 q hq
      · rw [hp] at ha
        cases ha
        simp only [Nat.add_zero, List.getElem_cons_zero] at hs hn
        simp only [List.flatMap_cons] at hu
        rw [addr_add]
        by_cases hj : j < 6
        · rw [List.getElem?_append_left (by simpa [bcells] using hj)] at hu
          obtain ⟨a0, a1, a2, a3, a4⟩ := hn
          match j, hj with
          | 0, _ => simp [bcells] at hu; rw [← hu]; exact hs
          | 1, _ => simp [bcells] at hu; rw [← hu]; exact a0
          | 2, _ => simp [bcells] at hu; rw [← hu]; exact a1
          | 3, _ => simp [bcells] at hu; rw [← hu]; exact a2
          | 4, _ => simp [bcells] at hu; rw [← hu]; exact a3
          | 5, _ => simp [bcells] at hu; rw [← hu]; exact a4
        · rw [List.getElem?_append_right (by simp [bcells]; omega)] at hu
          have := h3 _ hp (j - (bcells (b, sv)).length) u hu
          rw [addr_add] at this
          rw [show o + (k * 6 + j) = o + ((k + 1) * 6 + (j - (bcells (b, sv)).length)) from by simp [bcells]; omega]
          exact this
  obtain ⟨p', c', he, _, _, hx⟩ := h
  cases he
  obtain ⟨L, h1, h2, h3⟩ := key l 0 (fun i hi => by rw [Nat.zero_add]; exact hx.1 i hi)
  exact ⟨L, h1, h2, fun b hb j u hu => by have := h3 b hb j u hu; simpa using this⟩
theorem tcells_plain {F : Nat → Prop} {w : World} {q : Tr × Value} (h : TrV F w q.1 q.2) : ∀ u ∈ tcells q, u.oneCell' = true := by
  obtain ⟨p, c, e⟩ := h.kids.slice
  intro u hu
  simp only [tcells, List.mem_cons, List.not_mem_nil, or_false] at hu
  rcases hu with rfl | rfl | rfl | rfl | rfl
  all_goals first | rfl | (rw [e]; rfl)
end Go.Proofs.YtgliogfggajfgaaGreatDoor
namespace Go.Proofs.YtgliogfggajfgaaGreatDoor
open Go.RowKit
structure GoHyp (F : Nat → Prop) (p x : Tr) (l : List Bd) (w : World) (pv xv v : Value) : Prop where
  lt : Letters w
  fr : ∀ k, w.heap.size ≤ k → F k
  hp : TrV F w p pv
  hx : TrV F w x xv
  hl : Binds F w v l
  pat : p.pat = true
  chk : chkT x = 0
  chl : ∀ b ∈ l, chkT b.t = 0
  len : l.length + p.nn ≤ 1048576
theorem infoTerm : (Tryz.prog.info? 25).map (fun i => (i.zero, i.size, i.bytes)) = some (some (.agg #[.int .i8 0, .int .i64 0, .string ⟨#[]⟩, .string ⟨#[]⟩, .slice none 0 0]), 5, 72) := by kernel_rfl
theorem info_parts {T : TypeId} {z : Value} {s b : Nat} (h : (Tryz.prog.info? T).map (fun i => (i.zero, i.size, i.bytes)) = some (some z, s, b)) : ∃ i, Tryz.prog.info? T = some i ∧ i.zero = some z ∧ i.size = s ∧ i.bytes = b := by
  obtain ⟨i, hi, he⟩ := Option.map_eq_some_iff.1 h
  simp only [Prod.mk.injEq] at he
  exact ⟨i, hi, he.1, he.2.1, he.2.2⟩
end Go.Proofs.YtgliogfggajfgaaGreatDoor
namespace Go.Proofs.YtgliogfggajfgaaGreatDoor
open Go.RowKit
end Go.Proofs.YtgliogfggajfgaaGreatDoor
namespace Go.Proofs.YtgliogfggajfgaaGreatDoor
open Go.RowKit
theorem GoHyp.at {F : Nat → Prop} {p x : Tr} {l l' : List Bd} {w w4 : World} {pv xv v v2 pv2 xv2 : Value} (h : GoHyp F p x l w pv xv v) (hb : Below w.heap.size w w4) {k : Nat} (hk : k < p.l.length) (hkx : k < x.l.length) (hpl : Tr.pat.patl p.l = true)
    (hp : TrV F w4 p.l[k] pv2) (hx : TrV F w4 x.l[k] xv2) (hl : Binds F w4 v2 l') (hc : ∀ b ∈ l', chkT b.t = 0) (hn : l'.length + Tr.nn.nnl (p.l.drop k) ≤ l.length + Tr.nn.nnl p.l) : GoHyp F p.l[k] x.l[k] l' w4 pv2 xv2 v2 where
  lt := h.lt.under hb
  fr := fun k hk => h.fr k (by have := hb.size; omega)
  hp := hp
  hx := hx
  hl := hl
  pat := patl_mem hpl _ (List.getElem_mem hk)
  chk := chk_kids h.chk _ (List.getElem_mem hkx)
  chl := hc
  len := by
    have h1 := h.len
    rw [nn_eq] at h1
    rw [nnl_drop hk] at hn
    omega
end Go.Proofs.YtgliogfggajfgaaGreatDoor
namespace Go.Proofs.YtgliogfggajfgaaGreatDoor
open Go.RowKit
theorem GoHyp.under {F : Nat → Prop} {p x : Tr} {l : List Bd} {w W : World} {pv xv v : Value} (h : GoHyp F p x l w pv xv v) (hb : Below w.heap.size w W) : GoHyp F p x l W pv xv v :=
  ⟨h.lt.under hb, fun k hk => h.fr k (by have := hb.size; omega), h.hp.below hb, h.hx.below hb, h.hl.under hb, h.pat, h.chk, h.chl, h.len⟩
end Go.Proofs.YtgliogfggajfgaaGreatDoor
namespace Go.Proofs.YtgliogfggajfgaaGreatDoor
open Go.RowKit
end Go.Proofs.YtgliogfggajfgaaGreatDoor
namespace Go.Proofs.YtgliogfggajfgaaGreatDoor
open Go.RowKit
end Go.Proofs.YtgliogfggajfgaaGreatDoor
namespace Go.Proofs.YtgliogfggajfgaaGreatDoor
open Go.RowKit
end Go.Proofs.YtgliogfggajfgaaGreatDoor
namespace Go.Proofs.YtgliogfggajfgaaGreatDoor
open Go.RowKit
end Go.Proofs.YtgliogfggajfgaaGreatDoor
namespace Go.Proofs.YtgliogfggajfgaaGreatDoor
open Go.RowKit
theorem any_take {α : Type} {P : α → Bool} {l : List α} {k : Nat} (hk : k < l.length) (h : (l.take k).any P = false) (hp : P l[k] = false) : (l.take (k + 1)).any P = false := by
  rw [List.take_succ_eq_append_getElem hk, List.any_append, h]; simp [hp]
theorem any_at {α : Type} {P : α → Bool} {l : List α} {k : Nat} (hk : k < l.length) (hp : P l[k] = true) : l.any P = true := List.any_eq_true.2 ⟨l[k], List.getElem_mem hk, hp⟩
end Go.Proofs.YtgliogfggajfgaaGreatDoor
namespace Go.Proofs.YtgliogfggajfgaaGreatDoor
open Go.RowKit
theorem Kids.cells {F : Nat → Prop} {w : World} {p : Option Addr} {n c : Nat} {l : List Tr} (h : Kids F w (.slice p n c) l) : ∃ L : List (Tr × Value), L.map (·.1) = l ∧ (∀ q ∈ L, TrV F w q.1 q.2) ∧ ∀ b, p = some b → ∀ j u, (L.flatMap tcells)[j]? = some u → w.cell? (b.add j) = some u := by
  have key : ∀ (m : List Tr) (k : Nat), (∀ i (h : i < m.length), ∃ g o sv, p = some ⟨g, o, none⟩ ∧ F g ∧ NodeAt w g (o + (k + i) * 5) m[i] sv ∧ TrV F w m[i] sv) → ∃ L : List (Tr × Value), L.map (·.1) = m ∧ (∀ q ∈ L, TrV F w q.1 q.2) ∧ ∀ b, p = some b → ∀ j u, (L.flatMap tcells)[j]? = some u → w.cell? (b.add (k * 5 + j)) = some u := by
    intro m
    induction m with
    | nil => exact fun k _ => ⟨[], rfl, fun q hq => absurd hq (by simp), fun b _ j u hu => by simp at hu⟩
    | cons x m ih =>
      intro k hk
      obtain ⟨L, h1, h2, h3⟩ := ih (k + 1) (fun i hi => by have := hk (i + 1) (by simpa using hi); rwa [show k + (i + 1) = k + 1 + i from by omega] at this)
      obtain ⟨g, o, sv, hp, _, hn, ht⟩ := hk 0 (by simp)
      refine ⟨(x, sv) :: L, by simp [h1], fun q hq => ?_, fun a ha j u hu => ?_⟩
      · rcases List.mem_cons.1 hq with rfl | hq
        · exact ht
        · exact h2 q hq
      · rw [hp] at ha
        cases ha
        simp only [Nat.add_zero, List.getElem_cons_zero] at hn
        simp only [List.flatMap_cons] at hu
        rw [addr_add]
        by_cases hj : j < 5
        · rw [List.getElem?_append_left (by simpa [tcells] using hj)] at hu
          obtain ⟨a0, a1, a2, a3, a4⟩ := hn
          match j, hj with
          | 0, _ => simp [tcells] at hu; rw [← hu]; exact a0
          | 1, _ => simp [tcells] at hu; rw [← hu]; exact a1
          | 2, _ => simp [tcells] at hu; rw [← hu]; exact a2
          | 3, _ => simp [tcells] at hu; rw [← hu]; exact a3
          | 4, _ => simp [tcells] at hu; rw [← hu]; exact a4
        · rw [List.getElem?_append_right (by simp [tcells]; omega)] at hu
          have := h3 _ hp (j - (tcells (x, sv)).length) u hu
          rw [addr_add] at this
          rw [show o + (k * 5 + j) = o + ((k + 1) * 5 + (j - (tcells (x, sv)).length)) from by simp [tcells]; omega]
          exact this
  obtain ⟨L, h1, h2, h3⟩ := key l 0 (fun i hi => by rw [Nat.zero_add]; exact h.at hi)
  exact ⟨L, h1, h2, fun b hb j u hu => by have := h3 b hb j u hu; simpa using this⟩
theorem row_shape {w : World} {base : Nat} {e : TypeId} {size : Nat} {v : Value} {n : Nat} {xs : List Value} (h : w.ownsRow base e size v n xs) : ∃ q c, v = .slice q n c := by
  rcases h.2 with ⟨rfl, h0⟩ | ⟨g, cap, cur, rfl, _⟩
  · exact ⟨none, 0, by rw [h0]⟩
  · exact ⟨_, cap, rfl⟩
end Go.Proofs.YtgliogfggajfgaaGreatDoor
namespace Go.Proofs.YtgliogfggajfgaaGreatDoor
open Go.RowKit
end Go.Proofs.YtgliogfggajfgaaGreatDoor
namespace Go.Proofs.YtgliogfggajfgaaGreatDoor
open Go.RowKit
end Go.Proofs.YtgliogfggajfgaaGreatDoor
namespace Go.Proofs.YtgliogfggajfgaaGreatDoor
open Go.RowKit
theorem same_self (x : Tr) : x.same x = true := by
  induction x using Tr.ind with
  | h x ih =>
    rw [same_eq]
    have key : ∀ l : List Tr, (∀ y ∈ l, y ∈ x.l) → Tr.same.samel l l = true := by
      intro l
      induction l with
      | nil => intro _; rfl
      | cons a r ihr => intro h; rw [Tr.same.samel, ih a (h a (by simp)), ihr fun y hy => h y (List.mem_cons_of_mem _ hy)]; rfl
    rw [key x.l fun _ h => h]
    simp
def Tr.ok : Tr → Bool
  | .mk k n s t l => oneB (.mk k n s t l) && okl l
where okl : List Tr → Bool
  | [] => true
  | x :: r => x.ok && okl r
theorem nn_one (x : Tr) : 1 ≤ x.nn := by rw [nn_eq]; omega
theorem sz_of (x : Tr) : ∀ m : Int, (x.nn : Int) ≤ m → x.sz m = x.nn := by
  induction x using Tr.ind with
  | h x ih =>
    intro m hm
    rw [nn_eq] at hm ⊢
    cases x with
    | mk k n s t l =>
      have key : ∀ (r : List Tr), (∀ y ∈ r, y ∈ l) → ∀ a : Int, a + Tr.nn.nnl r ≤ m → Tr.sz.szl r m a = a + Tr.nn.nnl r := by
        intro r
        induction r with
        | nil => exact fun _ a _ => by simp [Tr.sz.szl, Tr.nn.nnl]
        | cons y r ihr =>
          intro hr a h2
          have h1 := nn_one y
          rw [Tr.nn.nnl] at h2 ⊢
          rw [Tr.sz.szl, if_pos (by omega), ih y (hr y (by simp)) _ (by omega), ihr (fun z hz => hr z (List.mem_cons_of_mem _ hz)) _ (by omega)]
          omega
      show Tr.sz.szl l m 1 = _
      simp only [Tr.l] at hm ⊢
      rw [key l (fun _ h => h) 1 (by omega)]; omega
end Go.Proofs.YtgliogfggajfgaaGreatDoor
namespace Go.Proofs.YtgliogfggajfgaaGreatDoor
open Go.RowKit
end Go.Proofs.YtgliogfggajfgaaGreatDoor
namespace Go.Proofs.YtgliogfggajfgaaGreatDoor
open Go.RowKit
theorem wf_small (k n : Int) (s t : ByteArray) (l : List Tr) (h1 : (Lit.int .i8 k).wf = true) (h2 : (Lit.int .i64 n).wf = true) (h3 : s.size ≤ 64) (h4 : t.size ≤ 64) : NodeWf (.mk k n s t l) := ⟨h1, h2, by show s.size ≤ _; unfold BL; omega, by show t.size ≤ _; unfold BL; omega⟩
end Go.Proofs.YtgliogfggajfgaaGreatDoor
namespace Go.Proofs.YtgliogfggajfgaaGreatDoor
open Go.RowKit
end Go.Proofs.YtgliogfggajfgaaGreatDoor
namespace Go.Proofs.YtgliogfggajfgaaGreatDoor
open Go.ChangeShapes Go.WideShapes Go.ChangeAt Go.RowKit Go.Joins Go.Deep
section
variable {H : Type} {enc : TypeId × Value → H} {w : World}
end
end Go.Proofs.YtgliogfggajfgaaGreatDoor
namespace Go.Proofs.YtgliogfggajfgaaGreatDoor
open Go.ChangeShapes Go.WideShapes Go.ChangeAt Go.RowKit
theorem own : ownKnob Tryz.prog.godebug = none := by kernel_rfl
section
variable {H : Type} {enc : TypeId × Value → H} {W W' : World}
end
end Go.Proofs.YtgliogfggajfgaaGreatDoor
namespace Go.Proofs.YtgliogfggajfgaaGreatDoor
open Go.ChangeShapes Go.WideShapes Go.ChangeAt Go.RowKit Go.Joins Go.Deep
section
variable {H : Type} {enc : TypeId × Value → H} {w : World} {v : Value} {d : DataW H} {p : List MemPlace}
end
end Go.Proofs.YtgliogfggajfgaaGreatDoor
namespace Go.Proofs.YtgliogfggajfgaaGreatDoor
open Go.RowKit
theorem TrV.move {P P' : Nat → Prop} {w w' : World} {x : Tr} {v : Value} (h : TrV P w x v) (hk : ∀ g, P g → g < w.heap.size → w'.heap[g]? = w.heap[g]?) (hP : ∀ g, P g → g < w.heap.size → P' g) : TrV P' w' x v := by
  have h1 : Kids (fun g => P' g ∧ P g) w v x.l := h.kids.mono fun g hg hl => ⟨hP g hg hl, hg⟩
  have h2 : Kids (fun g => P' g ∧ P g) w' v x.l := h1.keep fun g hg hl => hk g hg.2 hl
  exact ⟨h.wf, h2.mono fun g hg _ => hg.1⟩
theorem TrV.mono {P P' : Nat → Prop} {w : World} {x : Tr} {v : Value} (h : TrV P w x v) (hP : ∀ g, P g → g < w.heap.size → P' g) : TrV P' w x v := ⟨h.wf, h.kids.mono hP⟩
theorem setRow_ne {X : World} {g i : Nat} {cells : Array Value} (h : i ≠ g) : (X.setRow g cells).heap[i]? = X.heap[i]? := by
  simp [World.setRow, Array.getElem?_modify]
  omega
def FlF (F : Nat → Prop) (S b : Nat) (sv : Value) (g : Nat) : Prop := ((F g ∧ g < S) ∨ b < g) ∧ sv.ownBlock ≠ some g
structure TRow (F : Nat → Prop) (S b : Nat) (T : TypeId) (w : World) (sv : Value) (L : List (Tr × Value)) : Prop where
  own : w.ownsRow (b + 1) T 5 sv L.length (L.flatMap tcells)
  at_ : ∀ q ∈ L, TrV (FlF F S b sv) w q.1 q.2
theorem row_keep {w w' : World} {base : Nat} {e : TypeId} {size : Nat} {v : Value} {n : Nat} {xs : List Value} (h : w.ownsRow base e size v n xs) (hk : ∀ g, base ≤ g → g < w.heap.size → w'.heap[g]? = w.heap[g]?) : w'.ownsRow base e size v n xs := by
  obtain ⟨h1, h2⟩ := h
  refine ⟨h1, ?_⟩
  rcases h2 with h2 | ⟨g, cap, cur, hv, hg, hh, r⟩
  · exact .inl h2
  · exact .inr ⟨g, cap, cur, hv, hg, (hk g hg (Array.getElem?_eq_some_iff.1 hh).1).trans hh, r⟩
theorem TRow.nil (F : Nat → Prop) (S b : Nat) (T : TypeId) (w : World) : TRow F S b T w (.slice none 0 0) [] := ⟨World.ownsRow_nil .., fun q hq => by simp at hq⟩
theorem TRow.keep {F : Nat → Prop} {S b : Nat} {T : TypeId} {w w' : World} {sv : Value} {L : List (Tr × Value)} (h : TRow F S b T w sv L) (hk : ∀ g, g < S ∨ b < g → g < w.heap.size → w'.heap[g]? = w.heap[g]?) : TRow F S b T w' sv L :=
  ⟨row_keep h.own fun g hg hl => hk g (.inr (by omega)) hl, fun q hq => (h.at_ q hq).move (fun g hg hl => hk g (hg.1.elim (fun h => .inl h.2) .inr) hl) fun g hg _ => hg⟩
theorem TRow.below {F : Nat → Prop} {S b : Nat} {T : TypeId} {w w' : World} {sv : Value} {L : List (Tr × Value)} (h : TRow F S b T w sv L) (hb : Below w.heap.size w w') : TRow F S b T w' sv L := h.keep fun g _ hl => hb.block g hl
theorem TRow.kids {F : Nat → Prop} {S b : Nat} {T : TypeId} {w : World} {sv : Value} {L : List (Tr × Value)} (h : TRow F S b T w sv L) (hF : ∀ k, S ≤ k → F k) (hS : S ≤ b + 1) (hl : L.length ≤ BL) : Kids F w sv (L.map (·.1)) :=
  kids_row h.own (fun k hk => hF k (by omega)) (fun q hq => (h.at_ q hq).mono fun g hg _ => hg.1.elim (fun h => h.1) fun h => hF g (by omega)) hl
theorem TRow.slice {F : Nat → Prop} {S b : Nat} {T : TypeId} {w : World} {sv : Value} {L : List (Tr × Value)} (h : TRow F S b T w sv L) : ∃ q c, sv = .slice q L.length c := row_shape h.own
end Go.Proofs.YtgliogfggajfgaaGreatDoor
namespace Go.Proofs.YtgliogfggajfgaaGreatDoor
open Go.RowKit
theorem run_append_empty {P : Program} {w : World} (t ty e : TypeId) (i : TypeInfo) (ht : P.underlying t = some (.slice e)) (hi : P.info? e = some i) (p q : Option Addr) (n c c2 : Nat) (hn : n ≤ c) :
    (Builtin.append_ #[t, t] ty #[.slice p n c, .slice q 0 c2]).run P w = .ok (.slice p n c) w := by
  cases q with
  | none => cases p <;> simp [Builtin.append_, run_underlying ht, sizeOf, typeInfo, hi, Builtin.lenOf, Builtin.firstCells, hn, storeCells]
  | some a =>
    have hf := run_firstCells_some (P := P) w i.size 0 a 0 c2 [] (by simp) (by simp)
    cases p <;> simp [Builtin.append_, run_underlying ht, sizeOf, typeInfo, hi, Builtin.lenOf, hf, hn, storeCells]
theorem flat5t_len (L : List (Tr × Value)) : (L.flatMap tcells).length = L.length * 5 := by
  induction L with
  | nil => rfl
  | cons q r ih => simp only [List.flatMap_cons, List.length_append, ih, List.length_cons]; simp [tcells]; omega
set_option maxRecDepth 10000 in
theorem run_append_nil_terms {w : World} (ty : TypeId) {F H : Nat → Prop} (p : Option Addr) (n c : Nat) (l : List Tr) (hsrc : Kids F w (.slice p n c) l) (hlen : l.length ≤ 1048576) (hFH : ∀ g, F g → H g) (hH : ∀ g, w.heap.size ≤ g → H g) :
    ∃ v' w', (Builtin.append_ #[23, 23] ty #[.slice none 0 0, .slice p n c]).run Tryz.prog w = .ok v' w' ∧ Kids H w' v' l ∧ Below w.heap.size w w' := by
  obtain ⟨i0, hi, hz0, hz1, hz2⟩ := info_parts infoTerm
  obtain ⟨p', c', he, hcap, _, _⟩ := hsrc.open_
  cases he
  by_cases h0 : l.length = 0
  · obtain rfl : l = [] := List.eq_nil_of_length_eq_zero h0
    exact ⟨.slice none 0 0, w, run_append_empty (P := Tryz.prog) (w := w) 23 ty 25 i0 Tryz.underlying23 hi none p 0 0 c (Nat.le_refl _), Kids.nil _ _, Below.refl _ _⟩
  · obtain ⟨g, o, sv, rfl, _⟩ := hsrc.at (i := 0) (by omega)
    obtain ⟨Ls, hLm, hLt, hLc⟩ := hsrc.cells
    have hLl : Ls.length = l.length := by rw [← hLm, List.length_map]
    obtain ⟨v', w', hr, hown, hg, _⟩ := run_append_own (P := Tryz.prog) w w.heap.size 23 ty 25 i0 _ 5 72 Tryz.underlying23 hi hz0 hz1 hz2 rfl (by decide) (.slice none 0 0) 0 [] (World.ownsRow_nil ..) ⟨g, o, none⟩ l.length c (Ls.flatMap tcells) (by rw [flat5t_len, hLl]) (hLc _ rfl)
      (fun u hu => by obtain ⟨q, hq, hu⟩ := List.mem_flatMap.1 hu; exact tcells_plain (hLt q hq) u hu) (by unfold maxLen; omega) (by omega) (Nat.le_refl _)
    have hB : Below w.heap.size w w' := (Below.refl _ _).grown hg (Nat.le_refl _) (fun j hj => by cases hj)
    refine ⟨v', w', hr, ?_, hB⟩
    have h1 := kids_row (F := H) (L := Ls) (T := 25) (w := w') (base := w.heap.size) (v := v') (by simpa [hLl] using hown) hH (fun q hq => (hLt q hq).move (fun g hg hl => hB.block g hl) fun g hg _ => hFH g hg) (by unfold BL; omega)
    rwa [hLm] at h1
theorem wpList_append_nil_terms {w : World} {ops : Array Oper} {rest : List Oper} {o : Oper} {a : Act} {Q : Exit → Act → World → Prop} (hgd : o.guard = none) (s x : Operand)
    (ho : o.op = .call { callee := .builtin .append, args := #[s, x], argTypes := #[23, 23] }) {F : Nat → Prop} (H : Nat → Prop)
    (hs : a.eval s = .slice none 0 0) (p : Option Addr) (n c : Nat) (l : List Tr) (hx : a.eval x = .slice p n c) (hsrc : Kids F w (.slice p n c) l) (hlen : l.length ≤ 1048576) (hFH : ∀ g, F g → H g) (hH : ∀ g, w.heap.size ≤ g → H g)
    (h : ∀ v' w', Kids H w' v' l → Below w.heap.size w w' → wpList Tryz.prog ops Q rest (a.put o.dst v') w') : wpList Tryz.prog ops Q (o :: rest) a w := by
  refine wpList_plain hgd fun K hK => ?_
  obtain ⟨v', w', hr, k1, k2⟩ := run_append_nil_terms o.type p n c l hsrc hlen hFH hH
  unfold Oper.wp
  simp [execOp, ho, resolve, invoke, builtin, hs, hx, hr, Result.andThen]
  exact hK _ _ (h v' w' k1 k2)
def madeSum : List Tr → Int → Option Int
  | [], n => some n
  | x :: r, n => if chkT x = 30 then none else madeSum r (n + x.sz 257)
def madeS (k : Int) (l : List Tr) : Tr × Int := match madeSum l 1 with
  | none => (zeroT, 30)
  | some n => if 256 < n then (zeroT, 11) else (.mk k 0 ⟨#[]⟩ ⟨#[]⟩ l, 0)
def MadeSays (F : Nat → Prop) (q : Tr × Int) (w : World) (e : Ending) (w' : World) : Prop :=
  ∃ (y : Tr) (yv : Value) (er : Int), e = .returned (.tuple #[.agg (cells5 y yv), .int .i64 er]) ∧ TrV F w' y yv ∧ Below w.heap.size w w' ∧ (y, er) = q
def MdRel (l : List Tr) (w1 : World) (n i : Value) (wr : World) : Prop :=
  ∃ j : Nat, j ≤ l.length ∧ i = .int .i64 j ∧ ∃ m : Int, n = .int .i64 m ∧ 1 ≤ m ∧ m ≤ 1 + 257 * j ∧ madeSum (l.drop j) m = madeSum l 1 ∧ Below w1.heap.size w1 wr
set_option maxHeartbeats 8000000 in
set_option maxRecDepth 100000 in
theorem made_any {F : Nat → Prop} {w : World} {l : List Tr} {v : Value} {k : Int} (hL : Letters w) (hk : (Lit.int .i8 k).wf = true) (hF : ∀ g, w.heap.size ≤ g → F g) (hl : Kids F w v l) (hn : l.length ≤ 1048576) :
    Calls Tryz.prog 68 #[.int .i8 k, v] w (MadeSays F (madeS k l) w) := by
  obtain ⟨p, c, rfl⟩ := hl.slice
  have hnw : (w.alloc (.cells (cells5 zeroT (.slice none 0 0)) 25)).heap[w.heap.size]? = some (.cells (cells5 zeroT (.slice none 0 0)) 25 (0, 0)) := heap_new w _
  have hb1 := alloc_below w (.cells (cells5 zeroT (.slice none 0 0)) 25)
  have HK := Lib.hid ((hl.mono (F' := fun g => F g ∧ g < w.heap.size) fun g hg h => ⟨hg, h⟩).under hb1)
  have HF := Lib.hid hF
  have HL := Lib.hid (hL.under hb1)
  have HW := Lib.hid hk
  have HM := Lib.hid (show madeS k l = (match madeSum l 1 with | none => (zeroT, 30) | some n => if 256 < n then (zeroT, 11) else (.mk k 0 ⟨#[]⟩ ⟨#[]⟩ l, 0)) from rfl)
  clear hL hk hF hl
  generalize madeS k l = ms at HM ⊢
  go_enter Tryz.func68, Tryz.ntmps68
  go_upto_region 1 with fail
  change Code.wp _ _ _ _ (w.alloc (.cells (cells5 zeroT (.slice none 0 0)) 25))
  generalize w.alloc (.cells (cells5 zeroT (.slice none 0 0)) 25) = w1 at hnw hb1 HK HL ⊢
  have hz1 : w.heap.size < w1.heap.size := (Array.getElem?_eq_some_iff.1 hnw).1
  have HNW := Lib.hid hnw
  have HZ := Lib.hid hz1
  have hres : ∀ (W W' : World) (y : Tr) (yv : Value) (er : Int), Below w1.heap.size w1 W → TrV F W y yv → (∀ g, F g → g ≠ w.heap.size → g < W.heap.size → W'.heap[g]? = W.heap[g]?) → True := fun _ _ _ _ _ _ _ _ => trivial
  clear hnw hz1 hres
  go_wp2
  go_loopw [6, 12] (fun n i wr => MdRel l w1 n i wr) (fun _ i _ => l.length - (intOf i).toNat)
  case atStart => exact ⟨0, Nat.zero_le _, rfl, 1, rfl, by omega, by omega, rfl, Below.refl _ _⟩
  case round =>
    obtain ⟨j, hj, rfl, m, rfl, hm1, hm2, hsum, hbr⟩ := hrel
    have HS := Lib.hid hsum
    have hB := hb1.trans (hbr.mono hb1.size)
    have hnr := (hbr.block _ HZ.out).trans HNW.out
    clear hsum
    by_cases hlt : j < l.length
    · obtain ⟨g, o, xv, rfl, hFg, ⟨a0, a1, a2, a3, a4⟩, hkid⟩ := (HK.out.under hbr).at hlt
      obtain ⟨p3, c3, rfl⟩ := hkid.kids.slice
      have hsm : madeSum (l.drop j) m = if chkT l[j] = 30 then none else madeSum (l.drop (j + 1)) (m + l[j].sz 257) := by rw [List.drop_eq_getElem_cons hlt, madeSum]
      rw [HS.out] at hsm
      generalize l[j] = x at a0 a1 a2 a3 a4 hkid hsm
      have hn5 : (wr.alloc (.cells (cells5 zeroT (.slice none 0 0)) 25)).heap[wr.heap.size]? = some (.cells (cells5 zeroT (.slice none 0 0)) 25 (0, 0)) := heap_new wr _
      have hr6 := setRow_heap' (cells := cells5 x (.slice p3 x.l.length c3)) hn5
      have hb6 := below_setRow (g := wr.heap.size) (cells := cells5 x (.slice p3 x.l.length c3)) (alloc_below wr (.cells (cells5 zeroT (.slice none 0 0)) 25)) (Nat.le_refl _)
      go_upto_region 5 with (refine wpList_store_row rfl 25 _ _ rfl wr.heap.size (cells5 x (.slice p3 x.l.length c3)) (by kernel_rfl) (by kernel_rfl) 25 (cells5 zeroT (.slice none 0 0)) hn5 (size28 _ _) (by kernel_rfl) (by kernel_rfl) ?_)
      change Code.wp _ _ _ _ ((wr.alloc (.cells (cells5 zeroT (.slice none 0 0)) 25)).setRow wr.heap.size (cells5 x (.slice p3 x.l.length c3)))
      generalize (wr.alloc (.cells (cells5 zeroT (.slice none 0 0)) 25)).setRow wr.heap.size (cells5 x (.slice p3 x.l.length c3)) = w6 at hr6 hb6 ⊢
      have hbr6 := hbr.trans (hb6.mono hbr.size)
      obtain ⟨d0, d1, d2, d3, d4⟩ := node_heap (x := x) hr6
      simp only [Nat.zero_add] at d1 d2 d3 d4
      have hD : ∀ W : World, Below w6.heap.size w6 W → W.cell? ⟨wr.heap.size, 0, none⟩ = some (.int .i8 x.k) ∧ W.cell? ⟨wr.heap.size, 1, none⟩ = some (.int .i64 x.n) ∧ W.cell? ⟨wr.heap.size, 2, none⟩ = some (.string x.s) ∧ W.cell? ⟨wr.heap.size, 3, none⟩ = some (.string x.t) ∧ W.cell? ⟨wr.heap.size, 4, none⟩ = some (.slice p3 x.l.length c3) := by
        intro W hb
        have f : ∀ g o u, w6.cell? ⟨g, o, none⟩ = some u → W.cell? ⟨g, o, none⟩ = some u := fun g o u h => (hb.cell (p := ⟨g, o, none⟩) (cell_block h)).trans h
        exact ⟨f _ _ _ d0, f _ _ _ d1, f _ _ _ d2, f _ _ _ d3, f _ _ _ d4⟩
      have HD := Lib.hid hD
      have cC := tcheck_any (HL.out.under hbr6) (hkid.below hb6)
      have cZ := fun (W : World) (hb : Below w6.heap.size w6 W) => tsize_any ((hkid.below hb6).below hb)
      have hzb := sz_bound x 257 (by omega)
      have HSM := Lib.hid hsm
      have HN6 := Lib.hid ((hb6.block _ (Array.getElem?_eq_some_iff.1 hnr).1).trans hnr)
      clear hn5 hr6 hkid a0 a1 a2 a3 a4 hsm hD hnr
      by_cases h30 : chkT x = 30
      · have HE : Hid (ms = (zeroT, 30)) := by unfold Hid; rw [HM.out, HSM.out, if_pos h30]
        rw [h30] at cC
        clear h30 cZ
        go_upto_region 6 with (go_at_call 32; refine cC.mono ?_; rintro e w7 ⟨rfl, hb7⟩)
        have hn7 := (hb7.block _ (Array.getElem?_eq_some_iff.1 HN6.out).1).trans HN6.out
        have hr8 := setRow_heap' (cells := cells5 zeroT (.slice none 0 0)) hn7
        have hB7 : Below w.heap.size w w7 := hb1.trans ((hbr6.trans (hb7.mono hbr6.size)).mono hb1.size)
        have hB8 := below_setRow (g := w.heap.size) (cells := cells5 zeroT (.slice none 0 0)) hB7 (Nat.le_refl _)
        clear cC d0 d1 d2 d3 d4
        go_wp2_with (refine wpList_store_row rfl 25 _ _ rfl w.heap.size (cells5 zeroT (.slice none 0 0)) (by kernel_rfl) (by kernel_rfl) 25 (cells5 zeroT (.slice none 0 0)) hn7 (size28 _ _) (by kernel_rfl) (by kernel_rfl) ?_)
        exact bodyPost_ret (v := .tuple #[.agg (cells5 zeroT (.slice none 0 0)), .int .i64 30]) (results_term Tryz.results68 _ _ _ _ _ rfl hr8) rfl ⟨zeroT, _, 30, rfl, zero_trv _ _, hB8, HE.out.symm⟩
      · have hc30 : (chkT x == 30) = false := by simpa using h30
        have HNX : Hid (madeSum (l.drop (j + 1)) (m + x.sz 257) = madeSum l 1) := by unfold Hid; rw [HSM.out, if_neg h30]
        clear h30
        generalize chkT x = q at cC hc30
        generalize x.sz 257 = z at cZ hzb HNX
        go_wp2_with (first
          | (go_at_call 32; refine cC.mono ?_; rintro e w7 ⟨rfl, hb7⟩; obtain ⟨e0, e1, e2, e3, e4⟩ := HD.out _ hb7)
          | (go_at_call 93; refine (cZ _ hb7).mono ?_; rintro e w8 ⟨rfl, hb8⟩))
        go_roundw
        case rel => exact ⟨j + 1, hlt, by go_num, _, rfl, by omega, by omega, HNX.out, hbr6.trans ((hb7.trans (hb8.mono hb7.size)).mono hbr6.size)⟩
        case measure => simp [intOf]; omega
    · have hms : madeSum l 1 = some m := by rw [← HS.out, List.drop_eq_nil_of_le (by omega), madeSum]
      have HMS := Lib.hid hms
      clear hms
      by_cases hbig : 256 < m
      · have HE : Hid (ms = (zeroT, 11)) := by unfold Hid; rw [HM.out, HMS.out]; exact if_pos hbig
        have hr8 := setRow_heap' (cells := cells5 zeroT (.slice none 0 0)) hnr
        have hB8 := below_setRow (g := w.heap.size) (cells := cells5 zeroT (.slice none 0 0)) hB (Nat.le_refl _)
        go_wp2_with (refine wpList_store_row rfl 25 _ _ rfl w.heap.size (cells5 zeroT (.slice none 0 0)) (by kernel_rfl) (by kernel_rfl) 25 (cells5 zeroT (.slice none 0 0)) hnr (size28 _ _) (by kernel_rfl) (by kernel_rfl) ?_)
        exact bodyPost_ret (v := .tuple #[.agg (cells5 zeroT (.slice none 0 0)), .int .i64 11]) (results_term Tryz.results68 _ _ _ _ _ rfl hr8) rfl ⟨zeroT, _, 11, rfl, zero_trv _ _, hB8, HE.out.symm⟩
      · have HE : Hid (ms = (.mk k 0 ⟨#[]⟩ ⟨#[]⟩ l, 0)) := by unfold Hid; rw [HM.out, HMS.out]; exact if_neg hbig
        have hsrc := HK.out.under hbr
        have hzr : w.heap.size < wr.heap.size := by have := HZ.out; have := hbr.size; omega
        go_wp2_with (first
          | (at_builtin; refine wpList_append_nil_terms rfl (.const (.slice none 0 0)) (.tmp 31) rfl (fun g => F g ∧ g ≠ w.heap.size) rfl p l.length c l rfl hsrc hn (fun g hg => ⟨hg.1, by omega⟩) (fun g hg => ⟨HF.out g (by omega), by omega⟩) ?_; intro v8 w8 hk8 hb8; obtain ⟨q8, c8, rfl⟩ := hk8.slice; have hn8 := (hb8.block _ (Array.getElem?_eq_some_iff.1 hnr).1).trans hnr)
          | (refine wpList_store_row rfl 25 _ _ rfl w.heap.size (cells5 (.mk k 0 ⟨#[]⟩ ⟨#[]⟩ l) (.slice q8 l.length c8)) (by kernel_rfl) (by kernel_rfl) 25 (cells5 zeroT (.slice none 0 0)) hn8 (size28 _ _) (by kernel_rfl) (by kernel_rfl) ?_))
        have hr9 := setRow_heap' (cells := cells5 (.mk k 0 ⟨#[]⟩ ⟨#[]⟩ l) (.slice q8 l.length c8)) hn8
        have hB8 := hB.trans (hb8.mono hB.size)
        have hB9 := below_setRow (g := w.heap.size) (cells := cells5 (.mk k 0 ⟨#[]⟩ ⟨#[]⟩ l) (.slice q8 l.length c8)) hB8 (Nat.le_refl _)
        have hy8 : TrV (fun g => F g ∧ g ≠ w.heap.size) w8 (.mk k 0 ⟨#[]⟩ ⟨#[]⟩ l) (.slice q8 l.length c8) := ⟨⟨HW.out, (by show (Lit.int .i64 0).wf = true; decide), Nat.zero_le _, Nat.zero_le _⟩, hk8⟩
        have hy9 := hy8.move (P' := F) (w' := w8.setRow w.heap.size (cells5 (.mk k 0 ⟨#[]⟩ ⟨#[]⟩ l) (.slice q8 l.length c8))) (fun g hg _ => setRow_ne hg.2) (fun g hg _ => hg.1)
        exact bodyPost_ret (v := .tuple #[.agg (cells5 (.mk k 0 ⟨#[]⟩ ⟨#[]⟩ l) (.slice q8 l.length c8)), .int .i64 0]) (results_term Tryz.results68 _ _ _ _ _ rfl hr9) rfl ⟨.mk k 0 ⟨#[]⟩ ⟨#[]⟩ l, _, 0, rfl, hy9, hB9, HE.out.symm⟩
set_option maxHeartbeats 4000000 in
set_option maxRecDepth 100000 in
theorem tuple_any {F : Nat → Prop} {w : World} {l : List Tr} {v : Value} (hL : Letters w) (hF : ∀ g, w.heap.size ≤ g → F g) (hl : Kids F w v l) (hn : l.length ≤ 1048576) :
    Calls Tryz.prog 48 #[v] w (MadeSays F (madeS 5 l) w) := by
  obtain ⟨p, c, rfl⟩ := hl.slice
  have hnw : (w.alloc (.cells (cells5 zeroT (.slice none 0 0)) 25)).heap[w.heap.size]? = some (.cells (cells5 zeroT (.slice none 0 0)) 25 (0, 0)) := heap_new w _
  have hb1 := alloc_below w (.cells (cells5 zeroT (.slice none 0 0)) 25)
  have hz1 : w.heap.size < (w.alloc (.cells (cells5 zeroT (.slice none 0 0)) 25)).heap.size := by simp
  have cM := made_any (F := fun g => F g ∧ g ≠ w.heap.size) (k := 5) (hL.under hb1) (by decide) (fun g hg => ⟨hF g (by omega), by omega⟩) ((hl.mono (F' := fun g => F g ∧ g ≠ w.heap.size) fun g hg h => ⟨hg, by omega⟩).under hb1) hn
  generalize madeS 5 l = ms at cM ⊢
  have HF := Lib.hid hF
  have HZ := Lib.hid hz1
  clear hL hF hl hz1
  go_enter Tryz.func48, Tryz.ntmps48
  go_upto_region 1 with fail
  change Code.wp _ _ _ _ (w.alloc (.cells (cells5 zeroT (.slice none 0 0)) 25))
  generalize w.alloc (.cells (cells5 zeroT (.slice none 0 0)) 25) = w1 at hnw hb1 cM HZ ⊢
  go_wp2_with (first
    | (go_at_call 68; refine cM.mono ?_; rintro e w5 ⟨y, yv, er, rfl, hy5, hb5, hq⟩; obtain ⟨q5, c5, rfl⟩ := hy5.kids.slice; have hn5 := (hb5.block _ HZ.out).trans hnw; have HQ := Lib.hid hq; clear hq)
    | (refine wpList_store_row rfl 25 _ _ rfl w.heap.size (cells5 y (.slice q5 y.l.length c5)) (by kernel_rfl) (by kernel_rfl) 25 (cells5 zeroT (.slice none 0 0)) hn5 (size28 _ _) (by kernel_rfl) (by kernel_rfl) ?_))
  have hr9 := setRow_heap' (cells := cells5 y (.slice q5 y.l.length c5)) hn5
  have hB5 := hb1.trans (hb5.mono hb1.size)
  have hB9 := below_setRow (g := w.heap.size) (cells := cells5 y (.slice q5 y.l.length c5)) hB5 (Nat.le_refl _)
  have hy9 := hy5.move (P' := F) (w' := w5.setRow w.heap.size (cells5 y (.slice q5 y.l.length c5))) (fun g hg _ => setRow_ne hg.2) (fun g hg _ => hg.1)
  exact bodyPost_ret (v := .tuple #[.agg (cells5 y (.slice q5 y.l.length c5)), .int .i64 er]) (results_term Tryz.results48 _ _ _ _ _ rfl hr9) rfl ⟨y, _, er, rfl, hy9, hB9, HQ.out⟩
end Go.Proofs.YtgliogfggajfgaaGreatDoor
namespace Go.Proofs.YtgliogfggajfgaaGreatDoor
open Go.RowKit
end Go.Proofs.YtgliogfggajfgaaGreatDoor
namespace Go.Proofs.YtgliogfggajfgaaGreatDoor
open Go.RowKit
end Go.Proofs.YtgliogfggajfgaaGreatDoor
namespace Go.Proofs.YtgliogfggajfgaaGreatDoor
open Go.RowKit
theorem sz_min (x : Tr) (m : Int) (h : 1 ≤ m) : x.sz m = min m x.nn := by
  have h1 := sz_bound x m h
  by_cases hn : (x.nn : Int) ≤ m
  · have := sz_of x m hn; omega
  · by_cases hs : x.sz m < m
    · have := sz_nn x m h hs; omega
    · omega
theorem made_none {l : List Tr} : (∃ x ∈ l, chkT x = 30) → ∀ n, madeSum l n = none := by
  induction l with
  | nil => rintro ⟨x, hx, _⟩; simp at hx
  | cons x r ih =>
    rintro ⟨y, hy, h⟩ n
    rw [madeSum]
    by_cases hx : chkT x = 30
    · rw [if_pos hx]
    · rw [if_neg hx]
      rcases List.mem_cons.1 hy with rfl | hy
      · exact absurd h hx
      · exact ih ⟨y, hy, h⟩ _
theorem made_some {l : List Tr} : (∀ x ∈ l, chkT x ≠ 30) → ∀ n : Int, 0 ≤ n → ∃ m, madeSum l n = some m ∧ (256 < m ↔ 256 < n + Tr.nn.nnl l) := by
  induction l with
  | nil => exact fun _ n _ => ⟨n, rfl, by rw [Tr.nn.nnl]; omega⟩
  | cons x r ih =>
    intro h n hn
    rw [madeSum, if_neg (h x (by simp))]
    have hz := sz_min x 257 (by omega)
    obtain ⟨m, h1, h2⟩ := ih (fun y hy => h y (List.mem_cons_of_mem _ hy)) (n + x.sz 257) (by omega)
    refine ⟨m, h1, h2.trans ?_⟩
    rw [Tr.nn.nnl]
    omega
theorem madeS_ref (k : Int) (l : List Tr) : madeS k l = if (l.any fun x => chkT x == 30) = true then (zeroT, 30) else if 256 < (.mk k 0 ⟨#[]⟩ ⟨#[]⟩ l : Tr).sz 257 then (zeroT, 11) else ((.mk k 0 ⟨#[]⟩ ⟨#[]⟩ l : Tr), 0) := by
  unfold madeS
  cases h : (l.any fun x => chkT x == 30)
  · rw [if_neg (by simp)]
    have h1 : ∀ x ∈ l, chkT x ≠ 30 := fun x hx => by
      have := List.any_eq_false.1 h x hx
      simpa using this
    obtain ⟨m, h2, h3⟩ := made_some h1 1 (by omega)
    have hz := sz_min (.mk k 0 ⟨#[]⟩ ⟨#[]⟩ l : Tr) 257 (by omega)
    have hn : (.mk k 0 ⟨#[]⟩ ⟨#[]⟩ l : Tr).nn = Tr.nn.nnl l + 1 := nn_eq _
    have h4 : 256 < m ↔ 256 < (.mk k 0 ⟨#[]⟩ ⟨#[]⟩ l : Tr).sz 257 := h3.trans (by omega)
    rw [h2]
    show (if 256 < m then _ else _) = _
    by_cases h5 : 256 < m
    · rw [if_pos h5, if_pos (h4.1 h5)]
    · rw [if_neg h5, if_neg (fun h => h5 (h4.2 h))]
  · obtain ⟨x, hx, h1⟩ := List.any_eq_true.1 h
    rw [if_pos rfl, made_none ⟨x, hx, by simpa using h1⟩]
set_option maxHeartbeats 8000000 in
set_option maxRecDepth 100000 in
theorem rmade_any {F : Nat → Prop} {w : World} {l : List Tr} {v : Value} {k : Int} (hk : (Lit.int .i8 k).wf = true) (hF : ∀ g, w.heap.size ≤ g → F g) (hl : Kids F w v l) (hn : l.length ≤ 1048576) :
    Calls Tryz.prog 69 #[.int .i8 k, v] w (MadeSays F (madeS k l) w) := by
  obtain ⟨p, c, rfl⟩ := hl.slice
  have hnw : (w.alloc (.cells (cells5 zeroT (.slice none 0 0)) 25)).heap[w.heap.size]? = some (.cells (cells5 zeroT (.slice none 0 0)) 25 (0, 0)) := heap_new w _
  have hb1 := alloc_below w (.cells (cells5 zeroT (.slice none 0 0)) 25)
  have HK := Lib.hid ((hl.mono (F' := fun g => F g ∧ g < w.heap.size) fun g hg h => ⟨hg, h⟩).under hb1)
  have HF := Lib.hid hF
  have HW := Lib.hid hk
  have HM := Lib.hid (madeS_ref k l)
  clear hk hF hl
  generalize madeS k l = ms at HM ⊢
  go_enter Tryz.func69, Tryz.ntmps69
  go_upto_region 1 with fail
  change Code.wp _ _ _ _ (w.alloc (.cells (cells5 zeroT (.slice none 0 0)) 25))
  generalize w.alloc (.cells (cells5 zeroT (.slice none 0 0)) 25) = w1 at hnw hb1 HK ⊢
  have hz1 : w.heap.size < w1.heap.size := (Array.getElem?_eq_some_iff.1 hnw).1
  have HNW := Lib.hid hnw
  have HZ := Lib.hid hz1
  clear hnw hz1
  go_wp2
  go_loopw [6] (fun i wr => ∃ j : Nat, j ≤ l.length ∧ i = .int .i64 j ∧ (l.take j).any (fun x => chkT x == 30) = false ∧ Below w1.heap.size w1 wr) (fun i _ => l.length - (intOf i).toNat)
  case atStart => exact ⟨0, Nat.zero_le _, rfl, rfl, Below.refl _ _⟩
  case round =>
    obtain ⟨j, hj, rfl, hall, hbr⟩ := hrel
    have HA := Lib.hid hall
    have hB := hb1.trans (hbr.mono hb1.size)
    have hnr := (hbr.block _ HZ.out).trans HNW.out
    clear hall
    by_cases hlt : j < l.length
    · obtain ⟨g, o, xv, rfl, hFg, ⟨a0, a1, a2, a3, a4⟩, hkid⟩ := (HK.out.under hbr).at hlt
      obtain ⟨p3, c3, rfl⟩ := hkid.kids.slice
      have cC := rcheck_any hkid
      have HN6 := Lib.hid hnr
      clear hkid hnr
      cases h30 : (chkT l[j] == 30)
      · have HNX : Hid ((l.take (j + 1)).any (fun x => chkT x == 30) = false) := Lib.hid (any_take (P := fun x : Tr => chkT x == 30) hlt HA.out h30)
        generalize chkT l[j] = q at cC h30
        go_wp2_with (go_at_call 46; refine cC.mono ?_; rintro e w7 ⟨rfl, hb7⟩)
        go_roundw
        case rel => exact ⟨j + 1, hlt, by go_num, HNX.out, hbr.trans (hb7.mono hbr.size)⟩
        case measure => simp [intOf]; omega
      · have HE : Hid (ms = (zeroT, 30)) := by
          unfold Hid; rw [HM.out, if_pos]
          exact any_at (P := fun x : Tr => chkT x == 30) hlt h30
        generalize chkT l[j] = q at cC h30
        go_upto_region 5 with (go_at_call 46; refine cC.mono ?_; rintro e w7 ⟨rfl, hb7⟩)
        have hn7 := (hb7.block _ (Array.getElem?_eq_some_iff.1 HN6.out).1).trans HN6.out
        have hr8 := setRow_heap' (cells := cells5 zeroT (.slice none 0 0)) hn7
        have hB7 : Below w.heap.size w w7 := hB.trans (hb7.mono hB.size)
        have hB8 := below_setRow (g := w.heap.size) (cells := cells5 zeroT (.slice none 0 0)) hB7 (Nat.le_refl _)
        clear cC a0 a1 a2 a3 a4
        go_wp2_with (refine wpList_store_row rfl 25 _ _ rfl w.heap.size (cells5 zeroT (.slice none 0 0)) (by kernel_rfl) (by kernel_rfl) 25 (cells5 zeroT (.slice none 0 0)) hn7 (size28 _ _) (by kernel_rfl) (by kernel_rfl) ?_)
        exact bodyPost_ret (v := .tuple #[.agg (cells5 zeroT (.slice none 0 0)), .int .i64 30]) (results_term Tryz.results69 _ _ _ _ _ rfl hr8) rfl ⟨zeroT, _, 30, rfl, zero_trv _ _, hB8, HE.out.symm⟩
    · have hno : (l.any fun x => chkT x == 30) = false := by have := HA.out; rwa [List.take_of_length_le (by omega)] at this
      have HM2 : Hid (ms = if 256 < (.mk k 0 ⟨#[]⟩ ⟨#[]⟩ l : Tr).sz 257 then (zeroT, 11) else ((.mk k 0 ⟨#[]⟩ ⟨#[]⟩ l : Tr), 0)) := by unfold Hid; rw [HM.out, hno, if_neg (by simp)]
      clear hno
      go_upto_region 7 with fail
      change Code.wp _ _ _ _ (wr.alloc (.cells #[.int .i8 k, .int .i64 0, .string ⟨#[]⟩, .string ⟨#[]⟩, .slice none 0 0] 25))
      have hnk := heap_new wr (.cells #[.int .i8 k, .int .i64 0, .string ⟨#[]⟩, .string ⟨#[]⟩, .slice none 0 0] 25)
      have hbk := alloc_below wr (.cells #[.int .i8 k, .int .i64 0, .string ⟨#[]⟩, .string ⟨#[]⟩, .slice none 0 0] 25)
      have hsz : wr.heap.size < (wr.alloc (.cells #[.int .i8 k, .int .i64 0, .string ⟨#[]⟩, .string ⟨#[]⟩, .slice none 0 0] 25)).heap.size := (Array.getElem?_eq_some_iff.1 hnk).1
      have hsrc := (HK.out.under hbr).under hbk
      have hwr : w.heap.size < wr.heap.size := by have := HZ.out; have := hbr.size; omega
      have hn7 := (hbk.block _ hwr).trans hnr
      have hB7 := hB.trans (hbk.mono hB.size)
      generalize wr.alloc (.cells #[.int .i8 k, .int .i64 0, .string ⟨#[]⟩, .string ⟨#[]⟩, .slice none 0 0] 25) = w7 at hnk hsz hsrc hn7 hB7 ⊢
      obtain ⟨b, hbb⟩ : ∃ b, wr.heap.size = b := ⟨_, rfl⟩
      rw [hbb] at hnk hsz hwr ⊢
      clear hbb hbk hnr
      have k4 : w7.cell? ⟨b, 4, none⟩ = some (.slice none 0 0) := (arr_cell hnk).trans rfl
      have HNK := Lib.hid hnk
      have HN7 := Lib.hid hn7
      clear hnk hn7
      go_upto_region 8 with (at_builtin; refine wpList_append_nil_terms rfl (.tmp 24) (.tmp 25) rfl (fun g => F g ∧ g ≠ w.heap.size ∧ g ≠ b) rfl p l.length c l rfl hsrc hn (fun g hg => ⟨hg.1, by omega, by omega⟩) (fun g hg => ⟨HF.out g (by omega), by omega, by omega⟩) ?_; intro v8 w8 hk8 hb8; obtain ⟨q8, c8, rfl⟩ := hk8.slice; have hn8 := (hb8.block _ hsz).trans HNK.out; have m4 : w8.cell? ⟨b, 4, none⟩ = some (.slice none 0 0) := (arr_cell hn8).trans rfl; have f4 : w8.frozen? ⟨b, 4, none⟩ = false := arr_free hn8; have HK8 := Lib.hid hk8; have HN8 := Lib.hid hn8; clear hk8 hn8)
      have hB8 := hB7.trans (hb8.mono hB7.size)
      have hn9 : (w8.setCell ⟨b, 4, none⟩ (.slice q8 l.length c8)).heap[b]? = some (.cells (cells5 (.mk k 0 ⟨#[]⟩ ⟨#[]⟩ l : Tr) (.slice q8 l.length c8)) 25 (0, 0)) := (arr_set (i := 4) (u := .slice q8 l.length c8) HN8.out).trans rfl
      have hB9 : Below w.heap.size w (w8.setCell ⟨b, 4, none⟩ (.slice q8 l.length c8)) := hB8.setCell (p := ⟨b, 4, none⟩) (Nat.le_of_lt hwr) _
      have hk9 : Kids (fun g => F g ∧ g ≠ w.heap.size) (w8.setCell ⟨b, 4, none⟩ (.slice q8 l.length c8)) (.slice q8 l.length c8) l := (HK8.out.keep (w' := w8.setCell ⟨b, 4, none⟩ (.slice q8 l.length c8)) fun g hg _ => Below.heap_setCell _ _ _ _ hg.2.2).mono fun g hg _ => ⟨hg.1, hg.2.1⟩
      have hy9 : TrV (fun g => F g ∧ g ≠ w.heap.size) (w8.setCell ⟨b, 4, none⟩ (.slice q8 l.length c8)) (.mk k 0 ⟨#[]⟩ ⟨#[]⟩ l : Tr) (.slice q8 l.length c8) := ⟨⟨HW.out, (by show (Lit.int .i64 0).wf = true; decide), Nat.zero_le _, Nat.zero_le _⟩, hk9⟩
      have hn69 : (w8.setCell ⟨b, 4, none⟩ (.slice q8 l.length c8)).heap[w.heap.size]? = some (.cells (cells5 zeroT (.slice none 0 0)) 25 (0, 0)) := (Below.heap_setCell _ _ _ _ (by show w.heap.size ≠ b; omega)).trans ((hb8.block _ (Array.getElem?_eq_some_iff.1 HN7.out).1).trans HN7.out)
      clear m4 f4 k4
      generalize w8.setCell ⟨b, 4, none⟩ (.slice q8 l.length c8) = w9 at hn9 hB9 hy9 hn69 hk9 ⊢
      have cZ := rsize_any hy9
      have d0 : w9.cell? ⟨b, 0, none⟩ = some (.int .i8 k) := (arr_cell hn9).trans rfl
      have d1 : w9.cell? ⟨b, 1, none⟩ = some (.int .i64 0) := (arr_cell hn9).trans rfl
      have d2 : w9.cell? ⟨b, 2, none⟩ = some (.string ⟨#[]⟩) := (arr_cell hn9).trans rfl
      have d3 : w9.cell? ⟨b, 3, none⟩ = some (.string ⟨#[]⟩) := (arr_cell hn9).trans rfl
      have d4 : w9.cell? ⟨b, 4, none⟩ = some (.slice q8 l.length c8) := (arr_cell hn9).trans rfl
      have HN9 := Lib.hid hn9
      have HY9 := Lib.hid hy9
      have HN69 := Lib.hid hn69
      obtain ⟨z, hz⟩ : ∃ z, (.mk k 0 ⟨#[]⟩ ⟨#[]⟩ l : Tr).sz 257 = z := ⟨_, rfl⟩
      rw [hz] at cZ HM2
      clear hz hn9 hy9 hn69 hk9
      by_cases hbig : 256 < z
      · have HE : Hid (ms = (zeroT, 11)) := by unfold Hid; rw [HM2.out, if_pos hbig]
        go_upto_region 9 with (go_at_call 94; refine cZ.mono ?_; rintro e w10 ⟨rfl, hb10⟩)
        have hn10 := (hb10.block _ (Array.getElem?_eq_some_iff.1 HN69.out).1).trans HN69.out
        have hr11 := setRow_heap' (cells := cells5 zeroT (.slice none 0 0)) hn10
        have hB10 := hB9.trans (hb10.mono hB9.size)
        have hB11 := below_setRow (g := w.heap.size) (cells := cells5 zeroT (.slice none 0 0)) hB10 (Nat.le_refl _)
        clear cZ d0 d1 d2 d3 d4
        go_wp2_with (refine wpList_store_row rfl 25 _ _ rfl w.heap.size (cells5 zeroT (.slice none 0 0)) (by kernel_rfl) (by kernel_rfl) 25 (cells5 zeroT (.slice none 0 0)) hn10 (size28 _ _) (by kernel_rfl) (by kernel_rfl) ?_)
        exact bodyPost_ret (v := .tuple #[.agg (cells5 zeroT (.slice none 0 0)), .int .i64 11]) (results_term Tryz.results69 _ _ _ _ _ rfl hr11) rfl ⟨zeroT, _, 11, rfl, zero_trv _ _, hB11, HE.out.symm⟩
      · have HE : Hid (ms = ((.mk k 0 ⟨#[]⟩ ⟨#[]⟩ l : Tr), 0)) := by unfold Hid; rw [HM2.out, if_neg hbig]
        go_upto_region 10 with (go_at_call 94; refine cZ.mono ?_; rintro e w10 ⟨rfl, hb10⟩)
        have hn10 := (hb10.block _ (Array.getElem?_eq_some_iff.1 HN69.out).1).trans HN69.out
        have hb9 := (hb10.block _ (Array.getElem?_eq_some_iff.1 HN9.out).1).trans HN9.out
        have e0 : w10.cell? ⟨b, 0, none⟩ = some (.int .i8 k) := (arr_cell hb9).trans rfl
        have e1 : w10.cell? ⟨b, 1, none⟩ = some (.int .i64 0) := (arr_cell hb9).trans rfl
        have e2 : w10.cell? ⟨b, 2, none⟩ = some (.string ⟨#[]⟩) := (arr_cell hb9).trans rfl
        have e3 : w10.cell? ⟨b, 3, none⟩ = some (.string ⟨#[]⟩) := (arr_cell hb9).trans rfl
        have e4 : w10.cell? ⟨b, 4, none⟩ = some (.slice q8 l.length c8) := (arr_cell hb9).trans rfl
        have hr11 := setRow_heap' (cells := cells5 (.mk k 0 ⟨#[]⟩ ⟨#[]⟩ l : Tr) (.slice q8 l.length c8)) hn10
        have hB10 := hB9.trans (hb10.mono hB9.size)
        have hB11 := below_setRow (g := w.heap.size) (cells := cells5 (.mk k 0 ⟨#[]⟩ ⟨#[]⟩ l : Tr) (.slice q8 l.length c8)) hB10 (Nat.le_refl _)
        have hy11 := (HY9.out.below hb10).move (P' := F) (w' := w10.setRow w.heap.size (cells5 (.mk k 0 ⟨#[]⟩ ⟨#[]⟩ l : Tr) (.slice q8 l.length c8))) (fun g hg _ => setRow_ne hg.2) (fun g hg _ => hg.1)
        clear cZ d0 d1 d2 d3 d4 hb9
        go_wp2_with (refine wpList_store_row rfl 25 _ _ rfl w.heap.size (cells5 (.mk k 0 ⟨#[]⟩ ⟨#[]⟩ l : Tr) (.slice q8 l.length c8)) (by kernel_rfl) (by kernel_rfl) 25 (cells5 zeroT (.slice none 0 0)) hn10 (size28 _ _) (by kernel_rfl) (by kernel_rfl) ?_)
        exact bodyPost_ret (v := .tuple #[.agg (cells5 (.mk k 0 ⟨#[]⟩ ⟨#[]⟩ l : Tr) (.slice q8 l.length c8)), .int .i64 0]) (results_term Tryz.results69 _ _ _ _ _ rfl hr11) rfl ⟨(.mk k 0 ⟨#[]⟩ ⟨#[]⟩ l : Tr), _, 0, rfl, hy11, hB11, HE.out.symm⟩
set_option maxHeartbeats 4000000 in
set_option maxRecDepth 100000 in
theorem rtuple_any {F : Nat → Prop} {w : World} {l : List Tr} {v : Value} (hF : ∀ g, w.heap.size ≤ g → F g) (hl : Kids F w v l) (hn : l.length ≤ 1048576) :
    Calls Tryz.prog 49 #[v] w (MadeSays F (madeS 5 l) w) := by
  obtain ⟨p, c, rfl⟩ := hl.slice
  have hnw : (w.alloc (.cells (cells5 zeroT (.slice none 0 0)) 25)).heap[w.heap.size]? = some (.cells (cells5 zeroT (.slice none 0 0)) 25 (0, 0)) := heap_new w _
  have hb1 := alloc_below w (.cells (cells5 zeroT (.slice none 0 0)) 25)
  have hz1 : w.heap.size < (w.alloc (.cells (cells5 zeroT (.slice none 0 0)) 25)).heap.size := by simp
  have cM := rmade_any (F := fun g => F g ∧ g ≠ w.heap.size) (k := 5) (by decide) (fun g hg => ⟨hF g (by omega), by omega⟩) ((hl.mono (F' := fun g => F g ∧ g ≠ w.heap.size) fun g hg h => ⟨hg, by omega⟩).under hb1) hn
  generalize madeS 5 l = ms at cM ⊢
  have HF := Lib.hid hF
  have HZ := Lib.hid hz1
  clear hF hl hz1
  go_enter Tryz.func49, Tryz.ntmps49
  go_upto_region 1 with fail
  change Code.wp _ _ _ _ (w.alloc (.cells (cells5 zeroT (.slice none 0 0)) 25))
  generalize w.alloc (.cells (cells5 zeroT (.slice none 0 0)) 25) = w1 at hnw hb1 cM HZ ⊢
  go_wp2_with (first
    | (go_at_call 69; refine cM.mono ?_; rintro e w5 ⟨y, yv, er, rfl, hy5, hb5, hq⟩; obtain ⟨q5, c5, rfl⟩ := hy5.kids.slice; have hn5 := (hb5.block _ HZ.out).trans hnw; have HQ := Lib.hid hq; clear hq)
    | (refine wpList_store_row rfl 25 _ _ rfl w.heap.size (cells5 y (.slice q5 y.l.length c5)) (by kernel_rfl) (by kernel_rfl) 25 (cells5 zeroT (.slice none 0 0)) hn5 (size28 _ _) (by kernel_rfl) (by kernel_rfl) ?_))
  have hr9 := setRow_heap' (cells := cells5 y (.slice q5 y.l.length c5)) hn5
  have hB5 := hb1.trans (hb5.mono hb1.size)
  have hB9 := below_setRow (g := w.heap.size) (cells := cells5 y (.slice q5 y.l.length c5)) hB5 (Nat.le_refl _)
  have hy9 := hy5.move (P' := F) (w' := w5.setRow w.heap.size (cells5 y (.slice q5 y.l.length c5))) (fun g hg _ => setRow_ne hg.2) (fun g hg _ => hg.1)
  exact bodyPost_ret (v := .tuple #[.agg (cells5 y (.slice q5 y.l.length c5)), .int .i64 er]) (results_term Tryz.results49 _ _ _ _ _ rfl hr9) rfl ⟨y, _, er, rfl, hy9, hB9, HQ.out⟩
end Go.Proofs.YtgliogfggajfgaaGreatDoor
namespace Go.Proofs.YtgliogfggajfgaaGreatDoor
open Go.RowKit
def row10 (Y : List (Tr × Value)) : Array Value := (Y.flatMap tcells ++ (List.replicate (2 - Y.length) (tcells (zeroT, .slice none 0 0))).flatten).toArray
theorem there_of {w : World} {b o n : Nat} {A : Array Value} {t : TypeId} (h : w.heap[b]? = some (.cells A t (0, 0))) (hn : o + n ≤ A.size) : w.there b o n := fun j hj => ⟨by rw [arr_cell h]; simp; omega, arr_free h⟩
theorem below_setCells {B b : Nat} (hB : B ≤ b) : ∀ (vs : List Value) (o : Nat) {a w : World}, Below B a w → Below B a (w.setCells b o vs)
  | [], _, _, _, h => h
  | v :: r, o, _, _, h => below_setCells hB r (o + 1) (h.setCell (p := ⟨b, o, none⟩) hB v)
theorem setCells_ne {b i : Nat} (h : i ≠ b) : ∀ (vs : List Value) (o : Nat) (w : World), (w.setCells b o vs).heap[i]? = w.heap[i]?
  | [], _, _ => rfl
  | _ :: r, o, _ => (setCells_ne h r (o + 1) _).trans (Below.heap_setCell _ _ _ _ (show i ≠ (⟨b, o, none⟩ : Addr).block from h))
theorem set10_0 {w : World} {b : Nat} {t : TypeId} {y : Tr} {yv : Value} (h : w.heap[b]? = some (.cells (row10 []) t (0, 0))) : (w.setCells b 0 (cells5 y yv).toList).heap[b]? = some (.cells (row10 [(y, yv)]) t (0, 0)) :=
  (arr_set (i := 4) (arr_set (i := 3) (arr_set (i := 2) (arr_set (i := 1) (arr_set (i := 0) h))))).trans rfl
theorem set10_1 {w : World} {b : Nat} {t : TypeId} {q : Tr × Value} {y : Tr} {yv : Value} (h : w.heap[b]? = some (.cells (row10 [q]) t (0, 0))) : (w.setCells b 5 (cells5 y yv).toList).heap[b]? = some (.cells (row10 [q, (y, yv)]) t (0, 0)) :=
  (arr_set (i := 9) (arr_set (i := 8) (arr_set (i := 7) (arr_set (i := 6) (arr_set (i := 5) h))))).trans rfl
theorem there10_0 {w : World} {b : Nat} {t : TypeId} (h : w.heap[b]? = some (.cells (row10 []) t (0, 0))) (y : Tr) (yv : Value) : w.there b 0 (cells5 y yv).size := there_of h (by show 0 + 5 ≤ 10; decide)
theorem there10_1 {w : World} {b : Nat} {t : TypeId} {q : Tr × Value} (h : w.heap[b]? = some (.cells (row10 [q]) t (0, 0))) (y : Tr) (yv : Value) : w.there b 5 (cells5 y yv).size := there_of h (by show 5 + 5 ≤ 10; decide)
end Go.Proofs.YtgliogfggajfgaaGreatDoor
