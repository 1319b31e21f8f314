/-
  Joined texts of this seat's trees, and of them only what is used. Conditions: as each theorem says.
-/
import Derived.Test.YtkieoghkjjkapaaGreatDoorRows
import Derived.WalkKit
import Derived.WalkSpells
import Derived.WalkLawsBesides
import Derived.WalkSmall
import Derived.Deep.QuietTactic
import Derived.BigQuiet
import Derived.Lib.Hide
import Derived.Deep.DeepFit
import Derived.Deep.DeepCutAuto
import Derived.Deep.LoopGhost
import Derived.StillTailTactics
import Derived.Deep.RegionWith
import Derived.Deep.RegionHeld3
import Derived.Deep.RegionLaw
import Derived.Laws.EntriesVeiled
import Derived.OneCell
import Derived.Laws.RangeAny
import Derived.Laws.Tables
import Derived.Laws.Rows
import Derived.Laws.ResultCell
import Derived.ArgAppend
import Derived.Deep.RegionLawGrows
import Derived.WalkMore
import Derived.Laws.AppendOwnNone
import Derived.ProofKit
import Derived.LaidMore
import Derived.OpenShut
import Derived.ChangeSame
import Derived.SizedLaws
import Derived.Lib.SmallJoins
import Derived.Deep.Slices
import Derived.Stop.Joined
import Derived.BigRegion
import Derived.Deep.MidRow
namespace Go.Proofs.YtkieoghkjjkapaaGreatDoor
open Go.RowKit
inductive Tr where
  | mk (k n : Int) (s t : ByteArray) (l : List Tr) : Tr
def Tr.k : Tr → Int | .mk k _ _ _ _ => k
def Tr.n : Tr → Int | .mk _ n _ _ _ => n
def Tr.s : Tr → ByteArray | .mk _ _ s _ _ => s
def Tr.t : Tr → ByteArray | .mk _ _ _ t _ => t
def Tr.l : Tr → List Tr | .mk _ _ _ _ l => l
def BL : Nat := 2199023255552
structure NodeWf (x : Tr) : Prop where
  k : (Lit.int .i8 x.k).wf = true
  n : (Lit.int .i64 x.n).wf = true
  s : x.s.size ≤ BL * 64
  t : x.t.size ≤ BL * 64
structure NodeAt (w : World) (g o : Nat) (x : Tr) (sv : Value) : Prop where
  k : w.cell? ⟨g, o, none⟩ = some (.int .i8 x.k)
  n : w.cell? ⟨g, o + 1, none⟩ = some (.int .i64 x.n)
  s : w.cell? ⟨g, o + 2, none⟩ = some (.string x.s)
  t : w.cell? ⟨g, o + 3, none⟩ = some (.string x.t)
  l : w.cell? ⟨g, o + 4, none⟩ = some sv
inductive Kids (F : Nat → Prop) (w : World) : Value → List Tr → Prop
  | mk (p : Option Addr) (c : Nat) (l : List Tr) (sv : Nat → Value) (hc : l.length ≤ c) (hb : l.length ≤ BL) (hwf : ∀ i (h : i < l.length), NodeWf l[i])
      (hcells : ∀ i (h : i < l.length), ∃ g o, p = some ⟨g, o, none⟩ ∧ F g ∧ NodeAt w g (o + i * 5) l[i] (sv i))
      (hk : ∀ i (h : i < l.length), Kids F w (sv i) l[i].l) : Kids F w (.slice p l.length c) l
theorem cell_block {w : World} {g o : Nat} {v : Value} (h : w.cell? ⟨g, o, none⟩ = some v) : g < w.heap.size := by
  unfold World.cell? at h
  cases hg : w.heap[g]? with
  | none => simp [hg] at h
  | some ob => exact (Array.getElem?_eq_some_iff.1 hg).1
theorem NodeAt.lt {w : World} {g o : Nat} {x : Tr} {sv : Value} (h : NodeAt w g o x sv) : g < w.heap.size := cell_block h.k
theorem NodeAt.keep {w w' : World} {g o : Nat} {x : Tr} {sv : Value} (h : NodeAt w g o x sv) (hb : w'.heap[g]? = w.heap[g]?) : NodeAt w' g o x sv :=
  ⟨(World.cell?_of_block (a := ⟨g, o, none⟩) hb).trans h.k, (World.cell?_of_block (a := ⟨g, o + 1, none⟩) hb).trans h.n, (World.cell?_of_block (a := ⟨g, o + 2, none⟩) hb).trans h.s, (World.cell?_of_block (a := ⟨g, o + 3, none⟩) hb).trans h.t, (World.cell?_of_block (a := ⟨g, o + 4, none⟩) hb).trans h.l⟩
theorem Kids.keep {F : Nat → Prop} {w w' : World} {v : Value} {l : List Tr} (h : Kids F w v l) (hb : ∀ g, F g → g < w.heap.size → w'.heap[g]? = w.heap[g]?) : Kids F w' v l := by
  induction h with
  | mk p c l sv hc hbl hwf hcells hk ih =>
    exact .mk p c l sv hc hbl hwf (fun i hi => by
      obtain ⟨g, o, hp, hF, hn⟩ := hcells i hi
      exact ⟨g, o, hp, hF, hn.keep (hb g hF hn.lt)⟩) ih
theorem Kids.under {F : Nat → Prop} {w w' : World} {v : Value} {l : List Tr} (h : Kids F w v l) (hb : Below w.heap.size w w') : Kids F w' v l := h.keep fun g _ hg => hb.block g hg
theorem Kids.mono {F F' : Nat → Prop} {w : World} {v : Value} {l : List Tr} (h : Kids F w v l) (hF : ∀ g, F g → g < w.heap.size → F' g) : Kids F' w v l := by
  induction h with
  | mk p c l sv hc hbl hwf hcells hk ih =>
    exact .mk p c l sv hc hbl hwf (fun i hi => by
      obtain ⟨g, o, hp, hF', hn⟩ := hcells i hi
      exact ⟨g, o, hp, hF g hF' hn.lt, hn⟩) ih
theorem Kids.nil (F : Nat → Prop) (w : World) : Kids F w (.slice none 0 0) [] :=
  .mk none 0 [] (fun _ => .slice none 0 0) (Nat.le_refl _) (Nat.zero_le _) (fun i hi => absurd hi (by simp)) (fun i hi => absurd hi (by simp)) (fun i hi => absurd hi (by simp))
theorem Kids.open_ {F : Nat → Prop} {w : World} {v : Value} {l : List Tr} (h : Kids F w v l) : ∃ p c, v = .slice p l.length c ∧ l.length ≤ c ∧ l.length ≤ BL ∧
    ∀ i (h : i < l.length), ∃ g o sv, p = some ⟨g, o, none⟩ ∧ F g ∧ NodeAt w g (o + i * 5) l[i] sv ∧ NodeWf l[i] ∧ Kids F w sv l[i].l := by
  cases h with
  | mk p c l sv hc hbl hwf hcells hk =>
    refine ⟨p, c, rfl, hc, hbl, fun i hi => ?_⟩
    obtain ⟨g, o, hp, hF, hn⟩ := hcells i hi
    exact ⟨g, o, sv i, hp, hF, hn, hwf i hi, hk i hi⟩
theorem Kids.slice {F : Nat → Prop} {w : World} {v : Value} {l : List Tr} (h : Kids F w v l) : ∃ p c, v = .slice p l.length c := by
  obtain ⟨p, c, rfl, _⟩ := h.open_
  exact ⟨p, c, rfl⟩
theorem Kids.len {F : Nat → Prop} {w : World} {v : Value} {l : List Tr} (h : Kids F w v l) : l.length ≤ BL := by
  obtain ⟨p, c, rfl, _, h, _⟩ := h.open_
  exact h
structure TrV (F : Nat → Prop) (w : World) (x : Tr) (sv : Value) : Prop where
  wf : NodeWf x
  kids : Kids F w sv x.l
theorem Kids.at {F : Nat → Prop} {w : World} {p : Option Addr} {n c : Nat} {l : List Tr} (h : Kids F w (.slice p n c) l) {i : Nat} (hi : i < l.length) : ∃ g o sv, p = some ⟨g, o, none⟩ ∧ F g ∧ NodeAt w g (o + i * 5) l[i] sv ∧ TrV F w l[i] sv := by
  obtain ⟨p', c', he, _, _, hx⟩ := h.open_
  cases he
  obtain ⟨g, o, sv, h1, h2, h3, h4, h5⟩ := hx i hi
  exact ⟨g, o, sv, h1, h2, h3, h4, h5⟩
theorem TrV.below {F : Nat → Prop} {w w' : World} {x : Tr} {sv : Value} (h : TrV F w x sv) (hb : Below w.heap.size w w') : TrV F w' x sv := ⟨h.wf, h.kids.under hb⟩
def Tr.h : Tr → Nat
  | .mk _ _ _ _ l => hl l + 1
where hl : List Tr → Nat
  | [] => 0
  | x :: r => max x.h (hl r)
theorem Tr.h_mem {x : Tr} : ∀ {l : List Tr}, x ∈ l → x.h ≤ Tr.h.hl l
  | y :: r, hx => by
    rcases List.mem_cons.1 hx with rfl | hx
    · simp only [Tr.h.hl]; omega
    · have := Tr.h_mem hx; simp only [Tr.h.hl]; omega
theorem Tr.h_kid {x y : Tr} (h : y ∈ x.l) : y.h < x.h := by
  cases x with
  | mk k n s t l =>
    have := Tr.h_mem (show y ∈ l from h)
    show _ < Tr.h.hl l + 1
    omega
theorem Tr.ind {P : Tr → Prop} (h : ∀ x, (∀ y ∈ x.l, P y) → P x) : ∀ x, P x := by
  have : ∀ n (x : Tr), x.h < n → P x := by
    intro n
    induction n with
    | zero => exact fun x hx => absurd hx (Nat.not_lt_zero _)
    | succ n ih => exact fun x hx => h x fun y hy => ih y (by have := Tr.h_kid hy; omega)
  exact fun x => this (x.h + 1) x (Nat.lt_succ_self _)
def Tr.sz : Tr → Int → Int
  | .mk _ _ _ _ l, m => szl l m 1
where szl : List Tr → Int → Int → Int
  | [], _, n => n
  | x :: r, m, n => if n < m then szl r m (n + x.sz (m - n)) else n
theorem szl_stop (l : List Tr) {m n : Int} (h : m ≤ n) : Tr.sz.szl l m n = n := by
  cases l with
  | nil => rfl
  | cons x r => rw [Tr.sz.szl, if_neg (by omega)]
theorem sz_bound (x : Tr) : ∀ m : Int, 1 ≤ m → 1 ≤ x.sz m ∧ x.sz m ≤ m := by
  induction x using Tr.ind with
  | h x ih =>
    intro m hm
    cases x with
    | mk k n s t l =>
      have key : ∀ (r : List Tr), (∀ y ∈ r, y ∈ l) → ∀ a : Int, 1 ≤ a → a ≤ m → a ≤ Tr.sz.szl r m a ∧ Tr.sz.szl r m a ≤ m := by
        intro r
        induction r with
        | nil => exact fun _ a _ h => ⟨Int.le_refl _, h⟩
        | cons y r ihr =>
          intro hr a h1 h2
          rw [Tr.sz.szl]
          split
          · have h3 := ih y (hr y (by simp)) (m - a) (by omega)
            have h4 := ihr (fun z hz => hr z (List.mem_cons_of_mem _ hz)) (a + y.sz (m - a)) (by omega) (by omega)
            omega
          · omega
      exact key l (fun _ h => h) 1 (Int.le_refl _) hm
end Go.Proofs.YtkieoghkjjkapaaGreatDoor
namespace Go.Proofs.YtkieoghkjjkapaaGreatDoor
open Go.RowKit
theorem szl_take {l : List Tr} {k : Nat} {m a : Int} (hk : k < l.length) (ha : a < m) : Tr.sz.szl (l.drop k) m a = Tr.sz.szl (l.drop (k + 1)) m (a + l[k].sz (m - a)) := by
  rw [List.drop_eq_getElem_cons hk, Tr.sz.szl, if_pos ha]
theorem node_box (w : World) (T : TypeId) (k n : Int) (s t : ByteArray) (sv : Value) :
    Below w.heap.size w (w.alloc (.cells #[.int .i8 k, .int .i64 n, .string s, .string t, sv] T)) ∧ (w.alloc (.cells #[.int .i8 k, .int .i64 n, .string s, .string t, sv] T)).heap.size = w.heap.size + 1 ∧
      NodeAt (w.alloc (.cells #[.int .i8 k, .int .i64 n, .string s, .string t, sv] T)) w.heap.size 0 (.mk k n s t []) sv := by
  refine ⟨(Below.refl _ _).alloc (Nat.le_refl _) _, by simp, ?_, ?_, ?_, ?_, ?_⟩ <;> (rw [World.cell?_alloc_at _ _ _ _ (by simp)]; rfl)
def SzRel (x : Tr) (m : Int) (w1 : World) (n i : Value) (wr : World) : Prop :=
  ∃ k : Nat, k ≤ x.l.length ∧ i = .int .i64 k ∧ ∃ a : Int, n = .int .i64 a ∧ 1 ≤ a ∧ a ≤ m ∧ Tr.sz.szl (x.l.drop k) m a = x.sz m ∧ Below w1.heap.size w1 wr
set_option maxHeartbeats 1000000 in
set_option maxRecDepth 100000 in
theorem size_any {F : Nat → Prop} (x : Tr) : ∀ (w : World) (sv : Value) (m : Int), TrV F w x sv → 1 ≤ m → m ≤ 1099511627776 →
    Calls Tryz.prog 22 #[.agg #[.int .i8 x.k, .int .i64 x.n, .string x.s, .string x.t, sv], .int .i64 m] w fun e w' => e = .returned (.int .i64 (x.sz m)) ∧ Below w.heap.size w w' := by
  induction x using Tr.ind with
  | h x ih =>
    intro w sv m hx hm hm2
    obtain ⟨p, c, rfl⟩ := hx.kids.slice
    obtain ⟨hb1, hz1, hn1⟩ := node_box w 27 x.k x.n x.s x.t (.slice p x.l.length c)
    have hx1 := hx.below hb1
    have hlen := hx.kids.len
    have hlen' : x.l.length ≤ 2199023255552 := hlen
    have h4 := hn1.l
    have hrel0 : x.sz m = Tr.sz.szl x.l m 1 := by cases x; rfl
    have IH := Lib.hid ih
    have HR := Lib.hid hrel0
    clear hn1 ih hrel0 hx hlen
    go_enter Tryz.func22, Tryz.ntmps22
    go_wp2
    generalize w.alloc (.cells #[.int .i8 x.k, .int .i64 x.n, .string x.s, .string x.t, .slice p x.l.length c] 27) = w1 at hb1 hz1 h4 hx1 ⊢
    go_loopw [5, 6] (fun n i wr => SzRel x m w1 n i wr) (fun _ i _ => x.l.length - (intOf i).toNat)
    case atStart => exact ⟨0, Nat.zero_le _, rfl, 1, rfl, Int.le_refl _, hm, HR.out.symm, Below.refl _ _⟩
    case round =>
      obtain ⟨k, hk, rfl, a, rfl, ha1, ha2, hrest, hbr⟩ := hrel
      have hxr := hx1.below hbr
      have hbw := hb1.trans (hbr.mono (by omega))
      have h4r := (hbr.cell (p := ⟨w.heap.size, 0 + 4, none⟩) (by show w.heap.size < _; omega)).trans h4
      simp only [Nat.zero_add] at h4r
      by_cases hlt : k < x.l.length
      · by_cases ham : a < m
        · obtain ⟨g, o, kv, rfl, hg, hnode, hkid⟩ := hxr.kids.at hlt
          have cK := fun W hb => IH.out x.l[k] (List.getElem_mem hlt) W kv (m - a) (hkid.below (w' := W) hb) (by omega) (by omega)
          have hszk := sz_bound x.l[k] (m - a) (by omega)
          have hnext := szl_take hlt ham
          obtain ⟨e0, e1, e2, e3, e4⟩ := hnode
          generalize x.l[k] = y at *
          have HN := Lib.hid (hnext.symm.trans hrest)
          clear hnext hrest hkid hxr h4 hx1
          go_wp2_with (go_at_call 22; refine (cK _ (Below.refl _ _)).mono ?_; rintro e w2 ⟨rfl, hb2⟩)
          go_roundw
          case rel => exact ⟨k + 1, hlt, by go_num, _, rfl, by omega, by omega, HN.out, hbr.trans (hb2.mono hbr.size)⟩
          case measure => simp [intOf]; omega
        · rw [szl_stop _ (by omega)] at hrest
          subst hrest
          clear h4 hx1 hxr
          go_wp2
          go_ret
          exact ⟨rfl, hbw⟩
      · rw [List.drop_eq_nil_of_le (by omega), Tr.sz.szl] at hrest
        subst hrest
        clear h4 hx1 hxr
        by_cases ham : x.sz m < m
        all_goals
          go_wp2
          go_ret
          exact ⟨rfl, hbw⟩
end Go.Proofs.YtkieoghkjjkapaaGreatDoor
namespace Go.Proofs.YtkieoghkjjkapaaGreatDoor
open Go.RowKit
theorem alloc_below (w : World) (o : Obj) : Below w.heap.size w (w.alloc o) := (Below.refl _ _).alloc (Nat.le_refl _) _
set_option maxHeartbeats 400000 in
theorem greatT_any {F : Nat → Prop} {x : Tr} {w : World} {sv : Value} (hx : TrV F w x sv) :
    Calls Tryz.prog 13 #[.agg #[.int .i8 x.k, .int .i64 x.n, .string x.s, .string x.t, sv]] w fun e w' => e = .returned (.bool (decide (1024 ≤ x.sz 1024))) ∧ Below w.heap.size w w' := by
  obtain ⟨p, c, rfl⟩ := hx.kids.slice
  have cK := fun W hb => size_any x W _ 1024 (hx.below (w' := W) hb) (by omega) (by omega)
  clear hx
  go_enter Tryz.func13, Tryz.ntmps13
  go_wp2_with (go_at_call 22; refine (cK _ (alloc_below _ _)).mono ?_; rintro e w2 ⟨rfl, hb2⟩)
  go_ret
  exact ⟨rfl, (alloc_below _ _).trans (hb2.mono (by simp))⟩
def gall : List Tr → Int → Int
  | [], n => n
  | x :: r, n => if n < 4000 then gall r (n + x.sz 4000) else n
theorem gall_stop (l : List Tr) {n : Int} (h : 4000 ≤ n) : gall l n = n := by
  cases l with
  | nil => rfl
  | cons x r => rw [gall, if_neg (by omega)]
theorem gall_take {l : List Tr} {k : Nat} {a : Int} (hk : k < l.length) (ha : a < 4000) : gall (l.drop k) a = gall (l.drop (k + 1)) (a + l[k].sz 4000) := by
  rw [List.drop_eq_getElem_cons hk, gall, if_pos ha]
set_option maxHeartbeats 1000000 in
set_option maxRecDepth 100000 in
theorem greatAll_any {F : Nat → Prop} {l : List Tr} {w : World} {v : Value} (hx : Kids F w v l) :
    Calls Tryz.prog 11 #[v] w fun e w' => e = .returned (.bool (decide (4000 ≤ gall l l.length))) ∧ Below w.heap.size w w' := by
  obtain ⟨p, c, rfl⟩ := hx.slice
  have hlen : l.length ≤ 2199023255552 := hx.len
  have HX := Lib.hid hx
  clear hx
  go_enter Tryz.func11, Tryz.ntmps11
  go_wp2
  go_loopw [3, 4] (fun n i wr => ∃ k : Nat, k ≤ l.length ∧ i = .int .i64 k ∧ ∃ a : Int, n = .int .i64 a ∧ 0 ≤ a ∧ a ≤ 2199023255552 + 4000 ∧ gall (l.drop k) a = gall l l.length ∧ Below w.heap.size w wr) (fun _ i _ => l.length - (intOf i).toNat)
  case atStart => exact ⟨0, Nat.zero_le _, rfl, _, rfl, by omega, by omega, by simp, Below.refl _ _⟩
  case round =>
    obtain ⟨k, hk, rfl, a, rfl, ha1, ha2, hrest, hbr⟩ := hrel
    have hxr := HX.out.under hbr
    by_cases hlt : k < l.length
    · by_cases ham : a < 4000
      · obtain ⟨g, o, kv, rfl, hg, hnode, hkid⟩ := hxr.at hlt
        have cK := fun W hb => size_any l[k] W kv 4000 (hkid.below (w' := W) hb) (by omega) (by omega)
        have hszk := sz_bound l[k] 4000 (by omega)
        have hnext := gall_take hlt ham
        obtain ⟨e0, e1, e2, e3, e4⟩ := hnode
        generalize l[k] = y at *
        have HN := Lib.hid (hnext.symm.trans hrest)
        clear hnext hrest hkid hxr
        go_wp2_with (go_at_call 22; refine (cK _ (Below.refl _ _)).mono ?_; rintro e w2 ⟨rfl, hb2⟩)
        go_roundw
        case rel => exact ⟨k + 1, hlt, by go_num, _, rfl, by omega, by omega, HN.out, hbr.trans (hb2.mono hbr.size)⟩
        case measure => simp [intOf]; omega
      · rw [gall_stop _ (by omega)] at hrest
        subst hrest
        clear hxr
        go_wp2
        go_ret
        exact ⟨rfl, hbr⟩
    · rw [List.drop_eq_nil_of_le (by omega), gall] at hrest
      subst hrest
      clear hxr
      by_cases ham : gall l l.length < 4000
      all_goals
        go_wp2
        go_ret
        exact ⟨rfl, hbr⟩
end Go.Proofs.YtkieoghkjjkapaaGreatDoor
namespace Go.Proofs.YtkieoghkjjkapaaGreatDoor
open Go.RowKit
def letB (c : Int) : Bool := (decide (97 ≤ c) && decide (c ≤ 122)) || (decide (65 ≤ c) && decide (c ≤ 90)) || (decide (48 ≤ c) && decide (c ≤ 57)) || (c == 95)
structure Letters (w : World) : Prop where
  c0 : w.cell? ⟨0, 0, none⟩ = some (.int .u8 97)
  c1 : w.cell? ⟨0, 1, none⟩ = some (.int .u8 122)
  c2 : w.cell? ⟨0, 2, none⟩ = some (.int .u8 65)
  c3 : w.cell? ⟨0, 3, none⟩ = some (.int .u8 90)
  c4 : w.cell? ⟨0, 4, none⟩ = some (.int .u8 48)
  c5 : w.cell? ⟨0, 5, none⟩ = some (.int .u8 57)
  c6 : w.cell? ⟨0, 6, none⟩ = some (.int .u8 95)
  c7 : w.cell? ⟨0, 7, none⟩ = some (.int .u8 95)
theorem Letters.lt {w : World} (h : Letters w) : 0 < w.heap.size := cell_block h.c0
theorem Letters.below {w w' : World} (h : Letters w) {B : Nat} (hB : 0 < B) (hb : Below B w w') : Letters w' :=
  ⟨(hb.cell (p := ⟨0, 0, none⟩) hB).trans h.c0, (hb.cell (p := ⟨0, 1, none⟩) hB).trans h.c1, (hb.cell (p := ⟨0, 2, none⟩) hB).trans h.c2, (hb.cell (p := ⟨0, 3, none⟩) hB).trans h.c3, (hb.cell (p := ⟨0, 4, none⟩) hB).trans h.c4, (hb.cell (p := ⟨0, 5, none⟩) hB).trans h.c5, (hb.cell (p := ⟨0, 6, none⟩) hB).trans h.c6, (hb.cell (p := ⟨0, 7, none⟩) hB).trans h.c7⟩
theorem Letters.under {w w' : World} (h : Letters w) (hb : Below w.heap.size w w') : Letters w' := h.below h.lt hb
def pfx (s : ByteArray) : Nat := (s.data.toList.takeWhile fun c => letB c.toNat).length
def wordB (s : ByteArray) : Bool := decide (1 ≤ s.size) && decide (s.size ≤ 32) && pfx s == s.size
def fb (s : ByteArray) : Int := ((s.data.toList.headD 0).toNat : Int)
def mayA (s : ByteArray) : Bool := wordB s && (decide (97 ≤ fb s) && decide (fb s ≤ 122))
def nameA (s : ByteArray) : Bool := wordB s && ((decide (65 ≤ fb s) && decide (fb s ≤ 90)) || fb s == 95)
end Go.Proofs.YtkieoghkjjkapaaGreatDoor
namespace Go.Proofs.YtkieoghkjjkapaaGreatDoor
open Go.RowKit
def mayI (n : Int) : Bool := decide (-576460752303423488 ≤ n) && decide (n ≤ 576460752303423487)
end Go.Proofs.YtkieoghkjjkapaaGreatDoor
namespace Go.Proofs.YtkieoghkjjkapaaGreatDoor
open Go.RowKit
def emp (s : ByteArray) : Bool := s.toList.isEmpty
def bareB (x : Tr) (n s t l : Bool) : Bool := (n || x.n == 0) && (s || emp x.s) && (t || emp x.t) && (l || (x.l.length : Int) == 0)
end Go.Proofs.YtkieoghkjjkapaaGreatDoor
namespace Go.Proofs.YtkieoghkjjkapaaGreatDoor
open Go.RowKit
def oneB (x : Tr) : Bool :=
  if x.k = 0 then bareB x true false false false && mayI x.n
  else if x.k = 2 ∨ x.k = 4 then bareB x true false false false && (decide (0 ≤ x.n) && decide (x.n ≤ 576460752303423487))
  else if x.k = 1 then bareB x false true false false && mayA x.s
  else if x.k = 3 then bareB x true true true false && (mayA x.s && mayA x.t && (decide (0 ≤ x.n) && decide (x.n ≤ 8)))
  else if x.k = 5 then bareB x false false false true
  else if x.k = 6 then bareB x false false false false
  else if x.k = 7 then bareB x false false false true && ((x.l.length : Int) == 2)
  else false
end Go.Proofs.YtkieoghkjjkapaaGreatDoor
namespace Go.Proofs.YtkieoghkjjkapaaGreatDoor
open Go.RowKit
end Go.Proofs.YtkieoghkjjkapaaGreatDoor
namespace Go.Proofs.YtkieoghkjjkapaaGreatDoor
open Go.RowKit
structure Turn (T : Nat → Prop) (w w' : World) : Prop where
  os : w'.os = w.os
  tape : w'.tape = w.tape
  output : w'.output = w.output
  size : w.heap.size ≤ w'.heap.size
  block : ∀ k, k < w.heap.size → ¬ T k → w'.heap[k]? = w.heap[k]?
theorem Turn.refl (T : Nat → Prop) (w : World) : Turn T w w := ⟨rfl, rfl, rfl, Nat.le_refl _, fun _ _ _ => rfl⟩
theorem Turn.trans {T : Nat → Prop} {a b c : World} (h : Turn T a b) (k : Turn T b c) : Turn T a c :=
  ⟨k.os.trans h.os, k.tape.trans h.tape, k.output.trans h.output, Nat.le_trans h.size k.size, fun i hi hT => (k.block i (Nat.lt_of_lt_of_le hi h.size) hT).trans (h.block i hi hT)⟩
theorem Turn.mono {T T' : Nat → Prop} {a b : World} (h : Turn T a b) (hT : ∀ k, k < a.heap.size → T k → T' k) : Turn T' a b :=
  ⟨h.os, h.tape, h.output, h.size, fun i hi hn => h.block i hi fun ht => hn (hT i hi ht)⟩
theorem Turn.of_below {T : Nat → Prop} {w w' : World} (h : Below w.heap.size w w') : Turn T w w' := ⟨h.os, h.tape, h.output, h.size, fun k hk _ => h.block k hk⟩
theorem Turn.setCell (w : World) (p : Addr) (u : Value) : Turn (· = p.block) w (w.setCell p u) :=
  ⟨rfl, rfl, rfl, by simp [World.setCell], fun k _ hne => Below.heap_setCell _ _ _ _ hne⟩
theorem Turn.alloc (T : Nat → Prop) (w : World) (o : Obj) : Turn T w (w.alloc o) := Turn.of_below ((Below.refl _ w).alloc (Nat.le_refl _) o)
theorem Turn.below {T : Nat → Prop} {w w' : World} (h : Turn T w w') {B : Nat} (hB : B ≤ w.heap.size) (hT : ∀ k, k < B → ¬ T k) : Below B w w' :=
  ⟨h.os, h.tape, h.output, h.size, fun k hk => h.block k (Nat.lt_of_lt_of_le hk hB) (hT k hk)⟩
theorem Turn.cell {T : Nat → Prop} {w w' : World} (h : Turn T w w') {g o : Nat} {v : Value} (hc : w.cell? ⟨g, o, none⟩ = some v) (hT : ¬ T g) : w'.cell? ⟨g, o, none⟩ = some v :=
  (World.cell?_of_block (a := ⟨g, o, none⟩) (h.block g (cell_block hc) hT)).trans hc
def Tr.cnt : Tr → Int → Int × Bool
  | .mk k n s t l, m => if oneB (.mk k n s t l) then cntl l m 1 else (1, false)
where cntl : List Tr → Int → Int → Int × Bool
  | [], _, n => (n, true)
  | x :: r, m, n => if m ≤ n then (n, true) else if (x.cnt (m - n)).2 then cntl r m (n + (x.cnt (m - n)).1) else (n, false)
theorem cnt_eq (x : Tr) (m : Int) : x.cnt m = if oneB x then Tr.cnt.cntl x.l m 1 else (1, false) := by cases x; rfl
theorem cntl_stop (l : List Tr) {m n : Int} (h : m ≤ n) : Tr.cnt.cntl l m n = (n, true) := by
  cases l with
  | nil => rfl
  | cons x r => rw [Tr.cnt.cntl, if_pos h]
theorem cnt_bound (x : Tr) : ∀ m : Int, 1 ≤ m → 1 ≤ (x.cnt m).1 ∧ (x.cnt m).1 ≤ m := by
  induction x using Tr.ind with
  | h x ih =>
    intro m hm
    rw [cnt_eq]
    have key : ∀ (r : List Tr), (∀ y ∈ r, y ∈ x.l) → ∀ a : Int, 1 ≤ a → a ≤ m → a ≤ (Tr.cnt.cntl r m a).1 ∧ (Tr.cnt.cntl r m a).1 ≤ m := by
      intro r
      induction r with
      | nil => exact fun _ a _ h => ⟨Int.le_refl _, h⟩
      | cons y r ihr =>
        intro hr a h1 h2
        rw [Tr.cnt.cntl]
        split
        · exact ⟨Int.le_refl _, h2⟩
        · split
          · have h3 := ih y (hr y (by simp)) (m - a) (by omega)
            have h4 := ihr (fun z hz => hr z (List.mem_cons_of_mem _ hz)) (a + (y.cnt (m - a)).1) (by omega) (by omega)
            omega
          · exact ⟨Int.le_refl _, h2⟩
    split
    · exact key x.l (fun _ h => h) 1 (Int.le_refl _) hm
    · exact ⟨Int.le_refl _, hm⟩
def chkT (x : Tr) : Int := if (x.cnt 257).2 then (if 256 < (x.cnt 257).1 then 11 else 0) else 30
end Go.Proofs.YtkieoghkjjkapaaGreatDoor
namespace Go.Proofs.YtkieoghkjjkapaaGreatDoor
open Go.RowKit
theorem heap_new (w : World) (o : Obj) : (w.alloc o).heap[w.heap.size]? = some o := (MapKept.heap_alloc w o).1
theorem heap_old (w : World) (o : Obj) {i : Nat} (h : i < w.heap.size) : (w.alloc o).heap[i]? = w.heap[i]? := Below.heap_alloc _ _ _ h
theorem three_new (w : World) (o1 o2 o3 : Obj) : (((w.alloc o1).alloc o2).alloc o3).heap[w.heap.size]? = some o1 ∧ (((w.alloc o1).alloc o2).alloc o3).heap[w.heap.size + 1]? = some o2 ∧ (((w.alloc o1).alloc o2).alloc o3).heap[w.heap.size + 1 + 1]? = some o3 ∧
    Below w.heap.size w (((w.alloc o1).alloc o2).alloc o3) ∧ (((w.alloc o1).alloc o2).alloc o3).heap.size = w.heap.size + 3 := by
  have e1 : (w.alloc o1).heap.size = w.heap.size + 1 := by simp
  have e2 : ((w.alloc o1).alloc o2).heap.size = w.heap.size + 1 + 1 := by simp
  refine ⟨?_, ?_, ?_, (((Below.refl _ _).alloc (Nat.le_refl _) _).alloc (by simp) _).alloc (by simp; omega) _, by simp⟩
  · rw [heap_old _ _ (by omega), heap_old _ _ (by omega), heap_new]
  · rw [heap_old _ _ (by omega), ← e1, heap_new]
  · rw [← e2, heap_new]
theorem node_heap {w : World} {b : Nat} {x : Tr} {sv : Value} {T : TypeId} (h : w.heap[b]? = some (.cells #[.int .i8 x.k, .int .i64 x.n, .string x.s, .string x.t, sv] T (0, 0))) : NodeAt w b 0 x sv := by
  constructor <;> simp [World.cell?, h]
end Go.Proofs.YtkieoghkjjkapaaGreatDoor
namespace Go.Proofs.YtkieoghkjjkapaaGreatDoor
open Go.RowKit
end Go.Proofs.YtkieoghkjjkapaaGreatDoor
namespace Go.Proofs.YtkieoghkjjkapaaGreatDoor
open Go.RowKit
def Tr.same : Tr → Tr → Bool
  | .mk k n s t l, y => k == y.k && (n == y.n && (s.toList == y.s.toList && (t.toList == y.t.toList && ((l.length : Int) == (y.l.length : Int) && samel l y.l))))
where samel : List Tr → List Tr → Bool
  | x :: r, y :: q => x.same y && samel r q
  | _, _ => true
theorem same_eq (x y : Tr) : x.same y = (x.k == y.k && (x.n == y.n && (x.s.toList == y.s.toList && (x.t.toList == y.t.toList && ((x.l.length : Int) == (y.l.length : Int) && Tr.same.samel x.l y.l))))) := by cases x; rfl
theorem samel_take {l m : List Tr} {k : Nat} (h1 : k < l.length) (h2 : k < m.length) : Tr.same.samel (l.drop k) (m.drop k) = (l[k].same m[k] && Tr.same.samel (l.drop (k + 1)) (m.drop (k + 1))) := by
  rw [List.drop_eq_getElem_cons h1, List.drop_eq_getElem_cons h2, Tr.same.samel]
theorem two_new (w : World) (o1 o2 : Obj) : ((w.alloc o1).alloc o2).heap[w.heap.size]? = some o1 ∧ ((w.alloc o1).alloc o2).heap[w.heap.size + 1]? = some o2 ∧ Below w.heap.size w ((w.alloc o1).alloc o2) ∧ ((w.alloc o1).alloc o2).heap.size = w.heap.size + 2 := by
  have e1 : (w.alloc o1).heap.size = w.heap.size + 1 := by simp
  refine ⟨?_, ?_, ((Below.refl _ _).alloc (Nat.le_refl _) _).alloc (by simp) _, by simp⟩
  · rw [heap_old _ _ (by omega), heap_new]
  · rw [← e1, heap_new]
set_option maxHeartbeats 4000000 in
set_option maxRecDepth 100000 in
theorem rsame_any {F G : Nat → Prop} (x : Tr) : ∀ (y : Tr) (w : World) (sv tv : Value), TrV F w x sv → TrV G w y tv →
    Calls Tryz.prog 19 #[.agg #[.int .i8 x.k, .int .i64 x.n, .string x.s, .string x.t, sv], .agg #[.int .i8 y.k, .int .i64 y.n, .string y.s, .string y.t, tv]] w fun e w' => e = .returned (.bool (x.same y)) ∧ Below w.heap.size w w' := by
  induction x using Tr.ind with
  | h x ih =>
    intro y w sv tv hx hy
    obtain ⟨p, c, rfl⟩ := hx.kids.slice
    obtain ⟨p2, c2, rfl⟩ := hy.kids.slice
    obtain ⟨n1, n2, hb1, hz1⟩ := two_new w (.cells #[.int .i8 x.k, .int .i64 x.n, .string x.s, .string x.t, .slice p x.l.length c] 27) (.cells #[.int .i8 y.k, .int .i64 y.n, .string y.s, .string y.t, .slice p2 y.l.length c2] 27)
    have hx1 := hx.below hb1
    have hy1 := hy.below hb1
    have hlen : x.l.length ≤ 2199023255552 := hx.kids.len
    have hlen2 : y.l.length ≤ 2199023255552 := hy.kids.len
    obtain ⟨a0, a1, a2, a3, a4⟩ := node_heap n1
    obtain ⟨b0, b1, b2, b3, b4⟩ := node_heap n2
    simp only [Nat.zero_add] at a1 a2 a3 a4 b1 b2 b3 b4
    have hrel0 := same_eq x y
    have IH := Lib.hid ih
    have HR := Lib.hid hrel0
    clear ih hrel0 hx hy n1 n2
    cases e0 : (x.k == y.k)
    · have g0 : (x.k != y.k) = true := by simpa using e0
      have HV : Hid (x.same y = false) := by unfold Hid; rw [HR.out, e0]; rfl
      clear e0
      go_enter Tryz.func19, Tryz.ntmps19
      go_wp2
      go_ret
      exact ⟨by rw [HV.out]; rfl, hb1⟩
    have g0 : (x.k != y.k) = false := by simpa using e0
    cases e1 : (x.n == y.n)
    · have g1 : (x.n != y.n) = true := by simpa using e1
      have HV : Hid (x.same y = false) := by unfold Hid; rw [HR.out, e0, e1]; rfl
      clear e0 e1
      go_enter Tryz.func19, Tryz.ntmps19
      go_wp2
      go_ret
      exact ⟨by rw [HV.out]; rfl, hb1⟩
    have g1 : (x.n != y.n) = false := by simpa using e1
    cases e2 : (x.s.toList == y.s.toList)
    · have HV : Hid (x.same y = false) := by unfold Hid; rw [HR.out, e0, e1, e2]; rfl
      clear e0 e1
      go_enter Tryz.func19, Tryz.ntmps19
      go_wp2
      go_ret
      exact ⟨by rw [HV.out]; rfl, hb1⟩
    cases e3 : (x.t.toList == y.t.toList)
    · have HV : Hid (x.same y = false) := by unfold Hid; rw [HR.out, e0, e1, e2, e3]; rfl
      clear e0 e1
      go_enter Tryz.func19, Tryz.ntmps19
      go_wp2
      go_ret
      exact ⟨by rw [HV.out]; rfl, hb1⟩
    cases e4 : ((x.l.length : Int) == (y.l.length : Int))
    · have g4 : ((x.l.length : Int) != (y.l.length : Int)) = true := by simpa using e4
      have HV : Hid (x.same y = false) := by unfold Hid; rw [HR.out, e0, e1, e2, e3, e4]; rfl
      clear e0 e1 e4
      go_enter Tryz.func19, Tryz.ntmps19
      go_wp2
      go_ret
      exact ⟨by rw [HV.out]; rfl, hb1⟩
    have g4 : ((x.l.length : Int) != (y.l.length : Int)) = false := by simpa using e4
    have hll : x.l.length = y.l.length := by have := beq_iff_eq.1 e4; omega
    have HLL := Lib.hid hll
    have hl1 : x.l.length ≤ y.l.length := by omega
    have hl2 : y.l.length ≤ x.l.length := by omega
    have HV : Hid (x.same y = Tr.same.samel x.l y.l) := by unfold Hid; rw [HR.out, e0, e1, e2, e3, e4]; rfl
    clear e0 e1 e4 hll HR
    go_enter Tryz.func19, Tryz.ntmps19
    go_wp2
    generalize (w.alloc (.cells #[.int .i8 x.k, .int .i64 x.n, .string x.s, .string x.t, .slice p x.l.length c] 27)).alloc (.cells #[.int .i8 y.k, .int .i64 y.n, .string y.s, .string y.t, .slice p2 y.l.length c2] 27) = w1 at hb1 hz1 hx1 hy1 a0 a1 a2 a3 a4 b0 b1 b2 b3 b4 ⊢
    clear a0 a1 a2 a3 b0 b1 b2 b3 g0 g1 e2 e3
    go_loopw [5] (fun i wr => ∃ k : Nat, k ≤ x.l.length ∧ i = .int .i64 k ∧ Tr.same.samel (x.l.drop k) (y.l.drop k) = Tr.same.samel x.l y.l ∧ Below w1.heap.size w1 wr) (fun i _ => x.l.length - (intOf i).toNat)
    case atStart => exact ⟨0, Nat.zero_le _, rfl, rfl, Below.refl _ _⟩
    case round =>
      obtain ⟨k, hk, rfl, hrest, hbr⟩ := hrel
      have hxr := hx1.below hbr
      have hyr := hy1.below hbr
      have hbw := hb1.trans (hbr.mono (by omega))
      have a4r := (hbr.cell (p := ⟨w.heap.size, 4, none⟩) (by show w.heap.size < _; omega)).trans a4
      have b4r := (hbr.cell (p := ⟨w.heap.size + 1, 4, none⟩) (by show w.heap.size + 1 < _; omega)).trans b4
      by_cases hlt : k < x.l.length
      · have hlt2 : k < y.l.length := by omega
        obtain ⟨g, o, kv, rfl, _, hnode, hkid⟩ := hxr.kids.at hlt
        obtain ⟨g2, o2, kv2, rfl, _, hnode2, hkid2⟩ := hyr.kids.at hlt2
        have hbd : Below wr.heap.size wr (wr.drewN 1) := below_drewN (Below.refl _ _) 1
        have cK := IH.out x.l[k] (List.getElem_mem hlt) y.l[k] (wr.drewN 1) kv kv2 (hkid.below hbd) (hkid2.below hbd)
        rw [samel_take hlt hlt2] at hrest
        obtain ⟨c0, c1, c2', c3, c4⟩ := hnode
        obtain ⟨d0, d1, d2, d3, d4⟩ := hnode2
        generalize x.l[k] = u at *
        generalize y.l[k] = v at *
        generalize u.same v = q at *
        have HN := Lib.hid hrest
        clear hrest hkid hkid2 hxr hyr hx1 hy1 a4 b4
        cases q
        all_goals
          go_wp2
          go_still_tail 10, (by kernel_rfl)
          change wpList _ _ _ _ _ (wr.drewN 1)
          generalize wr.drewN 1 = w4 at hbd cK ⊢
          go_wp2_with (go_at_call 19; refine cK.mono ?_; rintro e w5 ⟨rfl, hb5⟩)
        · go_ret
          exact ⟨by rw [HV.out, ← HN.out]; rfl, hbw.trans ((hbd.trans (hb5.mono hbd.size)).mono hbw.size)⟩
        · go_roundw
          case rel => exact ⟨k + 1, hlt, by go_num, by rw [← HN.out]; rfl, hbr.trans ((hbd.trans (hb5.mono hbd.size)).mono hbr.size)⟩
          case measure => simp [intOf]; omega
      · rw [List.drop_eq_nil_of_le (by omega)] at hrest
        have hrest' : Tr.same.samel x.l y.l = true := by rw [← hrest]; rfl
        have HN := Lib.hid hrest'
        clear hrest hrest' hxr hyr hx1 hy1 a4 b4
        go_wp2
        go_ret
        exact ⟨by rw [HV.out, HN.out]; rfl, hbw⟩
end Go.Proofs.YtkieoghkjjkapaaGreatDoor
namespace Go.Proofs.YtkieoghkjjkapaaGreatDoor
open Go.RowKit
end Go.Proofs.YtkieoghkjjkapaaGreatDoor
namespace Go.Proofs.YtkieoghkjjkapaaGreatDoor
open Go.RowKit
end Go.Proofs.YtkieoghkjjkapaaGreatDoor
namespace Go.Proofs.YtkieoghkjjkapaaGreatDoor
open Go.RowKit
end Go.Proofs.YtkieoghkjjkapaaGreatDoor
namespace Go.Proofs.YtkieoghkjjkapaaGreatDoor
open Go.RowKit
end Go.Proofs.YtkieoghkjjkapaaGreatDoor
namespace Go.Proofs.YtkieoghkjjkapaaGreatDoor
open Go.RowKit
end Go.Proofs.YtkieoghkjjkapaaGreatDoor
namespace Go.Proofs.YtkieoghkjjkapaaGreatDoor
open Go.RowKit
end Go.Proofs.YtkieoghkjjkapaaGreatDoor
namespace Go.Proofs.YtkieoghkjjkapaaGreatDoor
open Go.RowKit
def words13 : List (List UInt8) := [[97, 102, 116, 101, 114], [99, 97, 115, 101], [99, 97, 116, 99, 104], [99, 111, 110, 102, 105, 103], [100, 105, 118], [101, 110, 100], [102, 117, 110], [109, 111, 100, 117, 108, 101], [111, 102], [114, 101, 99, 101, 105, 118, 101], [114, 101, 109], [116, 114, 121], [119, 104, 101, 110]]
def wordK (s : ByteArray) : Bool := words13.any fun u => s.toList == u
def atomN (s : ByteArray) : Bool := mayA s && !wordK s
def leafB (x : Tr) : Bool :=
  if x.k = 5 then bareB x false true false false && nameA x.s
  else if x.k = 6 then bareB x true false false false && mayI x.n
  else if x.k = 7 then bareB x false true false false && atomN x.s
  else if x.k = 8 then bareB x false false false false
  else false
def Tr.pat : Tr → Bool
  | .mk k n s t l => leafB (.mk k n s t l) || ((k == 10 || (k == 9 && (l.length : Int) == 2)) && bareB (.mk k n s t l) false false false true && patl l)
where patl : List Tr → Bool
  | [] => true
  | x :: r => x.pat && patl r
end Go.Proofs.YtkieoghkjjkapaaGreatDoor
namespace Go.Proofs.YtkieoghkjjkapaaGreatDoor
open Go.RowKit
end Go.Proofs.YtkieoghkjjkapaaGreatDoor
namespace Go.Proofs.YtkieoghkjjkapaaGreatDoor
open Go.RowKit
end Go.Proofs.YtkieoghkjjkapaaGreatDoor
namespace Go.Proofs.YtkieoghkjjkapaaGreatDoor
open Go.RowKit
def WordsAt (w : World) (b : Nat) (l : List (List UInt8)) : Prop := ∀ k (h : k < l.length), ∃ u : ByteArray, w.cell? ⟨b, k, none⟩ = some (.string u) ∧ u.toList = l[k]
end Go.Proofs.YtkieoghkjjkapaaGreatDoor
namespace Go.Proofs.YtkieoghkjjkapaaGreatDoor
open Go.RowKit
theorem WordsAt.under {w w' : World} {b : Nat} {l : List (List UInt8)} (h : WordsAt w b l) (hb : Below w.heap.size w w') : WordsAt w' b l := fun k hk => by
  obtain ⟨u, h1, h2⟩ := h k hk
  exact ⟨u, (hb.cell (p := ⟨b, k, none⟩) (cell_block h1)).trans h1, h2⟩
end Go.Proofs.YtkieoghkjjkapaaGreatDoor
namespace Go.Proofs.YtkieoghkjjkapaaGreatDoor
open Go.RowKit
def RuleSays (F : Nat → Prop) (N : FuncId) (P : Tr → Bool) (w : World) (x : Tr) : Prop := ∀ (W : World) (g o : Nat) (sv : Value), Below w.heap.size w W → NodeAt W g o x sv → TrV F W x sv →
  Calls Tryz.prog N #[.pointer (some ⟨g, o, none⟩)] W fun e w' => e = .returned (.bool (P x)) ∧ Below W.heap.size W w'
theorem RuleSays.under {F : Nat → Prop} {N : FuncId} {P : Tr → Bool} {w w' : World} {x : Tr} (h : RuleSays F N P w x) (hb : Below w.heap.size w w') : RuleSays F N P w' x := fun W g o sv hW => h W g o sv (hb.trans (hW.mono hb.size))
end Go.Proofs.YtkieoghkjjkapaaGreatDoor
namespace Go.Proofs.YtkieoghkjjkapaaGreatDoor
open Go.RowKit
end Go.Proofs.YtkieoghkjjkapaaGreatDoor
namespace Go.Proofs.YtkieoghkjjkapaaGreatDoor
open Go.RowKit
theorem setRow_heap' {w : World} {g : Nat} {old cells : Array Value} {t : TypeId} (h : w.heap[g]? = some (.cells old t (0, 0))) : (w.setRow g cells).heap[g]? = some (.cells cells t (0, 0)) := setRow_heap w g old cells t _ h
theorem below_setRow {B g : Nat} {a w : World} {cells : Array Value} (h : Below B a w) (hg : B ≤ g) : Below B a (w.setRow g cells) :=
  h.trans ⟨rfl, rfl, rfl, by simp [World.setRow], fun k hk => by simp [World.setRow, Array.getElem?_modify]; omega⟩
theorem arr_cell {w : World} {b i : Nat} {A : Array Value} {T : TypeId} (h : w.heap[b]? = some (.cells A T (0, 0))) : w.cell? ⟨b, i, none⟩ = A[i]? := by simp [World.cell?, h]
theorem arr_free {w : World} {b i : Nat} {A : Array Value} {T : TypeId} (h : w.heap[b]? = some (.cells A T (0, 0))) : w.frozen? ⟨b, i, none⟩ = false := by simp [World.frozen?, h]
end Go.Proofs.YtkieoghkjjkapaaGreatDoor
namespace Go.Proofs.YtkieoghkjjkapaaGreatDoor
open Go.RowKit
end Go.Proofs.YtkieoghkjjkapaaGreatDoor
namespace Go.Proofs.YtkieoghkjjkapaaGreatDoor
open Go.RowKit
end Go.Proofs.YtkieoghkjjkapaaGreatDoor
namespace Go.Proofs.YtkieoghkjjkapaaGreatDoor
open Go.RowKit
end Go.Proofs.YtkieoghkjjkapaaGreatDoor
namespace Go.Proofs.YtkieoghkjjkapaaGreatDoor
open Go.RowKit
end Go.Proofs.YtkieoghkjjkapaaGreatDoor
namespace Go.Proofs.YtkieoghkjjkapaaGreatDoor
open Go.RowKit
structure Bd where
  s : ByteArray
  t : Tr
def BindAt (F : Nat → Prop) (w : World) (p : Option Addr) (i : Nat) (b : Bd) : Prop := ∃ g o sv, p = some ⟨g, o, none⟩ ∧ F g ∧ w.cell? ⟨g, o + i * 6, none⟩ = some (.string b.s) ∧ b.s.size ≤ BL * 64 ∧ NodeAt w g (o + i * 6 + 1) b.t sv ∧ TrV F w b.t sv
def Binds (F : Nat → Prop) (w : World) (v : Value) (l : List Bd) : Prop := ∃ p c, v = .slice p l.length c ∧ l.length ≤ c ∧ l.length ≤ BL ∧ (∀ i (h : i < l.length), BindAt F w p i l[i]) ∧ (p = none → c = 0)
theorem BindAt.keep {F : Nat → Prop} {w w' : World} {p : Option Addr} {i : Nat} {b : Bd} (h : BindAt F w p i b) (hb : ∀ g, F g → g < w.heap.size → w'.heap[g]? = w.heap[g]?) : BindAt F w' p i b := by
  obtain ⟨g, o, sv, h1, h2, h3, h4, h5, h6⟩ := h
  exact ⟨g, o, sv, h1, h2, (World.cell?_of_block (a := ⟨g, o + i * 6, none⟩) (hb g h2 (cell_block h3))).trans h3, h4, h5.keep (hb g h2 h5.lt), h6.wf, h6.kids.keep hb⟩
theorem Binds.keep {F : Nat → Prop} {w w' : World} {v : Value} {l : List Bd} (h : Binds F w v l) (hb : ∀ g, F g → g < w.heap.size → w'.heap[g]? = w.heap[g]?) : Binds F w' v l := by
  obtain ⟨p, c, h1, h2, h3, h4⟩ := h
  exact ⟨p, c, h1, h2, h3, fun i hi => (h4.1 i hi).keep hb, h4.2⟩
theorem Binds.under {F : Nat → Prop} {w w' : World} {v : Value} {l : List Bd} (h : Binds F w v l) (hb : Below w.heap.size w w') : Binds F w' v l := h.keep fun g _ hg => hb.block g hg
theorem Binds.mono {F F' : Nat → Prop} {w : World} {v : Value} {l : List Bd} (h : Binds F w v l) (hF : ∀ g, F g → g < w.heap.size → F' g) : Binds F' w v l := by
  obtain ⟨p, c, h1, h2, h3, h4⟩ := h
  refine ⟨p, c, h1, h2, h3, fun i hi => ?_, h4.2⟩
  obtain ⟨g, o, sv, k1, k2, k3, k4, k5, k6⟩ := h4.1 i hi
  exact ⟨g, o, sv, k1, hF g k2 k5.lt, k3, k4, k5, k6.wf, k6.kids.mono hF⟩
theorem Binds.nil (F : Nat → Prop) (w : World) : Binds F w (.slice none 0 0) [] := ⟨none, 0, rfl, Nat.le_refl _, Nat.zero_le _, fun i hi => absurd hi (by simp), fun _ => rfl⟩
theorem Binds.slice {F : Nat → Prop} {w : World} {v : Value} {l : List Bd} (h : Binds F w v l) : ∃ p c, v = .slice p l.length c := by
  obtain ⟨p, c, h1, _⟩ := h
  exact ⟨p, c, h1⟩
theorem Binds.len {F : Nat → Prop} {w : World} {v : Value} {l : List Bd} (h : Binds F w v l) : l.length ≤ BL := by
  obtain ⟨p, c, _, _, h, _⟩ := h
  exact h
theorem Binds.at {F : Nat → Prop} {w : World} {p : Option Addr} {n c : Nat} {l : List Bd} (h : Binds F w (.slice p n c) l) {i : Nat} (hi : i < l.length) : BindAt F w p i l[i] := by
  obtain ⟨p', c', he, _, _, hx⟩ := h
  cases he
  exact hx.1 i hi
theorem Binds.none {F : Nat → Prop} {w : World} {n c : Nat} {l : List Bd} (h : Binds F w (.slice none n c) l) : l.length = 0 ∧ c = 0 := by
  obtain ⟨p', c', he, _, _, hx, h0⟩ := h
  cases he
  refine ⟨?_, h0 rfl⟩
  by_cases hl : 0 < l.length
  · obtain ⟨g, o, sv, e, _⟩ := hx 0 hl
    cases e
  · omega
end Go.Proofs.YtkieoghkjjkapaaGreatDoor
namespace Go.Proofs.YtkieoghkjjkapaaGreatDoor
open Go.RowKit
end Go.Proofs.YtkieoghkjjkapaaGreatDoor
namespace Go.Proofs.YtkieoghkjjkapaaGreatDoor
open Go.RowKit
end Go.Proofs.YtkieoghkjjkapaaGreatDoor
namespace Go.Proofs.YtkieoghkjjkapaaGreatDoor
open Go.RowKit
theorem cnt_more (x : Tr) : ∀ m : Int, 1 ≤ m → (x.cnt m).2 = true → (x.cnt m).1 < m → ∀ m', m ≤ m' → x.cnt m' = x.cnt m := by
  induction x using Tr.ind with
  | h x ih =>
    intro m hm h2 h1 m' hmm
    rw [cnt_eq] at h1 h2
    rw [cnt_eq, cnt_eq]
    split
    · rename_i ho
      rw [if_pos ho] at h1 h2
      have key : ∀ (r : List Tr), (∀ y ∈ r, y ∈ x.l) → ∀ a : Int, 1 ≤ a → a ≤ m → (Tr.cnt.cntl r m a).2 = true → (Tr.cnt.cntl r m a).1 < m → Tr.cnt.cntl r m' a = Tr.cnt.cntl r m a := by
        intro r
        induction r with
        | nil => exact fun _ a _ _ _ _ => rfl
        | cons y r ihr =>
          intro hr a h3 h4 h5 h6
          rw [Tr.cnt.cntl] at h5 h6 ⊢
          rw [Tr.cnt.cntl]
          by_cases hma : m ≤ a
          · rw [if_pos hma] at h6; simp at h6; omega
          rw [if_neg hma] at h5 h6 ⊢
          rw [if_neg (by omega)]
          by_cases hy2 : (y.cnt (m - a)).2 = true
          · rw [if_pos hy2] at h5 h6 ⊢
            have hbd := cnt_bound y (m - a) (by omega)
            have hlt : (y.cnt (m - a)).1 < m - a := by
              by_cases hc : (y.cnt (m - a)).1 < m - a
              · exact hc
              · rw [cntl_stop r (show m ≤ a + (y.cnt (m - a)).1 by omega)] at h6
                simp at h6; omega
            have hy := ih y (hr y (by simp)) (m - a) (by omega) hy2 hlt (m' - a) (by omega)
            rw [hy, if_pos hy2]
            exact ihr (fun z hz => hr z (List.mem_cons_of_mem _ hz)) _ (by omega) (by omega) h5 h6
          · rw [if_neg hy2] at h5; simp at h5
      exact key x.l (fun _ h => h) 1 (Int.le_refl _) hm h2 h1
    · rfl
theorem chk_one {x : Tr} (h : chkT x = 0) : oneB x = true := by
  unfold chkT at h
  rw [cnt_eq] at h
  cases ho : oneB x
  · rw [ho] at h; simp at h
  · rfl
theorem chk_kids {x : Tr} (h : chkT x = 0) : ∀ y ∈ x.l, chkT y = 0 := by
  have ho := chk_one h
  unfold chkT at h
  rw [cnt_eq, if_pos ho] at h
  have h2 : (Tr.cnt.cntl x.l 257 1).2 = true := by
    cases h3 : (Tr.cnt.cntl x.l 257 1).2
    · rw [h3] at h; simp at h
    · rfl
  rw [if_pos h2] at h
  have h1 : (Tr.cnt.cntl x.l 257 1).1 < 257 := by
    by_cases hc : 256 < (Tr.cnt.cntl x.l 257 1).1
    · rw [if_pos hc] at h; simp at h
    · omega
  have key : ∀ (r : List Tr) (a : Int), 1 ≤ a → a ≤ 257 → (Tr.cnt.cntl r 257 a).2 = true → (Tr.cnt.cntl r 257 a).1 < 257 → ∀ y ∈ r, chkT y = 0 := by
    intro r
    induction r with
    | nil => exact fun a _ _ _ _ y hy => absurd hy (by simp)
    | cons z r ihr =>
      intro a h3 h4 h5 h6
      rw [Tr.cnt.cntl] at h5 h6
      by_cases hma : 257 ≤ a
      · rw [if_pos hma] at h6; simp at h6; omega
      rw [if_neg hma] at h5 h6
      by_cases hy2 : (z.cnt (257 - a)).2 = true
      · rw [if_pos hy2] at h5 h6
        have hbd := cnt_bound z (257 - a) (by omega)
        have hlt : (z.cnt (257 - a)).1 < 257 - a := by
          by_cases hc : (z.cnt (257 - a)).1 < 257 - a
          · exact hc
          · rw [cntl_stop r (show 257 ≤ a + (z.cnt (257 - a)).1 by omega)] at h6
            simp at h6; omega
        intro y hy
        rcases List.mem_cons.1 hy with rfl | hy
        · have := cnt_more y (257 - a) (by omega) hy2 hlt 257 (by omega)
          unfold chkT
          rw [this, if_pos hy2, if_neg (by omega)]
        · exact ihr _ (by omega) (by omega) h5 h6 y hy
      · rw [if_neg hy2] at h5; simp at h5
  exact key x.l 1 (by omega) (by omega) h2 h1
def Tr.nn : Tr → Nat
  | .mk _ _ _ _ l => nnl l + 1
where nnl : List Tr → Nat
  | [] => 0
  | x :: r => x.nn + nnl r
theorem nn_eq (x : Tr) : x.nn = Tr.nn.nnl x.l + 1 := by cases x; rfl
theorem nnl_drop {l : List Tr} {k : Nat} (hk : k < l.length) : Tr.nn.nnl (l.drop k) = l[k].nn + Tr.nn.nnl (l.drop (k + 1)) := by rw [List.drop_eq_getElem_cons hk, Tr.nn.nnl]
theorem patl_mem : ∀ {l : List Tr}, Tr.pat.patl l = true → ∀ y ∈ l, y.pat = true
  | [], _, y, hy => absurd hy (by simp)
  | x :: r, h, y, hy => by
    rw [Tr.pat.patl, Bool.and_eq_true] at h
    rcases List.mem_cons.1 hy with rfl | hy
    · exact h.1
    · exact patl_mem h.2 y hy
end Go.Proofs.YtkieoghkjjkapaaGreatDoor
namespace Go.Proofs.YtkieoghkjjkapaaGreatDoor
open Go.RowKit
def zeroT : Tr := .mk 0 0 ⟨#[]⟩ ⟨#[]⟩ []
def cells5 (x : Tr) (sv : Value) : Array Value := #[.int .i8 x.k, .int .i64 x.n, .string x.s, .string x.t, sv]
theorem size28 (x : Tr) (sv : Value) : (Tryz.prog.info? 27).map (·.size) = some (cells5 x sv).size := by kernel_rfl
theorem info28 (w : World) (g : Nat) (x : Tr) (sv : Value) (hg : w.heap[g]? = some (.cells (cells5 x sv) 27 (0, 0))) : (loadVar 27 ⟨g, 0, none⟩).run Tryz.prog w = .ok (.agg (cells5 x sv)) w :=
  run_loadVar_row w g 27 27 (cells5 x sv) (0, 0) _ hg Tryz.underlying27 rfl (size28 x sv)
theorem results_term {fn : Func} {p u : Tmp} (h : fn.results = #[.cell p 27, .tmp u]) (tmps : Array Value) (w : World) (g : Nat) (x : Tr) (sv : Value) (hp : tmps.getD p undef = .pointer (some ⟨g, 0, none⟩)) (hg : w.heap[g]? = some (.cells (cells5 x sv) 27 (0, 0))) :
    (results fn tmps).run Tryz.prog w = .ok (.tuple #[.agg (cells5 x sv), tmps.getD u undef]) w := by
  rw [results_cell_tmp h, hp]
  simp only [asAddr, Sem.run_pure, Result.andThen, info28 w g x sv hg]
end Go.Proofs.YtkieoghkjjkapaaGreatDoor
namespace Go.Proofs.YtkieoghkjjkapaaGreatDoor
open Go.RowKit
theorem addr_add (g o j : Nat) : Addr.add ⟨g, o, none⟩ j = ⟨g, o + j, none⟩ := by
  unfold Addr.add
  split
  · rename_i h; subst h; rfl
  · rfl
theorem cells_at_new (W : World) (cs : List Value) (e : TypeId) (j : Nat) (u : Value) (h : cs[j]? = some u) : (W.alloc (.cells cs.toArray e)).cell? (Addr.add ⟨W.heap.size, 0, none⟩ j) = some u := by
  rw [addr_add, World.cell?_alloc_at _ _ _ _ (by simp)]
  simp only [List.getElem?_toArray, Nat.zero_add]
  exact h
def bcells (q : Bd × Value) : List Value := [.string q.1.s, .int .i8 q.1.t.k, .int .i64 q.1.t.n, .string q.1.t.s, .string q.1.t.t, q.2]
def tcells (q : Tr × Value) : List Value := [.int .i8 q.1.k, .int .i64 q.1.n, .string q.1.s, .string q.1.t, q.2]
theorem flat6 : ∀ (L : List (Bd × Value)) (k : Nat) (hk : k < L.length) (j : Nat), j < 6 → (L.flatMap bcells)[k * 6 + j]? = (bcells L[k])[j]?
  | q :: r, 0, _, j, hj => by
    simp only [List.flatMap_cons, Nat.zero_mul, Nat.zero_add, List.getElem_cons_zero]
    rw [List.getElem?_append_left (by simp [bcells]; omega)]
  | q :: r, k + 1, hk, j, hj => by
    have := flat6 r k (by simpa using hk) j hj
    simp only [List.flatMap_cons, List.getElem_cons_succ]
    rw [List.getElem?_append_right (by simp [bcells]; omega)]
    rw [show (k + 1) * 6 + j - (bcells q).length = k * 6 + j from by simp [bcells]; omega]
    exact this
theorem flat5 : ∀ (L : List (Tr × Value)) (k : Nat) (hk : k < L.length) (j : Nat), j < 5 → (L.flatMap tcells)[k * 5 + j]? = (tcells L[k])[j]?
  | q :: r, 0, _, j, hj => by
    simp only [List.flatMap_cons, Nat.zero_mul, Nat.zero_add, List.getElem_cons_zero]
    rw [List.getElem?_append_left (by simp [tcells]; omega)]
  | q :: r, k + 1, hk, j, hj => by
    have := flat5 r k (by simpa using hk) j hj
    simp only [List.flatMap_cons, List.getElem_cons_succ]
    rw [List.getElem?_append_right (by simp [tcells]; omega)]
    rw [show (k + 1) * 5 + j - (tcells q).length = k * 5 + j from by simp [tcells]; omega]
    exact this
theorem flat6_len (L : List (Bd × Value)) : (L.flatMap bcells).length = L.length * 6 := by
  induction L with
  | nil => rfl
  | cons q r ih => simp only [List.flatMap_cons, List.length_append, ih, List.length_cons]; simp [bcells]; omega
theorem binds_row {F : Nat → Prop} {w : World} {base : Nat} {v : Value} {L : List (Bd × Value)} {T : TypeId} (h : w.ownsRow base T 6 v L.length (L.flatMap bcells)) (hF : ∀ k, base ≤ k → F k) (hL : ∀ q ∈ L, TrV F w q.1.t q.2 ∧ q.1.s.size ≤ BL * 64) (hb : L.length ≤ BL) :
    Binds F w v (L.map (·.1)) := by
  obtain ⟨_, h1⟩ := h
  rcases h1 with ⟨rfl, h0⟩ | ⟨g, cap, cur, rfl, hg, hh, hc, _, _, ht⟩
  · have : L = [] := List.eq_nil_of_length_eq_zero h0
    subst this
    exact Binds.nil F w
  · have hget : ∀ j, j < L.length * 6 → ∀ u, (L.flatMap bcells)[j]? = some u → w.cell? ⟨g, j, none⟩ = some u := by
      intro j hj u hu
      rw [← ht, List.getElem?_take, if_pos hj] at hu
      simp [World.cell?, hh]
      simpa using hu
    refine ⟨some ⟨g, 0, none⟩, cap, by simp, by simpa using hc, by simpa using hb, fun i hi => ?_, fun e => by cases e⟩
    have hi' : i < L.length := by simpa using hi
    have hm : (L.map (·.1))[i] = L[i].1 := by simp
    have hq := hL L[i] (List.getElem_mem hi')
    have hc := fun j (hj : j < 6) => hget (i * 6 + j) (by omega) 
    rw [hm]
    refine ⟨g, 0, L[i].2, rfl, hF g hg, ?_, hq.2, ⟨?_, ?_, ?_, ?_, ?_⟩, hq.1⟩
    · have := hc 0 (by omega) _ (by rw [flat6 L i hi' 0 (by omega)]; rfl); simpa using this
    · have := hc 1 (by omega) _ (by rw [flat6 L i hi' 1 (by omega)]; rfl); simpa using this
    · have := hc 2 (by omega) _ (by rw [flat6 L i hi' 2 (by omega)]; rfl); simpa using this
    · have := hc 3 (by omega) _ (by rw [flat6 L i hi' 3 (by omega)]; rfl); simpa using this
    · have := hc 4 (by omega) _ (by rw [flat6 L i hi' 4 (by omega)]; rfl); simpa using this
    · have := hc 5 (by omega) _ (by rw [flat6 L i hi' 5 (by omega)]; rfl); simpa using this
theorem kids_row {F : Nat → Prop} {w : World} {base : Nat} {v : Value} {L : List (Tr × Value)} {T : TypeId} (h : w.ownsRow base T 5 v L.length (L.flatMap tcells)) (hF : ∀ k, base ≤ k → F k) (hL : ∀ q ∈ L, TrV F w q.1 q.2) (hb : L.length ≤ BL) :
    Kids F w v (L.map (·.1)) := by
  obtain ⟨_, h1⟩ := h
  rcases h1 with ⟨rfl, h0⟩ | ⟨g, cap, cur, rfl, hg, hh, hc, _, _, ht⟩
  · have : L = [] := List.eq_nil_of_length_eq_zero h0
    subst this
    exact Kids.nil F w
  · have hget : ∀ j, j < L.length * 5 → ∀ u, (L.flatMap tcells)[j]? = some u → w.cell? ⟨g, j, none⟩ = some u := by
      intro j hj u hu
      rw [← ht, List.getElem?_take, if_pos hj] at hu
      simp [World.cell?, hh]
      simpa using hu
    have key : Kids F w (.slice (some ⟨g, 0, none⟩) (L.map (·.1)).length cap) (L.map (·.1)) := by
      refine .mk _ cap _ (fun i => ((L[i]?).map (·.2)).getD undef) (by simpa using hc) (by simpa using hb) (fun i hi => ?_) (fun i hi => ?_) (fun i hi => ?_)
      all_goals
        have hi' : i < L.length := by simpa using hi
        have hm : (L.map (·.1))[i] = L[i].1 := by simp
        have hq := hL L[i] (List.getElem_mem hi')
      · rw [hm]; exact hq.wf
      · have hc := fun j (hj : j < 5) => hget (i * 5 + j) (by omega)
        have hsv : ((L[i]?).map (·.2)).getD undef = L[i].2 := by simp [hi']
        rw [hm]
        refine ⟨g, 0, rfl, hF g hg, ⟨?_, ?_, ?_, ?_, ?_⟩⟩
        · have := hc 0 (by omega) _ (by rw [flat5 L i hi' 0 (by omega)]; rfl); simpa using this
        · have := hc 1 (by omega) _ (by rw [flat5 L i hi' 1 (by omega)]; rfl); simpa using this
        · have := hc 2 (by omega) _ (by rw [flat5 L i hi' 2 (by omega)]; rfl); simpa using this
        · have := hc 3 (by omega) _ (by rw [flat5 L i hi' 3 (by omega)]; rfl); simpa using this
        · have := hc 4 (by omega) _ (by rw [flat5 L i hi' 4 (by omega)]; rfl); rw [hsv]; simpa using this
      · have hsv : ((L[i]?).map (·.2)).getD undef = L[i].2 := by simp [hi']
        rw [hsv, hm]; exact hq.kids
    simpa using key
theorem Binds.cells {F : Nat → Prop} {w : World} {p : Option Addr} {n c : Nat} {l : List Bd} (h : Binds F w (.slice p n c) l) : ∃ L : List (Bd × Value), L.map (·.1) = l ∧ (∀ q ∈ L, TrV F w q.1.t q.2 ∧ q.1.s.size ≤ BL * 64) ∧ ∀ b, p = some b → ∀ j u, (L.flatMap bcells)[j]? = some u → w.cell? (b.add j) = some u := by
  have key : ∀ (m : List Bd) (k : Nat), (∀ i (h : i < m.length), BindAt F w p (k + i) m[i]) → ∃ L : List (Bd × Value), L.map (·.1) = m ∧ (∀ q ∈ L, TrV F w q.1.t q.2 ∧ q.1.s.size ≤ BL * 64) ∧ ∀ b, p = some b → ∀ j u, (L.flatMap bcells)[j]? = some u → w.cell? (b.add (k * 6 + j)) = some u := by
    intro m
    induction m with
    | nil => exact fun k _ => ⟨[], rfl, fun q hq => absurd hq (by simp), fun b _ j u hu => by simp at hu⟩
    | cons b m ih =>
      intro k hk
      obtain ⟨L, h1, h2, h3⟩ := ih (k + 1) (fun i hi => by have := hk (i + 1) (by simpa using hi); rwa [show k + (i + 1) = k + 1 + i from by omega] at this)
      obtain ⟨g, o, sv, hp, _, hs, hsz, hn, ht⟩ := hk 0 (by simp)
      refine ⟨(b, sv) :: L, by simp [h1], fun q hq => ?_, fun a ha j u hu => ?_⟩
      · rcases List.mem_cons.1 hq with rfl | hq
        · exact ⟨ht, hsz⟩
        · exact h2 q hq
      · rw [hp] at ha
        cases ha
        simp only [Nat.add_zero, List.getElem_cons_zero] at hs hn
        simp only [List.flatMap_cons] at hu
        rw [addr_add]
        by_cases hj : j < 6
        · rw [List.getElem?_append_left (by simpa [bcells] using hj)] at hu
          obtain ⟨a0, a1, a2, a3, a4⟩ := hn
          match j, hj with
          | 0, _ => simp [bcells] at hu; rw [← hu]; exact hs
          | 1, _ => simp [bcells] at hu; rw [← hu]; exact a0
          | 2, _ => simp [bcells] at hu; rw [← hu]; exact a1
          | 3, _ => simp [bcells] at hu; rw [← hu]; exact a2
          | 4, _ => simp [bcells] at hu; rw [← hu]; exact a3
          | 5, _ => simp [bcells] at hu; rw [← hu]; exact a4
        · rw [List.getElem?_append_right (by simp [bcells]; omega)] at hu
          have := h3 _ hp (j - (bcells (b, sv)).length) u hu
          rw [addr_add] at this
          rw [show o + (k * 6 + j) = o + ((k + 1) * 6 + (j - (bcells (b, sv)).length)) from by simp [bcells]; omega]
          exact this
  obtain ⟨p', c', he, _, _, hx⟩ := h
  cases he
  obtain ⟨L, h1, h2, h3⟩ := key l 0 (fun i hi => by rw [Nat.zero_add]; exact hx.1 i hi)
  exact ⟨L, h1, h2, fun b hb j u hu => by have := h3 b hb j u hu; simpa using this⟩
theorem bcells_plain {F : Nat → Prop} {w : World} {q : Bd × Value} (h : TrV F w q.1.t q.2) : ∀ u ∈ bcells q, u.oneCell' = true := by
  obtain ⟨p, c, e⟩ := h.kids.slice
  intro u hu
  simp only [bcells, List.mem_cons, List.not_mem_nil, or_false] at hu
  rcases hu with rfl | rfl | rfl | rfl | rfl | rfl
  all_goals first | rfl | (rw [e]; rfl)
end Go.Proofs.YtkieoghkjjkapaaGreatDoor
namespace Go.Proofs.YtkieoghkjjkapaaGreatDoor
open Go.RowKit
structure GoHyp (F : Nat → Prop) (p x : Tr) (l : List Bd) (w : World) (pv xv v : Value) : Prop where
  lt : Letters w
  fr : ∀ k, w.heap.size ≤ k → F k
  hp : TrV F w p pv
  hx : TrV F w x xv
  hl : Binds F w v l
  pat : p.pat = true
  chk : chkT x = 0
  chl : ∀ b ∈ l, chkT b.t = 0
  len : l.length + p.nn ≤ 1048576
theorem infoBind : (Tryz.prog.info? 70).map (fun i => (i.zero, i.size, i.bytes)) = some (some (.agg #[.string ⟨#[]⟩, .int .i8 0, .int .i64 0, .string ⟨#[]⟩, .string ⟨#[]⟩, .slice none 0 0]), 6, 88) := by kernel_rfl
theorem infoTerm : (Tryz.prog.info? 27).map (fun i => (i.zero, i.size, i.bytes)) = some (some (.agg #[.int .i8 0, .int .i64 0, .string ⟨#[]⟩, .string ⟨#[]⟩, .slice none 0 0]), 5, 72) := by kernel_rfl
theorem info_parts {T : TypeId} {z : Value} {s b : Nat} (h : (Tryz.prog.info? T).map (fun i => (i.zero, i.size, i.bytes)) = some (some z, s, b)) : ∃ i, Tryz.prog.info? T = some i ∧ i.zero = some z ∧ i.size = s ∧ i.bytes = b := by
  obtain ⟨i, hi, he⟩ := Option.map_eq_some_iff.1 h
  simp only [Prod.mk.injEq] at he
  exact ⟨i, hi, he.1, he.2.1, he.2.2⟩
end Go.Proofs.YtkieoghkjjkapaaGreatDoor
namespace Go.Proofs.YtkieoghkjjkapaaGreatDoor
open Go.RowKit
end Go.Proofs.YtkieoghkjjkapaaGreatDoor
namespace Go.Proofs.YtkieoghkjjkapaaGreatDoor
open Go.RowKit
theorem GoHyp.at {F : Nat → Prop} {p x : Tr} {l l' : List Bd} {w w4 : World} {pv xv v v2 pv2 xv2 : Value} (h : GoHyp F p x l w pv xv v) (hb : Below w.heap.size w w4) {k : Nat} (hk : k < p.l.length) (hkx : k < x.l.length) (hpl : Tr.pat.patl p.l = true)
    (hp : TrV F w4 p.l[k] pv2) (hx : TrV F w4 x.l[k] xv2) (hl : Binds F w4 v2 l') (hc : ∀ b ∈ l', chkT b.t = 0) (hn : l'.length + Tr.nn.nnl (p.l.drop k) ≤ l.length + Tr.nn.nnl p.l) : GoHyp F p.l[k] x.l[k] l' w4 pv2 xv2 v2 where
  lt := h.lt.under hb
  fr := fun k hk => h.fr k (by have := hb.size; omega)
  hp := hp
  hx := hx
  hl := hl
  pat := patl_mem hpl _ (List.getElem_mem hk)
  chk := chk_kids h.chk _ (List.getElem_mem hkx)
  chl := hc
  len := by
    have h1 := h.len
    rw [nn_eq] at h1
    rw [nnl_drop hk] at hn
    omega
end Go.Proofs.YtkieoghkjjkapaaGreatDoor
namespace Go.Proofs.YtkieoghkjjkapaaGreatDoor
open Go.RowKit
theorem GoHyp.under {F : Nat → Prop} {p x : Tr} {l : List Bd} {w W : World} {pv xv v : Value} (h : GoHyp F p x l w pv xv v) (hb : Below w.heap.size w W) : GoHyp F p x l W pv xv v :=
  ⟨h.lt.under hb, fun k hk => h.fr k (by have := hb.size; omega), h.hp.below hb, h.hx.below hb, h.hl.under hb, h.pat, h.chk, h.chl, h.len⟩
end Go.Proofs.YtkieoghkjjkapaaGreatDoor
namespace Go.Proofs.YtkieoghkjjkapaaGreatDoor
open Go.RowKit
end Go.Proofs.YtkieoghkjjkapaaGreatDoor
namespace Go.Proofs.YtkieoghkjjkapaaGreatDoor
open Go.RowKit
def sameB : List Bd → List Bd → Bool
  | [], [] => true
  | a :: r, b :: q => (a.s.toList == b.s.toList && a.t.same b.t) && sameB r q
  | _, _ => false
theorem sameB_drop {l m : List Bd} {k : Nat} (h1 : k < l.length) (h2 : k < m.length) : sameB (l.drop k) (m.drop k) = ((l[k].s.toList == m[k].s.toList && l[k].t.same m[k].t) && sameB (l.drop (k + 1)) (m.drop (k + 1))) := by
  rw [List.drop_eq_getElem_cons h1, List.drop_eq_getElem_cons h2, sameB]
theorem sameB_len : ∀ {l m : List Bd}, sameB l m = true → l.length = m.length
  | [], [], _ => rfl
  | a :: r, b :: q, h => by
    rw [sameB, Bool.and_eq_true] at h
    simp [sameB_len h.2]
  | [], _ :: _, h => by simp [sameB] at h
  | _ :: _, [], h => by simp [sameB] at h
set_option maxHeartbeats 4000000 in
set_option maxRecDepth 100000 in
theorem bsame_any {F G : Nat → Prop} {l m : List Bd} {w : World} {v u : Value} (hl : Binds F w v l) (hm : Binds G w u m) :
    Calls Tryz.prog 6 #[v, u] w fun e w' => e = .returned (.bool (sameB l m)) ∧ Below w.heap.size w w' := by
  have hlen : l.length ≤ 2199023255552 := hl.len
  have hlen2 : m.length ≤ 2199023255552 := hm.len
  obtain ⟨p, c, rfl⟩ := hl.slice
  obtain ⟨p2, c2, rfl⟩ := hm.slice
  have HL := Lib.hid hl
  have HM := Lib.hid hm
  clear hl hm
  cases e1 : ((l.length : Int) != (m.length : Int))
  rotate_left 1
  · have hs : sameB l m = false := by
      cases h : sameB l m
      · rfl
      · have := sameB_len h; simp at e1; omega
    have HS := Lib.hid hs
    clear hs
    go_enter Tryz.func6, Tryz.ntmps6
    go_wp2_with fail
    go_ret
    exact ⟨by rw [HS.out]; rfl, Below.refl _ _⟩
  have hll : l.length = m.length := by simp at e1; omega
  have HLL := Lib.hid hll
  clear hll
  go_enter Tryz.func6, Tryz.ntmps6
  go_wp2_with fail
  clear e1
  go_loopw [5] (fun i wr => ∃ k : Nat, k ≤ l.length ∧ i = .int .i64 k ∧ sameB (l.drop k) (m.drop k) = sameB l m ∧ Below w.heap.size w wr) (fun i _ => l.length - (intOf i).toNat)
  case atStart => exact ⟨0, Nat.zero_le _, rfl, rfl, Below.refl _ _⟩
  case round =>
    obtain ⟨k, hk, rfl, hrest, hbr⟩ := hrel
    by_cases hlt : k < l.length
    · have hlt2 : k < m.length := by have := HLL.out; omega
      obtain ⟨g, o, kv, rfl, _, hs0, hsz, hnode, hkid⟩ := (HL.out.under hbr).at hlt
      obtain ⟨g2, o2, kv2, rfl, _, hs2, hsz2, hnode2, hkid2⟩ := (HM.out.under hbr).at hlt2
      obtain ⟨p3, c3, rfl⟩ := hkid.kids.slice
      obtain ⟨p4, c4, rfl⟩ := hkid2.kids.slice
      rw [sameB_drop hlt hlt2] at hrest
      have hd : Below wr.heap.size wr wr.drew := below_drewN (Below.refl _ _) 1
      have cS := rsame_any l[k].t m[k].t wr.drew _ _ (hkid.below hd) (hkid2.below hd)
      clear hkid hkid2
      cases eS : (l[k].s.toList == m[k].s.toList)
      · rw [eS] at hrest
        have HR := Lib.hid (show sameB l m = false from hrest.symm)
        obtain ⟨a0, a1, a2, a3, a4⟩ := hnode
        obtain ⟨b0, b1, b2, b3, b4⟩ := hnode2
        clear hrest cS
        go_upto_region 6 with fail
        go_quiet (fail)
        go_wp2
        go_ret
        exact ⟨by rw [HR.out]; rfl, by first | exact hbr.drew | exact below_drewN hbr _⟩
      · rw [eS] at hrest
        have hS : ∀ W : World, Below wr.heap.size wr W → W.cell? ⟨g, o + k * 6, none⟩ = some (.string l[k].s) ∧ W.cell? ⟨g2, o2 + k * 6, none⟩ = some (.string m[k].s) ∧
            W.cell? ⟨g, o + k * 6 + 1, none⟩ = some (.int .i8 l[k].t.k) ∧ W.cell? ⟨g, o + k * 6 + 1 + 1, none⟩ = some (.int .i64 l[k].t.n) ∧ W.cell? ⟨g, o + k * 6 + 1 + 2, none⟩ = some (.string l[k].t.s) ∧ W.cell? ⟨g, o + k * 6 + 1 + 3, none⟩ = some (.string l[k].t.t) ∧ W.cell? ⟨g, o + k * 6 + 1 + 4, none⟩ = some (.slice p3 l[k].t.l.length c3) ∧
            W.cell? ⟨g2, o2 + k * 6 + 1, none⟩ = some (.int .i8 m[k].t.k) ∧ W.cell? ⟨g2, o2 + k * 6 + 1 + 1, none⟩ = some (.int .i64 m[k].t.n) ∧ W.cell? ⟨g2, o2 + k * 6 + 1 + 2, none⟩ = some (.string m[k].t.s) ∧ W.cell? ⟨g2, o2 + k * 6 + 1 + 3, none⟩ = some (.string m[k].t.t) ∧ W.cell? ⟨g2, o2 + k * 6 + 1 + 4, none⟩ = some (.slice p4 m[k].t.l.length c4) := by
          intro W hb
          obtain ⟨x0, x1, x2, x3, x4⟩ := hnode.keep (hb.block g hnode.lt)
          obtain ⟨y0, y1, y2, y3, y4⟩ := hnode2.keep (hb.block g2 hnode2.lt)
          exact ⟨(hb.cell (p := ⟨g, o + k * 6, none⟩) (cell_block hs0)).trans hs0, (hb.cell (p := ⟨g2, o2 + k * 6, none⟩) (cell_block hs2)).trans hs2, x0, x1, x2, x3, x4, y0, y1, y2, y3, y4⟩
        have hS0 := hS wr (Below.refl _ _)
        clear hs0 hs2 hnode hnode2
        generalize l[k].t.same m[k].t = ss at cS hrest
        have HR := Lib.hid hrest
        clear hrest
        go_upto_region 6 with fail
        go_region_held3 (fun W => W.cell? ⟨g, o + k * 6, none⟩ = some (.string l[k].s) ∧ W.cell? ⟨g2, o2 + k * 6, none⟩ = some (.string m[k].s) ∧
            W.cell? ⟨g, o + k * 6 + 1, none⟩ = some (.int .i8 l[k].t.k) ∧ W.cell? ⟨g, o + k * 6 + 1 + 1, none⟩ = some (.int .i64 l[k].t.n) ∧ W.cell? ⟨g, o + k * 6 + 1 + 2, none⟩ = some (.string l[k].t.s) ∧ W.cell? ⟨g, o + k * 6 + 1 + 3, none⟩ = some (.string l[k].t.t) ∧ W.cell? ⟨g, o + k * 6 + 1 + 4, none⟩ = some (.slice p3 l[k].t.l.length c3) ∧
            W.cell? ⟨g2, o2 + k * 6 + 1, none⟩ = some (.int .i8 m[k].t.k) ∧ W.cell? ⟨g2, o2 + k * 6 + 1 + 1, none⟩ = some (.int .i64 m[k].t.n) ∧ W.cell? ⟨g2, o2 + k * 6 + 1 + 2, none⟩ = some (.string m[k].t.s) ∧ W.cell? ⟨g2, o2 + k * 6 + 1 + 3, none⟩ = some (.string m[k].t.t) ∧ W.cell? ⟨g2, o2 + k * 6 + 1 + 4, none⟩ = some (.slice p4 m[k].t.l.length c4)) (first | exact hS0 | exact hS1) (first
          | (go_at_call 19; refine cS.mono ?_; rintro e w9 ⟨rfl, hb9⟩; have hS1 := hS _ (hd.trans (hb9.mono hd.size))))
        have hB9 := hbr.trans ((hd.trans (hb9.mono hd.size)).mono hbr.size)
        cases ss
        · have HF := Lib.hid (show sameB l m = false from HR.out.symm)
          go_wp2
          go_ret
          exact ⟨by rw [HF.out]; rfl, hB9⟩
        · have HF := Lib.hid (show sameB (l.drop (k + 1)) (m.drop (k + 1)) = sameB l m from HR.out)
          go_wp2
          go_roundw
          case rel => exact ⟨k + 1, hlt, by go_num, HF.out, hB9⟩
          case measure => simp [intOf]; omega
    · rw [List.drop_eq_nil_of_le (by omega), List.drop_eq_nil_of_le (by have := HLL.out; omega)] at hrest
      have HR := Lib.hid (show sameB l m = true from hrest.symm)
      clear hrest
      go_wp2
      go_ret
      exact ⟨by rw [HR.out]; rfl, hbr⟩
end Go.Proofs.YtkieoghkjjkapaaGreatDoor
namespace Go.Proofs.YtkieoghkjjkapaaGreatDoor
open Go.RowKit
end Go.Proofs.YtkieoghkjjkapaaGreatDoor
namespace Go.Proofs.YtkieoghkjjkapaaGreatDoor
open Go.RowKit
end Go.Proofs.YtkieoghkjjkapaaGreatDoor
namespace Go.Proofs.YtkieoghkjjkapaaGreatDoor
open Go.RowKit
end Go.Proofs.YtkieoghkjjkapaaGreatDoor
namespace Go.Proofs.YtkieoghkjjkapaaGreatDoor
open Go.RowKit
theorem Kids.cells {F : Nat → Prop} {w : World} {p : Option Addr} {n c : Nat} {l : List Tr} (h : Kids F w (.slice p n c) l) : ∃ L : List (Tr × Value), L.map (·.1) = l ∧ (∀ q ∈ L, TrV F w q.1 q.2) ∧ ∀ b, p = some b → ∀ j u, (L.flatMap tcells)[j]? = some u → w.cell? (b.add j) = some u := by
  have key : ∀ (m : List Tr) (k : Nat), (∀ i (h : i < m.length), ∃ g o sv, p = some ⟨g, o, none⟩ ∧ F g ∧ NodeAt w g (o + (k + i) * 5) m[i] sv ∧ TrV F w m[i] sv) → ∃ L : List (Tr × Value), L.map (·.1) = m ∧ (∀ q ∈ L, TrV F w q.1 q.2) ∧ ∀ b, p = some b → ∀ j u, (L.flatMap tcells)[j]? = some u → w.cell? (b.add (k * 5 + j)) = some u := by
    intro m
    induction m with
    | nil => exact fun k _ => ⟨[], rfl, fun q hq => absurd hq (by simp), fun b _ j u hu => by simp at hu⟩
    | cons x m ih =>
      intro k hk
      obtain ⟨L, h1, h2, h3⟩ := ih (k + 1) (fun i hi => by have := hk (i + 1) (by simpa using hi); rwa [show k + (i + 1) = k + 1 + i from by omega] at this)
      obtain ⟨g, o, sv, hp, _, hn, ht⟩ := hk 0 (by simp)
      refine ⟨(x, sv) :: L, by simp [h1], fun q hq => ?_, fun a ha j u hu => ?_⟩
      · rcases List.mem_cons.1 hq with rfl | hq
        · exact ht
        · exact h2 q hq
      · rw [hp] at ha
        cases ha
        simp only [Nat.add_zero, List.getElem_cons_zero] at hn
        simp only [List.flatMap_cons] at hu
        rw [addr_add]
        by_cases hj : j < 5
        · rw [List.getElem?_append_left (by simpa [tcells] using hj)] at hu
          obtain ⟨a0, a1, a2, a3, a4⟩ := hn
          match j, hj with
          | 0, _ => simp [tcells] at hu; rw [← hu]; exact a0
          | 1, _ => simp [tcells] at hu; rw [← hu]; exact a1
          | 2, _ => simp [tcells] at hu; rw [← hu]; exact a2
          | 3, _ => simp [tcells] at hu; rw [← hu]; exact a3
          | 4, _ => simp [tcells] at hu; rw [← hu]; exact a4
        · rw [List.getElem?_append_right (by simp [tcells]; omega)] at hu
          have := h3 _ hp (j - (tcells (x, sv)).length) u hu
          rw [addr_add] at this
          rw [show o + (k * 5 + j) = o + ((k + 1) * 5 + (j - (tcells (x, sv)).length)) from by simp [tcells]; omega]
          exact this
  obtain ⟨L, h1, h2, h3⟩ := key l 0 (fun i hi => by rw [Nat.zero_add]; exact h.at hi)
  exact ⟨L, h1, h2, fun b hb j u hu => by have := h3 b hb j u hu; simpa using this⟩
theorem row_under {w w' : World} {base : Nat} {e : TypeId} {size : Nat} {v : Value} {n : Nat} {xs : List Value} (h : w.ownsRow base e size v n xs) (hb : Below w.heap.size w w') : w'.ownsRow base e size v n xs := by
  obtain ⟨h1, h2⟩ := h
  refine ⟨h1, ?_⟩
  rcases h2 with h2 | ⟨g, cap, cur, hv, hg, hh, r⟩
  · exact .inl h2
  · exact .inr ⟨g, cap, cur, hv, hg, (hb.block g (Array.getElem?_eq_some_iff.1 hh).1).trans hh, r⟩
theorem row_base {w : World} {base : Nat} {e : TypeId} {size : Nat} {v : Value} {n : Nat} {xs : List Value} (h : w.ownsRow base e size v n xs) : ∀ j, v.ownBlock = some j → base ≤ j := by
  intro j hj
  rcases h.2 with ⟨rfl, _⟩ | ⟨g, cap, cur, rfl, hg, _⟩
  · cases hj
  · cases hj; exact hg
theorem row_shape {w : World} {base : Nat} {e : TypeId} {size : Nat} {v : Value} {n : Nat} {xs : List Value} (h : w.ownsRow base e size v n xs) : ∃ q c, v = .slice q n c := by
  rcases h.2 with ⟨rfl, h0⟩ | ⟨g, cap, cur, rfl, _⟩
  · exact ⟨none, 0, by rw [h0]⟩
  · exact ⟨_, cap, rfl⟩
end Go.Proofs.YtkieoghkjjkapaaGreatDoor
namespace Go.Proofs.YtkieoghkjjkapaaGreatDoor
open Go.RowKit
end Go.Proofs.YtkieoghkjjkapaaGreatDoor
namespace Go.Proofs.YtkieoghkjjkapaaGreatDoor
open Go.RowKit
end Go.Proofs.YtkieoghkjjkapaaGreatDoor
namespace Go.Proofs.YtkieoghkjjkapaaGreatDoor
open Go.RowKit
theorem same_self (x : Tr) : x.same x = true := by
  induction x using Tr.ind with
  | h x ih =>
    rw [same_eq]
    have key : ∀ l : List Tr, (∀ y ∈ l, y ∈ x.l) → Tr.same.samel l l = true := by
      intro l
      induction l with
      | nil => intro _; rfl
      | cons a r ihr => intro h; rw [Tr.same.samel, ih a (h a (by simp)), ihr fun y hy => h y (List.mem_cons_of_mem _ hy)]; rfl
    rw [key x.l fun _ h => h]
    simp
def Tr.ok : Tr → Bool
  | .mk k n s t l => oneB (.mk k n s t l) && okl l
where okl : List Tr → Bool
  | [] => true
  | x :: r => x.ok && okl r
end Go.Proofs.YtkieoghkjjkapaaGreatDoor
namespace Go.Proofs.YtkieoghkjjkapaaGreatDoor
open Go.RowKit
end Go.Proofs.YtkieoghkjjkapaaGreatDoor
namespace Go.Proofs.YtkieoghkjjkapaaGreatDoor
open Go.RowKit
def eS : ByteArray := ⟨#[]⟩
theorem wf_small (k n : Int) (s t : ByteArray) (l : List Tr) (h1 : (Lit.int .i8 k).wf = true) (h2 : (Lit.int .i64 n).wf = true) (h3 : s.size ≤ 64) (h4 : t.size ≤ 64) : NodeWf (.mk k n s t l) := ⟨h1, h2, by show s.size ≤ _; unfold BL; omega, by show t.size ≤ _; unfold BL; omega⟩
end Go.Proofs.YtkieoghkjjkapaaGreatDoor
namespace Go.Proofs.YtkieoghkjjkapaaGreatDoor
open Go.RowKit
end Go.Proofs.YtkieoghkjjkapaaGreatDoor
namespace Go.Proofs.YtkieoghkjjkapaaGreatDoor
open Go.ChangeShapes Go.WideShapes Go.ChangeAt Go.RowKit Go.Joins Go.Deep
section
variable {H : Type} {enc : TypeId × Value → H} {w : World}
end
end Go.Proofs.YtkieoghkjjkapaaGreatDoor
namespace Go.Proofs.YtkieoghkjjkapaaGreatDoor
open Go.ChangeShapes Go.WideShapes Go.ChangeAt Go.RowKit
theorem own : ownKnob Tryz.prog.godebug = none := by kernel_rfl
section
variable {H : Type} {enc : TypeId × Value → H} {W W' : World}
end
end Go.Proofs.YtkieoghkjjkapaaGreatDoor
namespace Go.Proofs.YtkieoghkjjkapaaGreatDoor
open Go.ChangeShapes Go.WideShapes Go.ChangeAt Go.RowKit Go.Joins Go.Deep
section
variable {H : Type} {enc : TypeId × Value → H} {w : World} {v : Value} {d : DataW H} {p : List MemPlace}
end
end Go.Proofs.YtkieoghkjjkapaaGreatDoor
namespace Go.Proofs.YtkieoghkjjkapaaGreatDoor
open Go.RowKit
theorem TrV.move {P P' : Nat → Prop} {w w' : World} {x : Tr} {v : Value} (h : TrV P w x v) (hk : ∀ g, P g → g < w.heap.size → w'.heap[g]? = w.heap[g]?) (hP : ∀ g, P g → g < w.heap.size → P' g) : TrV P' w' x v := by
  have h1 : Kids (fun g => P' g ∧ P g) w v x.l := h.kids.mono fun g hg hl => ⟨hP g hg hl, hg⟩
  have h2 : Kids (fun g => P' g ∧ P g) w' v x.l := h1.keep fun g hg hl => hk g hg.2 hl
  exact ⟨h.wf, h2.mono fun g hg _ => hg.1⟩
theorem TrV.mono {P P' : Nat → Prop} {w : World} {x : Tr} {v : Value} (h : TrV P w x v) (hP : ∀ g, P g → g < w.heap.size → P' g) : TrV P' w x v := ⟨h.wf, h.kids.mono hP⟩
def FlF (F : Nat → Prop) (S b : Nat) (sv : Value) (g : Nat) : Prop := ((F g ∧ g < S) ∨ b < g) ∧ sv.ownBlock ≠ some g
structure TRow (F : Nat → Prop) (S b : Nat) (T : TypeId) (w : World) (sv : Value) (L : List (Tr × Value)) : Prop where
  own : w.ownsRow (b + 1) T 5 sv L.length (L.flatMap tcells)
  at_ : ∀ q ∈ L, TrV (FlF F S b sv) w q.1 q.2
theorem row_keep {w w' : World} {base : Nat} {e : TypeId} {size : Nat} {v : Value} {n : Nat} {xs : List Value} (h : w.ownsRow base e size v n xs) (hk : ∀ g, base ≤ g → g < w.heap.size → w'.heap[g]? = w.heap[g]?) : w'.ownsRow base e size v n xs := by
  obtain ⟨h1, h2⟩ := h
  refine ⟨h1, ?_⟩
  rcases h2 with h2 | ⟨g, cap, cur, hv, hg, hh, r⟩
  · exact .inl h2
  · exact .inr ⟨g, cap, cur, hv, hg, (hk g hg (Array.getElem?_eq_some_iff.1 hh).1).trans hh, r⟩
theorem TRow.nil (F : Nat → Prop) (S b : Nat) (T : TypeId) (w : World) : TRow F S b T w (.slice none 0 0) [] := ⟨World.ownsRow_nil .., fun q hq => by simp at hq⟩
theorem TRow.keep {F : Nat → Prop} {S b : Nat} {T : TypeId} {w w' : World} {sv : Value} {L : List (Tr × Value)} (h : TRow F S b T w sv L) (hk : ∀ g, g < S ∨ b < g → g < w.heap.size → w'.heap[g]? = w.heap[g]?) : TRow F S b T w' sv L :=
  ⟨row_keep h.own fun g hg hl => hk g (.inr (by omega)) hl, fun q hq => (h.at_ q hq).move (fun g hg hl => hk g (hg.1.elim (fun h => .inl h.2) .inr) hl) fun g hg _ => hg⟩
theorem TRow.below {F : Nat → Prop} {S b : Nat} {T : TypeId} {w w' : World} {sv : Value} {L : List (Tr × Value)} (h : TRow F S b T w sv L) (hb : Below w.heap.size w w') : TRow F S b T w' sv L := h.keep fun g _ hl => hb.block g hl
theorem TRow.kids {F : Nat → Prop} {S b : Nat} {T : TypeId} {w : World} {sv : Value} {L : List (Tr × Value)} (h : TRow F S b T w sv L) (hF : ∀ k, S ≤ k → F k) (hS : S ≤ b + 1) (hl : L.length ≤ BL) : Kids F w sv (L.map (·.1)) :=
  kids_row h.own (fun k hk => hF k (by omega)) (fun q hq => (h.at_ q hq).mono fun g hg _ => hg.1.elim (fun h => h.1) fun h => hF g (by omega)) hl
theorem TRow.slice {F : Nat → Prop} {S b : Nat} {T : TypeId} {w : World} {sv : Value} {L : List (Tr × Value)} (h : TRow F S b T w sv L) : ∃ q c, sv = .slice q L.length c := row_shape h.own
end Go.Proofs.YtkieoghkjjkapaaGreatDoor
namespace Go.Proofs.YtkieoghkjjkapaaGreatDoor
open Go.RowKit
def row10 (Y : List (Tr × Value)) : Array Value := (Y.flatMap tcells ++ (List.replicate (2 - Y.length) (tcells (zeroT, .slice none 0 0))).flatten).toArray
theorem there_of {w : World} {b o n : Nat} {A : Array Value} {t : TypeId} (h : w.heap[b]? = some (.cells A t (0, 0))) (hn : o + n ≤ A.size) : w.there b o n := fun j hj => ⟨by rw [arr_cell h]; simp; omega, arr_free h⟩
theorem below_setCells {B b : Nat} (hB : B ≤ b) : ∀ (vs : List Value) (o : Nat) {a w : World}, Below B a w → Below B a (w.setCells b o vs)
  | [], _, _, _, h => h
  | v :: r, o, _, _, h => below_setCells hB r (o + 1) (h.setCell (p := ⟨b, o, none⟩) hB v)
theorem setCells_ne {b i : Nat} (h : i ≠ b) : ∀ (vs : List Value) (o : Nat) (w : World), (w.setCells b o vs).heap[i]? = w.heap[i]?
  | [], _, _ => rfl
  | _ :: r, o, _ => (setCells_ne h r (o + 1) _).trans (Below.heap_setCell _ _ _ _ (show i ≠ (⟨b, o, none⟩ : Addr).block from h))
end Go.Proofs.YtkieoghkjjkapaaGreatDoor
