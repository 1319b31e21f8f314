/-
  Trees (api.Term and api.Node have one shape) as they lie in memory. Names no function of the program. No condition.
  How great trees are: pleachref03.size, pleachref07.nodes. Conditions: the tree lies as 'TrV' says.
  Which trees and rows are too great; rows of trees. Conditions: the trees lie as 'TrV', 'Kids' say.
-/
import Derived.Test.YtdjafnjmkkagjaaGreatDoorRows
import Derived.WalkKit
import Derived.WalkSpells
import Derived.WalkLawsBesides
import Derived.WalkSmall
import Derived.Deep.QuietTactic
import Derived.BigQuiet
import Derived.Lib.Hide
import Derived.Deep.DeepFit
import Derived.Deep.DeepCutAuto
import Derived.Deep.LoopGhost
namespace Go.Proofs.YtdjafnjmkkagjaaGreatDoor
open Go.RowKit

/-- A tree: its kind, number, two texts, parts. -/
inductive Tr where
  | mk (k n : Int) (s t : ByteArray) (l : List Tr) : Tr

def Tr.k : Tr → Int | .mk k _ _ _ _ => k
def Tr.n : Tr → Int | .mk _ n _ _ _ => n
def Tr.s : Tr → ByteArray | .mk _ _ s _ _ => s
def Tr.t : Tr → ByteArray | .mk _ _ _ t _ => t
def Tr.l : Tr → List Tr | .mk _ _ _ _ l => l
theorem Tr.eta : ∀ x : Tr, Tr.mk x.k x.n x.s x.t x.l = x | .mk .. => rfl

/-- A number that is great enough for every length here. -/
def BL : Nat := 2199023255552

/-- A node's own fields are in their kinds' range. -/
structure NodeWf (x : Tr) : Prop where
  k : (Lit.int .i8 x.k).wf = true
  n : (Lit.int .i64 x.n).wf = true
  s : x.s.size ≤ BL * 64
  t : x.t.size ≤ BL * 64

/-- A node's five cells. -/
structure NodeAt (w : World) (g o : Nat) (x : Tr) (sv : Value) : Prop where
  k : w.cell? ⟨g, o, none⟩ = some (.int .i8 x.k)
  n : w.cell? ⟨g, o + 1, none⟩ = some (.int .i64 x.n)
  s : w.cell? ⟨g, o + 2, none⟩ = some (.string x.s)
  t : w.cell? ⟨g, o + 3, none⟩ = some (.string x.t)
  l : w.cell? ⟨g, o + 4, none⟩ = some sv

/-- A slice of trees, all of whose blocks are of F. -/
inductive Kids (F : Nat → Prop) (w : World) : Value → List Tr → Prop
  | mk (p : Option Addr) (c : Nat) (l : List Tr) (sv : Nat → Value) (hc : l.length ≤ c) (hb : l.length ≤ BL) (hwf : ∀ i (h : i < l.length), NodeWf l[i])
      (hcells : ∀ i (h : i < l.length), ∃ g o, p = some ⟨g, o, none⟩ ∧ F g ∧ NodeAt w g (o + i * 5) l[i] (sv i))
      (hk : ∀ i (h : i < l.length), Kids F w (sv i) l[i].l) : Kids F w (.slice p l.length c) l

theorem cell_block {w : World} {g o : Nat} {v : Value} (h : w.cell? ⟨g, o, none⟩ = some v) : g < w.heap.size := by
  unfold World.cell? at h
  cases hg : w.heap[g]? with
  | none => simp [hg] at h
  | some ob => exact (Array.getElem?_eq_some_iff.1 hg).1

theorem NodeAt.lt {w : World} {g o : Nat} {x : Tr} {sv : Value} (h : NodeAt w g o x sv) : g < w.heap.size := cell_block h.k
theorem NodeAt.keep {w w' : World} {g o : Nat} {x : Tr} {sv : Value} (h : NodeAt w g o x sv) (hb : w'.heap[g]? = w.heap[g]?) : NodeAt w' g o x sv :=
  ⟨(World.cell?_of_block (a := ⟨g, o, none⟩) hb).trans h.k, (World.cell?_of_block (a := ⟨g, o + 1, none⟩) hb).trans h.n, (World.cell?_of_block (a := ⟨g, o + 2, none⟩) hb).trans h.s, (World.cell?_of_block (a := ⟨g, o + 3, none⟩) hb).trans h.t, (World.cell?_of_block (a := ⟨g, o + 4, none⟩) hb).trans h.l⟩

theorem Kids.keep {F : Nat → Prop} {w w' : World} {v : Value} {l : List Tr} (h : Kids F w v l) (hb : ∀ g, F g → g < w.heap.size → w'.heap[g]? = w.heap[g]?) : Kids F w' v l := by
  induction h with
  | mk p c l sv hc hbl hwf hcells hk ih =>
    exact .mk p c l sv hc hbl hwf (fun i hi => by
      obtain ⟨g, o, hp, hF, hn⟩ := hcells i hi
      exact ⟨g, o, hp, hF, hn.keep (hb g hF hn.lt)⟩) ih
theorem Kids.under {F : Nat → Prop} {w w' : World} {v : Value} {l : List Tr} (h : Kids F w v l) (hb : Below w.heap.size w w') : Kids F w' v l := h.keep fun g _ hg => hb.block g hg
theorem Kids.mono {F F' : Nat → Prop} {w : World} {v : Value} {l : List Tr} (h : Kids F w v l) (hF : ∀ g, F g → g < w.heap.size → F' g) : Kids F' w v l := by
  induction h with
  | mk p c l sv hc hbl hwf hcells hk ih =>
    exact .mk p c l sv hc hbl hwf (fun i hi => by
      obtain ⟨g, o, hp, hF', hn⟩ := hcells i hi
      exact ⟨g, o, hp, hF g hF' hn.lt, hn⟩) ih
theorem Kids.nil (F : Nat → Prop) (w : World) : Kids F w (.slice none 0 0) [] :=
  .mk none 0 [] (fun _ => .slice none 0 0) (Nat.le_refl _) (Nat.zero_le _) (fun i hi => absurd hi (by simp)) (fun i hi => absurd hi (by simp)) (fun i hi => absurd hi (by simp))

/-- What a slice of trees gives, opened. -/
theorem Kids.open_ {F : Nat → Prop} {w : World} {v : Value} {l : List Tr} (h : Kids F w v l) : ∃ p c, v = .slice p l.length c ∧ l.length ≤ c ∧ l.length ≤ BL ∧
    ∀ i (h : i < l.length), ∃ g o sv, p = some ⟨g, o, none⟩ ∧ F g ∧ NodeAt w g (o + i * 5) l[i] sv ∧ NodeWf l[i] ∧ Kids F w sv l[i].l := by
  cases h with
  | mk p c l sv hc hbl hwf hcells hk =>
    refine ⟨p, c, rfl, hc, hbl, fun i hi => ?_⟩
    obtain ⟨g, o, hp, hF, hn⟩ := hcells i hi
    exact ⟨g, o, sv i, hp, hF, hn, hwf i hi, hk i hi⟩
theorem Kids.slice {F : Nat → Prop} {w : World} {v : Value} {l : List Tr} (h : Kids F w v l) : ∃ p c, v = .slice p l.length c := by
  obtain ⟨p, c, rfl, _⟩ := h.open_
  exact ⟨p, c, rfl⟩
theorem Kids.len {F : Nat → Prop} {w : World} {v : Value} {l : List Tr} (h : Kids F w v l) : l.length ≤ BL := by
  obtain ⟨p, c, rfl, _, h, _⟩ := h.open_
  exact h

/-- A tree as a value: its parts lie as 'Kids' says. -/
structure TrV (F : Nat → Prop) (w : World) (x : Tr) (sv : Value) : Prop where
  wf : NodeWf x
  kids : Kids F w sv x.l

theorem Kids.at {F : Nat → Prop} {w : World} {p : Option Addr} {n c : Nat} {l : List Tr} (h : Kids F w (.slice p n c) l) {i : Nat} (hi : i < l.length) : ∃ g o sv, p = some ⟨g, o, none⟩ ∧ F g ∧ NodeAt w g (o + i * 5) l[i] sv ∧ TrV F w l[i] sv := by
  obtain ⟨p', c', he, _, _, hx⟩ := h.open_
  cases he
  obtain ⟨g, o, sv, h1, h2, h3, h4, h5⟩ := hx i hi
  exact ⟨g, o, sv, h1, h2, h3, h4, h5⟩

theorem TrV.below {F : Nat → Prop} {w w' : World} {x : Tr} {sv : Value} (h : TrV F w x sv) (hb : Below w.heap.size w w') : TrV F w' x sv := ⟨h.wf, h.kids.under hb⟩

theorem bcell {W w1 : World} {B : Nat} (hb : Below B W w1) : (∀ b o, b < B → w1.cell? ⟨b, o, none⟩ = W.cell? ⟨b, o, none⟩) ∧ (∀ b o, b < B → w1.frozen? ⟨b, o, none⟩ = W.frozen? ⟨b, o, none⟩) :=
  ⟨fun b o h => hb.cell (p := ⟨b, o, none⟩) h, fun b o h => hb.frozen (p := ⟨b, o, none⟩) h⟩

/-- Induction on the tree's height, for contracts. -/
def Tr.h : Tr → Nat
  | .mk _ _ _ _ l => hl l + 1
where hl : List Tr → Nat
  | [] => 0
  | x :: r => max x.h (hl r)
theorem Tr.h_mem {x : Tr} : ∀ {l : List Tr}, x ∈ l → x.h ≤ Tr.h.hl l
  | y :: r, hx => by
    rcases List.mem_cons.1 hx with rfl | hx
    · simp only [Tr.h.hl]; omega
    · have := Tr.h_mem hx; simp only [Tr.h.hl]; omega
theorem Tr.h_kid {x y : Tr} (h : y ∈ x.l) : y.h < x.h := by
  cases x with
  | mk k n s t l =>
    have := Tr.h_mem (show y ∈ l from h)
    show _ < Tr.h.hl l + 1
    omega
theorem Tr.ind {P : Tr → Prop} (h : ∀ x, (∀ y ∈ x.l, P y) → P x) : ∀ x, P x := by
  have : ∀ n (x : Tr), x.h < n → P x := by
    intro n
    induction n with
    | zero => exact fun x hx => absurd hx (Nat.not_lt_zero _)
    | succ n ih => exact fun x hx => h x fun y hy => ih y (by have := Tr.h_kid hy; omega)
  exact fun x => this (x.h + 1) x (Nat.lt_succ_self _)

/-- How many nodes a tree has, at most so many. -/
def Tr.sz : Tr → Int → Int
  | .mk _ _ _ _ l, m => szl l m 1
where szl : List Tr → Int → Int → Int
  | [], _, n => n
  | x :: r, m, n => if n < m then szl r m (n + x.sz (m - n)) else n
theorem szl_stop (l : List Tr) {m n : Int} (h : m ≤ n) : Tr.sz.szl l m n = n := by
  cases l with
  | nil => rfl
  | cons x r => rw [Tr.sz.szl, if_neg (by omega)]
theorem sz_bound (x : Tr) : ∀ m : Int, 1 ≤ m → 1 ≤ x.sz m ∧ x.sz m ≤ m := by
  induction x using Tr.ind with
  | h x ih =>
    intro m hm
    cases x with
    | mk k n s t l =>
      have key : ∀ (r : List Tr), (∀ y ∈ r, y ∈ l) → ∀ a : Int, 1 ≤ a → a ≤ m → a ≤ Tr.sz.szl r m a ∧ Tr.sz.szl r m a ≤ m := by
        intro r
        induction r with
        | nil => exact fun _ a _ h => ⟨Int.le_refl _, h⟩
        | cons y r ihr =>
          intro hr a h1 h2
          rw [Tr.sz.szl]
          split
          · have h3 := ih y (hr y (by simp)) (m - a) (by omega)
            have h4 := ihr (fun z hz => hr z (List.mem_cons_of_mem _ hz)) (a + y.sz (m - a)) (by omega) (by omega)
            omega
          · omega
      exact key l (fun _ h => h) 1 (Int.le_refl _) hm
end Go.Proofs.YtdjafnjmkkagjaaGreatDoor
namespace Go.Proofs.YtdjafnjmkkagjaaGreatDoor
open Go.RowKit

theorem szl_take {l : List Tr} {k : Nat} {m a : Int} (hk : k < l.length) (ha : a < m) : Tr.sz.szl (l.drop k) m a = Tr.sz.szl (l.drop (k + 1)) m (a + l[k].sz (m - a)) := by
  rw [List.drop_eq_getElem_cons hk, Tr.sz.szl, if_pos ha]

/-- A node's box. -/
theorem node_box (w : World) (T : TypeId) (k n : Int) (s t : ByteArray) (sv : Value) :
    Below w.heap.size w (w.alloc (.cells #[.int .i8 k, .int .i64 n, .string s, .string t, sv] T)) ∧ (w.alloc (.cells #[.int .i8 k, .int .i64 n, .string s, .string t, sv] T)).heap.size = w.heap.size + 1 ∧
      NodeAt (w.alloc (.cells #[.int .i8 k, .int .i64 n, .string s, .string t, sv] T)) w.heap.size 0 (.mk k n s t []) sv := by
  refine ⟨(Below.refl _ _).alloc (Nat.le_refl _) _, by simp, ?_, ?_, ?_, ?_, ?_⟩ <;> (rw [World.cell?_alloc_at _ _ _ _ (by simp)]; rfl)

/-- A loop over a tree's parts that counts. -/
def SzRel (x : Tr) (m : Int) (w1 : World) (n i : Value) (wr : World) : Prop :=
  ∃ k : Nat, k ≤ x.l.length ∧ i = .int .i64 k ∧ ∃ a : Int, n = .int .i64 a ∧ 1 ≤ a ∧ a ≤ m ∧ Tr.sz.szl (x.l.drop k) m a = x.sz m ∧ Below w1.heap.size w1 wr

set_option maxHeartbeats 1000000 in
set_option maxRecDepth 100000 in
theorem size_any {F : Nat → Prop} (x : Tr) : ∀ (w : World) (sv : Value) (m : Int), TrV F w x sv → 1 ≤ m → m ≤ 1099511627776 →
    Calls Tryz.prog 40 #[.agg #[.int .i8 x.k, .int .i64 x.n, .string x.s, .string x.t, sv], .int .i64 m] w fun e w' => e = .returned (.int .i64 (x.sz m)) ∧ Below w.heap.size w w' := by
  induction x using Tr.ind with
  | h x ih =>
    intro w sv m hx hm hm2
    obtain ⟨p, c, rfl⟩ := hx.kids.slice
    obtain ⟨hb1, hz1, hn1⟩ := node_box w 25 x.k x.n x.s x.t (.slice p x.l.length c)
    have hx1 := hx.below hb1
    have hlen := hx.kids.len
    have hlen' : x.l.length ≤ 2199023255552 := hlen
    have h4 := hn1.l
    have hrel0 : x.sz m = Tr.sz.szl x.l m 1 := by cases x; rfl
    have IH := Lib.hid ih
    have HR := Lib.hid hrel0
    clear hn1 ih hrel0 hx hlen
    go_enter Tryz.func40, Tryz.ntmps40
    go_wp2
    generalize w.alloc (.cells #[.int .i8 x.k, .int .i64 x.n, .string x.s, .string x.t, .slice p x.l.length c] 25) = w1 at hb1 hz1 h4 hx1 ⊢
    go_loopw [5, 6] (fun n i wr => SzRel x m w1 n i wr) (fun _ i _ => x.l.length - (intOf i).toNat)
    case atStart => exact ⟨0, Nat.zero_le _, rfl, 1, rfl, Int.le_refl _, hm, HR.out.symm, Below.refl _ _⟩
    case round =>
      obtain ⟨k, hk, rfl, a, rfl, ha1, ha2, hrest, hbr⟩ := hrel
      have hxr := hx1.below hbr
      have hbw := hb1.trans (hbr.mono (by omega))
      have h4r := (hbr.cell (p := ⟨w.heap.size, 0 + 4, none⟩) (by show w.heap.size < _; omega)).trans h4
      simp only [Nat.zero_add] at h4r
      by_cases hlt : k < x.l.length
      · by_cases ham : a < m
        · obtain ⟨g, o, kv, rfl, hg, hnode, hkid⟩ := hxr.kids.at hlt
          have cK := fun W hb => IH.out x.l[k] (List.getElem_mem hlt) W kv (m - a) (hkid.below (w' := W) hb) (by omega) (by omega)
          have hszk := sz_bound x.l[k] (m - a) (by omega)
          have hnext := szl_take hlt ham
          obtain ⟨e0, e1, e2, e3, e4⟩ := hnode
          generalize x.l[k] = y at *
          have HN := Lib.hid (hnext.symm.trans hrest)
          clear hnext hrest hkid hxr h4 hx1
          go_wp2_with (go_at_call 40; refine (cK _ (Below.refl _ _)).mono ?_; rintro e w2 ⟨rfl, hb2⟩)
          go_roundw
          case rel => exact ⟨k + 1, hlt, by go_num, _, rfl, by omega, by omega, HN.out, hbr.trans (hb2.mono hbr.size)⟩
          case measure => simp [intOf]; omega
        · rw [szl_stop _ (by omega)] at hrest
          subst hrest
          clear h4 hx1 hxr
          go_wp2
          go_ret
          exact ⟨rfl, hbw⟩
      · rw [List.drop_eq_nil_of_le (by omega), Tr.sz.szl] at hrest
        subst hrest
        clear h4 hx1 hxr
        by_cases ham : x.sz m < m
        all_goals
          go_wp2
          go_ret
          exact ⟨rfl, hbw⟩
set_option maxHeartbeats 1000000 in
set_option maxRecDepth 100000 in
theorem nodes_any {F : Nat → Prop} (x : Tr) : ∀ (w : World) (sv : Value) (m : Int), TrV F w x sv → 1 ≤ m → m ≤ 1099511627776 →
    Calls Tryz.prog 58 #[.agg #[.int .i8 x.k, .int .i64 x.n, .string x.s, .string x.t, sv], .int .i64 m] w fun e w' => e = .returned (.int .i64 (x.sz m)) ∧ Below w.heap.size w w' := by
  induction x using Tr.ind with
  | h x ih =>
    intro w sv m hx hm hm2
    obtain ⟨p, c, rfl⟩ := hx.kids.slice
    obtain ⟨hb1, hz1, hn1⟩ := node_box w 57 x.k x.n x.s x.t (.slice p x.l.length c)
    have hx1 := hx.below hb1
    have hlen := hx.kids.len
    have hlen' : x.l.length ≤ 2199023255552 := hlen
    have h4 := hn1.l
    have hrel0 : x.sz m = Tr.sz.szl x.l m 1 := by cases x; rfl
    have IH := Lib.hid ih
    have HR := Lib.hid hrel0
    clear hn1 ih hrel0 hx hlen
    go_enter Tryz.func58, Tryz.ntmps58
    go_wp2
    generalize w.alloc (.cells #[.int .i8 x.k, .int .i64 x.n, .string x.s, .string x.t, .slice p x.l.length c] 57) = w1 at hb1 hz1 h4 hx1 ⊢
    go_loopw [5, 6] (fun n i wr => SzRel x m w1 n i wr) (fun _ i _ => x.l.length - (intOf i).toNat)
    case atStart => exact ⟨0, Nat.zero_le _, rfl, 1, rfl, Int.le_refl _, hm, HR.out.symm, Below.refl _ _⟩
    case round =>
      obtain ⟨k, hk, rfl, a, rfl, ha1, ha2, hrest, hbr⟩ := hrel
      have hxr := hx1.below hbr
      have hbw := hb1.trans (hbr.mono (by omega))
      have h4r := (hbr.cell (p := ⟨w.heap.size, 0 + 4, none⟩) (by show w.heap.size < _; omega)).trans h4
      simp only [Nat.zero_add] at h4r
      by_cases hlt : k < x.l.length
      · by_cases ham : a < m
        · obtain ⟨g, o, kv, rfl, hg, hnode, hkid⟩ := hxr.kids.at hlt
          have cK := fun W hb => IH.out x.l[k] (List.getElem_mem hlt) W kv (m - a) (hkid.below (w' := W) hb) (by omega) (by omega)
          have hszk := sz_bound x.l[k] (m - a) (by omega)
          have hnext := szl_take hlt ham
          obtain ⟨e0, e1, e2, e3, e4⟩ := hnode
          generalize x.l[k] = y at *
          have HN := Lib.hid (hnext.symm.trans hrest)
          clear hnext hrest hkid hxr h4 hx1
          go_wp2_with (go_at_call 58; refine (cK _ (Below.refl _ _)).mono ?_; rintro e w2 ⟨rfl, hb2⟩)
          go_roundw
          case rel => exact ⟨k + 1, hlt, by go_num, _, rfl, by omega, by omega, HN.out, hbr.trans (hb2.mono hbr.size)⟩
          case measure => simp [intOf]; omega
        · rw [szl_stop _ (by omega)] at hrest
          subst hrest
          clear h4 hx1 hxr
          go_wp2
          go_ret
          exact ⟨rfl, hbw⟩
      · rw [List.drop_eq_nil_of_le (by omega), Tr.sz.szl] at hrest
        subst hrest
        clear h4 hx1 hxr
        by_cases ham : x.sz m < m
        all_goals
          go_wp2
          go_ret
          exact ⟨rfl, hbw⟩
/-- How deep a tree is, at most so deep. -/
def Tr.dp : Tr → Int → Int
  | .mk _ _ _ _ l, m => if 1 < m then dpl l m 1 else 1
where dpl : List Tr → Int → Int → Int
  | [], _, n => n
  | x :: r, m, n => dpl r m (max n (1 + x.dp (m - 1)))
theorem dpl_take {l : List Tr} {k : Nat} {m a : Int} (hk : k < l.length) : Tr.dp.dpl (l.drop k) m a = Tr.dp.dpl (l.drop (k + 1)) m (max a (1 + l[k].dp (m - 1))) := by
  rw [List.drop_eq_getElem_cons hk, Tr.dp.dpl]
theorem dp_bound (x : Tr) : ∀ m : Int, 1 ≤ m → 1 ≤ x.dp m ∧ x.dp m ≤ m := by
  induction x using Tr.ind with
  | h x ih =>
    intro m hm
    cases x with
    | mk k n s t l =>
      rw [Tr.dp]
      split
      · have key : ∀ (r : List Tr), (∀ y ∈ r, y ∈ l) → ∀ a : Int, 1 ≤ a → a ≤ m → a ≤ Tr.dp.dpl r m a ∧ Tr.dp.dpl r m a ≤ m := by
          intro r
          induction r with
          | nil => exact fun _ a _ h => ⟨Int.le_refl _, h⟩
          | cons y r ihr =>
            intro hr a h1 h2
            rw [Tr.dp.dpl]
            have h3 := ih y (hr y (by simp)) (m - 1) (by omega)
            have h4 := ihr (fun z hz => hr z (List.mem_cons_of_mem _ hz)) (max a (1 + y.dp (m - 1))) (by omega) (by omega)
            omega
        exact key l (fun _ h => h) 1 (Int.le_refl _) hm
      · omega
theorem dpl_bound {l : List Tr} {m : Int} (hm : 1 < m) : ∀ a : Int, 1 ≤ a → a ≤ m → a ≤ Tr.dp.dpl l m a ∧ Tr.dp.dpl l m a ≤ m := by
  induction l with
  | nil => exact fun a _ h => ⟨Int.le_refl _, h⟩
  | cons y r ih =>
    intro a h1 h2
    rw [Tr.dp.dpl]
    have h3 := dp_bound y (m - 1) (by omega)
    have h4 := ih (max a (1 + y.dp (m - 1))) (by omega) (by omega)
    omega

def DpRel (x : Tr) (m : Int) (w1 : World) (n i : Value) (wr : World) : Prop :=
  ∃ k : Nat, k ≤ x.l.length ∧ i = .int .i64 k ∧ ∃ a : Int, n = .int .i64 a ∧ 1 ≤ a ∧ a ≤ m ∧ (if 1 < m then Tr.dp.dpl (x.l.drop k) m a else a) = x.dp m ∧ Below w1.heap.size w1 wr

end Go.Proofs.YtdjafnjmkkagjaaGreatDoor
namespace Go.Proofs.YtdjafnjmkkagjaaGreatDoor
open Go.RowKit

theorem alloc_below (w : World) (o : Obj) : Below w.heap.size w (w.alloc o) := (Below.refl _ _).alloc (Nat.le_refl _) _

set_option maxHeartbeats 400000 in
theorem greatT_any {F : Nat → Prop} {x : Tr} {w : World} {sv : Value} (hx : TrV F w x sv) :
    Calls Tryz.prog 11 #[.agg #[.int .i8 x.k, .int .i64 x.n, .string x.s, .string x.t, sv]] w fun e w' => e = .returned (.bool (decide (1024 ≤ x.sz 1024))) ∧ Below w.heap.size w w' := by
  obtain ⟨p, c, rfl⟩ := hx.kids.slice
  have cK := fun W hb => size_any x W _ 1024 (hx.below (w' := W) hb) (by omega) (by omega)
  clear hx
  go_enter Tryz.func11, Tryz.ntmps11
  go_wp2_with (go_at_call 40; refine (cK _ (alloc_below _ _)).mono ?_; rintro e w2 ⟨rfl, hb2⟩)
  go_ret
  exact ⟨rfl, (alloc_below _ _).trans (hb2.mono (by simp))⟩
set_option maxHeartbeats 400000 in
theorem greatN_any {F : Nat → Prop} {x : Tr} {w : World} {sv : Value} (hx : TrV F w x sv) :
    Calls Tryz.prog 26 #[.agg #[.int .i8 x.k, .int .i64 x.n, .string x.s, .string x.t, sv]] w fun e w' => e = .returned (.bool (decide (8192 ≤ x.sz 8192))) ∧ Below w.heap.size w w' := by
  obtain ⟨p, c, rfl⟩ := hx.kids.slice
  have cK := fun W hb => nodes_any x W _ 8192 (hx.below (w' := W) hb) (by omega) (by omega)
  clear hx
  go_enter Tryz.func26, Tryz.ntmps26
  go_wp2_with (go_at_call 58; refine (cK _ (alloc_below _ _)).mono ?_; rintro e w2 ⟨rfl, hb2⟩)
  go_ret
  exact ⟨rfl, (alloc_below _ _).trans (hb2.mono (by simp))⟩

/-- The count of a row's nodes, at most about so many. -/
def gall : List Tr → Int → Int
  | [], n => n
  | x :: r, n => if n < 4000 then gall r (n + x.sz 4000) else n
theorem gall_stop (l : List Tr) {n : Int} (h : 4000 ≤ n) : gall l n = n := by
  cases l with
  | nil => rfl
  | cons x r => rw [gall, if_neg (by omega)]
theorem gall_take {l : List Tr} {k : Nat} {a : Int} (hk : k < l.length) (ha : a < 4000) : gall (l.drop k) a = gall (l.drop (k + 1)) (a + l[k].sz 4000) := by
  rw [List.drop_eq_getElem_cons hk, gall, if_pos ha]
set_option maxHeartbeats 1000000 in
set_option maxRecDepth 100000 in
theorem greatAll_any {F : Nat → Prop} {l : List Tr} {w : World} {v : Value} (hx : Kids F w v l) :
    Calls Tryz.prog 84 #[v] w fun e w' => e = .returned (.bool (decide (4000 ≤ gall l l.length))) ∧ Below w.heap.size w w' := by
  obtain ⟨p, c, rfl⟩ := hx.slice
  have hlen : l.length ≤ 2199023255552 := hx.len
  have HX := Lib.hid hx
  clear hx
  go_enter Tryz.func84, Tryz.ntmps84
  go_wp2
  go_loopw [3, 4] (fun n i wr => ∃ k : Nat, k ≤ l.length ∧ i = .int .i64 k ∧ ∃ a : Int, n = .int .i64 a ∧ 0 ≤ a ∧ a ≤ 2199023255552 + 4000 ∧ gall (l.drop k) a = gall l l.length ∧ Below w.heap.size w wr) (fun _ i _ => l.length - (intOf i).toNat)
  case atStart => exact ⟨0, Nat.zero_le _, rfl, _, rfl, by omega, by omega, by simp, Below.refl _ _⟩
  case round =>
    obtain ⟨k, hk, rfl, a, rfl, ha1, ha2, hrest, hbr⟩ := hrel
    have hxr := HX.out.under hbr
    by_cases hlt : k < l.length
    · by_cases ham : a < 4000
      · obtain ⟨g, o, kv, rfl, hg, hnode, hkid⟩ := hxr.at hlt
        have cK := fun W hb => size_any l[k] W kv 4000 (hkid.below (w' := W) hb) (by omega) (by omega)
        have hszk := sz_bound l[k] 4000 (by omega)
        have hnext := gall_take hlt ham
        obtain ⟨e0, e1, e2, e3, e4⟩ := hnode
        generalize l[k] = y at *
        have HN := Lib.hid (hnext.symm.trans hrest)
        clear hnext hrest hkid hxr
        go_wp2_with (go_at_call 40; refine (cK _ (Below.refl _ _)).mono ?_; rintro e w2 ⟨rfl, hb2⟩)
        go_roundw
        case rel => exact ⟨k + 1, hlt, by go_num, _, rfl, by omega, by omega, HN.out, hbr.trans (hb2.mono hbr.size)⟩
        case measure => simp [intOf]; omega
      · rw [gall_stop _ (by omega)] at hrest
        subst hrest
        clear hxr
        go_wp2
        go_ret
        exact ⟨rfl, hbr⟩
    · rw [List.drop_eq_nil_of_le (by omega), gall] at hrest
      subst hrest
      clear hxr
      by_cases ham : gall l l.length < 4000
      all_goals
        go_wp2
        go_ret
        exact ⟨rfl, hbr⟩
end Go.Proofs.YtdjafnjmkkagjaaGreatDoor
