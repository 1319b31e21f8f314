/-
  Trees (api.Term and api.Node have one shape) as they lie in memory. Names no function of the program. No condition.
-/
import Derived.Test.YtjnmdbfijdnaiaaGreatDoorRows
import Derived.WalkKit
import Derived.WalkSpells
import Derived.WalkLawsBesides
import Derived.WalkSmall
import Derived.Deep.QuietTactic
import Derived.BigQuiet
import Derived.Lib.Hide
import Derived.Deep.DeepFit
import Derived.Deep.DeepCutAuto
import Derived.Deep.LoopGhost
namespace Go.Proofs.YtjnmdbfijdnaiaaGreatDoor
open Go.RowKit

/-- A tree: its kind, number, two texts, parts. -/
inductive Tr where
  | mk (k n : Int) (s t : ByteArray) (l : List Tr) : Tr

def Tr.k : Tr → Int | .mk k _ _ _ _ => k
def Tr.n : Tr → Int | .mk _ n _ _ _ => n
def Tr.s : Tr → ByteArray | .mk _ _ s _ _ => s
def Tr.t : Tr → ByteArray | .mk _ _ _ t _ => t
def Tr.l : Tr → List Tr | .mk _ _ _ _ l => l
theorem Tr.eta : ∀ x : Tr, Tr.mk x.k x.n x.s x.t x.l = x | .mk .. => rfl

/-- A number that is great enough for every length here. -/
def BL : Nat := 2199023255552

/-- A node's own fields are in their kinds' range. -/
structure NodeWf (x : Tr) : Prop where
  k : (Lit.int .i8 x.k).wf = true
  n : (Lit.int .i64 x.n).wf = true
  s : x.s.size ≤ BL * 64
  t : x.t.size ≤ BL * 64

/-- A node's five cells. -/
structure NodeAt (w : World) (g o : Nat) (x : Tr) (sv : Value) : Prop where
  k : w.cell? ⟨g, o, none⟩ = some (.int .i8 x.k)
  n : w.cell? ⟨g, o + 1, none⟩ = some (.int .i64 x.n)
  s : w.cell? ⟨g, o + 2, none⟩ = some (.string x.s)
  t : w.cell? ⟨g, o + 3, none⟩ = some (.string x.t)
  l : w.cell? ⟨g, o + 4, none⟩ = some sv

/-- A slice of trees, all of whose blocks are of F. -/
inductive Kids (F : Nat → Prop) (w : World) : Value → List Tr → Prop
  | mk (p : Option Addr) (c : Nat) (l : List Tr) (sv : Nat → Value) (hc : l.length ≤ c) (hb : l.length ≤ BL) (hwf : ∀ i (h : i < l.length), NodeWf l[i])
      (hcells : ∀ i (h : i < l.length), ∃ g o, p = some ⟨g, o, none⟩ ∧ F g ∧ NodeAt w g (o + i * 5) l[i] (sv i))
      (hk : ∀ i (h : i < l.length), Kids F w (sv i) l[i].l) : Kids F w (.slice p l.length c) l

theorem cell_block {w : World} {g o : Nat} {v : Value} (h : w.cell? ⟨g, o, none⟩ = some v) : g < w.heap.size := by
  unfold World.cell? at h
  cases hg : w.heap[g]? with
  | none => simp [hg] at h
  | some ob => exact (Array.getElem?_eq_some_iff.1 hg).1

theorem NodeAt.lt {w : World} {g o : Nat} {x : Tr} {sv : Value} (h : NodeAt w g o x sv) : g < w.heap.size := cell_block h.k
theorem NodeAt.keep {w w' : World} {g o : Nat} {x : Tr} {sv : Value} (h : NodeAt w g o x sv) (hb : w'.heap[g]? = w.heap[g]?) : NodeAt w' g o x sv :=
  ⟨(World.cell?_of_block (a := ⟨g, o, none⟩) hb).trans h.k, (World.cell?_of_block (a := ⟨g, o + 1, none⟩) hb).trans h.n, (World.cell?_of_block (a := ⟨g, o + 2, none⟩) hb).trans h.s, (World.cell?_of_block (a := ⟨g, o + 3, none⟩) hb).trans h.t, (World.cell?_of_block (a := ⟨g, o + 4, none⟩) hb).trans h.l⟩

theorem Kids.keep {F : Nat → Prop} {w w' : World} {v : Value} {l : List Tr} (h : Kids F w v l) (hb : ∀ g, F g → g < w.heap.size → w'.heap[g]? = w.heap[g]?) : Kids F w' v l := by
  induction h with
  | mk p c l sv hc hbl hwf hcells hk ih =>
    exact .mk p c l sv hc hbl hwf (fun i hi => by
      obtain ⟨g, o, hp, hF, hn⟩ := hcells i hi
      exact ⟨g, o, hp, hF, hn.keep (hb g hF hn.lt)⟩) ih
theorem Kids.under {F : Nat → Prop} {w w' : World} {v : Value} {l : List Tr} (h : Kids F w v l) (hb : Below w.heap.size w w') : Kids F w' v l := h.keep fun g _ hg => hb.block g hg
theorem Kids.mono {F F' : Nat → Prop} {w : World} {v : Value} {l : List Tr} (h : Kids F w v l) (hF : ∀ g, F g → g < w.heap.size → F' g) : Kids F' w v l := by
  induction h with
  | mk p c l sv hc hbl hwf hcells hk ih =>
    exact .mk p c l sv hc hbl hwf (fun i hi => by
      obtain ⟨g, o, hp, hF', hn⟩ := hcells i hi
      exact ⟨g, o, hp, hF g hF' hn.lt, hn⟩) ih
theorem Kids.nil (F : Nat → Prop) (w : World) : Kids F w (.slice none 0 0) [] :=
  .mk none 0 [] (fun _ => .slice none 0 0) (Nat.le_refl _) (Nat.zero_le _) (fun i hi => absurd hi (by simp)) (fun i hi => absurd hi (by simp)) (fun i hi => absurd hi (by simp))

/-- What a slice of trees gives, opened. -/
theorem Kids.open_ {F : Nat → Prop} {w : World} {v : Value} {l : List Tr} (h : Kids F w v l) : ∃ p c, v = .slice p l.length c ∧ l.length ≤ c ∧ l.length ≤ BL ∧
    ∀ i (h : i < l.length), ∃ g o sv, p = some ⟨g, o, none⟩ ∧ F g ∧ NodeAt w g (o + i * 5) l[i] sv ∧ NodeWf l[i] ∧ Kids F w sv l[i].l := by
  cases h with
  | mk p c l sv hc hbl hwf hcells hk =>
    refine ⟨p, c, rfl, hc, hbl, fun i hi => ?_⟩
    obtain ⟨g, o, hp, hF, hn⟩ := hcells i hi
    exact ⟨g, o, sv i, hp, hF, hn, hwf i hi, hk i hi⟩
theorem Kids.slice {F : Nat → Prop} {w : World} {v : Value} {l : List Tr} (h : Kids F w v l) : ∃ p c, v = .slice p l.length c := by
  obtain ⟨p, c, rfl, _⟩ := h.open_
  exact ⟨p, c, rfl⟩
theorem Kids.len {F : Nat → Prop} {w : World} {v : Value} {l : List Tr} (h : Kids F w v l) : l.length ≤ BL := by
  obtain ⟨p, c, rfl, _, h, _⟩ := h.open_
  exact h

/-- A tree as a value: its parts lie as 'Kids' says. -/
structure TrV (F : Nat → Prop) (w : World) (x : Tr) (sv : Value) : Prop where
  wf : NodeWf x
  kids : Kids F w sv x.l

theorem Kids.at {F : Nat → Prop} {w : World} {p : Option Addr} {n c : Nat} {l : List Tr} (h : Kids F w (.slice p n c) l) {i : Nat} (hi : i < l.length) : ∃ g o sv, p = some ⟨g, o, none⟩ ∧ F g ∧ NodeAt w g (o + i * 5) l[i] sv ∧ TrV F w l[i] sv := by
  obtain ⟨p', c', he, _, _, hx⟩ := h.open_
  cases he
  obtain ⟨g, o, sv, h1, h2, h3, h4, h5⟩ := hx i hi
  exact ⟨g, o, sv, h1, h2, h3, h4, h5⟩

theorem TrV.below {F : Nat → Prop} {w w' : World} {x : Tr} {sv : Value} (h : TrV F w x sv) (hb : Below w.heap.size w w') : TrV F w' x sv := ⟨h.wf, h.kids.under hb⟩

theorem bcell {W w1 : World} {B : Nat} (hb : Below B W w1) : (∀ b o, b < B → w1.cell? ⟨b, o, none⟩ = W.cell? ⟨b, o, none⟩) ∧ (∀ b o, b < B → w1.frozen? ⟨b, o, none⟩ = W.frozen? ⟨b, o, none⟩) :=
  ⟨fun b o h => hb.cell (p := ⟨b, o, none⟩) h, fun b o h => hb.frozen (p := ⟨b, o, none⟩) h⟩

/-- Induction on the tree's height, for contracts. -/
def Tr.h : Tr → Nat
  | .mk _ _ _ _ l => hl l + 1
where hl : List Tr → Nat
  | [] => 0
  | x :: r => max x.h (hl r)
theorem Tr.h_mem {x : Tr} : ∀ {l : List Tr}, x ∈ l → x.h ≤ Tr.h.hl l
  | y :: r, hx => by
    rcases List.mem_cons.1 hx with rfl | hx
    · simp only [Tr.h.hl]; omega
    · have := Tr.h_mem hx; simp only [Tr.h.hl]; omega
theorem Tr.h_kid {x y : Tr} (h : y ∈ x.l) : y.h < x.h := by
  cases x with
  | mk k n s t l =>
    have := Tr.h_mem (show y ∈ l from h)
    show _ < Tr.h.hl l + 1
    omega
theorem Tr.ind {P : Tr → Prop} (h : ∀ x, (∀ y ∈ x.l, P y) → P x) : ∀ x, P x := by
  have : ∀ n (x : Tr), x.h < n → P x := by
    intro n
    induction n with
    | zero => exact fun x hx => absurd hx (Nat.not_lt_zero _)
    | succ n ih => exact fun x hx => h x fun y hy => ih y (by have := Tr.h_kid hy; omega)
  exact fun x => this (x.h + 1) x (Nat.lt_succ_self _)

/-- How many nodes a tree has, at most so many. -/
def Tr.sz : Tr → Int → Int
  | .mk _ _ _ _ l, m => szl l m 1
where szl : List Tr → Int → Int → Int
  | [], _, n => n
  | x :: r, m, n => if n < m then szl r m (n + x.sz (m - n)) else n
theorem szl_stop (l : List Tr) {m n : Int} (h : m ≤ n) : Tr.sz.szl l m n = n := by
  cases l with
  | nil => rfl
  | cons x r => rw [Tr.sz.szl, if_neg (by omega)]
theorem sz_bound (x : Tr) : ∀ m : Int, 1 ≤ m → 1 ≤ x.sz m ∧ x.sz m ≤ m := by
  induction x using Tr.ind with
  | h x ih =>
    intro m hm
    cases x with
    | mk k n s t l =>
      have key : ∀ (r : List Tr), (∀ y ∈ r, y ∈ l) → ∀ a : Int, 1 ≤ a → a ≤ m → a ≤ Tr.sz.szl r m a ∧ Tr.sz.szl r m a ≤ m := by
        intro r
        induction r with
        | nil => exact fun _ a _ h => ⟨Int.le_refl _, h⟩
        | cons y r ihr =>
          intro hr a h1 h2
          rw [Tr.sz.szl]
          split
          · have h3 := ih y (hr y (by simp)) (m - a) (by omega)
            have h4 := ihr (fun z hz => hr z (List.mem_cons_of_mem _ hz)) (a + y.sz (m - a)) (by omega) (by omega)
            omega
          · omega
      exact key l (fun _ h => h) 1 (Int.le_refl _) hm
end Go.Proofs.YtjnmdbfijdnaiaaGreatDoor
