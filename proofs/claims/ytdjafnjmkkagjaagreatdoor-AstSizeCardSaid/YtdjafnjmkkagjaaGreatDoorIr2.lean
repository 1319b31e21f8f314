/-
  ast.walk's iterator: every node of a tree, a node ahead of its parts. Condition: the tree lies in memory that stays; rounds go on.
-/
import Derived.Test.YtdjafnjmkkagjaaGreatDoorIr1
import Derived.Test.YtdjafnjmkkagjaaGreatDoorOb2
namespace Go.Proofs.YtdjafnjmkkagjaaGreatDoor.Ir
open Go.RowKit Go.Shelf Oa
attribute [local go_sem] Oper.semAt_some

/-- A tree's nodes, a node ahead of its parts. -/
def preT (x : Tr) : List Tr := foldT (fun x L => x :: L.flatten) x
theorem preT_eq (x : Tr) : preT x = x :: (x.l.map preT).flatten := by
  unfold preT
  rw [foldT_eq]

/-- A row of words. -/
def IsW (W : World) (k : Nat) : Prop := ∃ cur fz, W.heap[k]? = some (.cells cur 9 fz)
theorem not_w {W : World} {k : Nat} {o : Obj} (h : W.heap[k]? = some o) (ho : ∀ cur fz, o ≠ .cells cur 9 fz) : ¬ IsW W k := by
  rintro ⟨cur, fz, e⟩
  rw [h] at e; cases e; exact ho _ _ rfl
/-- A block that no round may touch. -/
def Prot (X : Nat → Prop) (W : World) (k : Nat) : Prop := k < W.heap.size ∧ ¬ IsW W k ∧ ¬ X k
/-- What a round keeps. -/
def KpX (X : Nat → Prop) (W W' : World) : Prop := W.heap.size ≤ W'.heap.size ∧ ∀ k, Prot X W k → W'.heap[k]? = W.heap[k]?
theorem KpX.refl (X : Nat → Prop) (W : World) : KpX X W W := ⟨Nat.le_refl _, fun _ _ => rfl⟩
theorem KpX.prot {X : Nat → Prop} {W W' : World} (h : KpX X W W') {k : Nat} (hk : Prot X W k) : Prot X W' k := ⟨Nat.lt_of_lt_of_le hk.1 h.1, fun ⟨c, f, e⟩ => hk.2.1 ⟨c, f, (h.2 k hk).symm.trans e⟩, hk.2.2⟩
theorem KpX.trans {X : Nat → Prop} {A B C : World} (h : KpX X A B) (k : KpX X B C) : KpX X A C := ⟨Nat.le_trans h.1 k.1, fun j hj => (k.2 j (h.prot hj)).trans (h.2 j hj)⟩
theorem KpX.mono {X Y : Nat → Prop} {W W' : World} (h : KpX X W W') (hXY : ∀ k, X k → Y k) : KpX Y W W' := ⟨h.1, fun k hk => h.2 k ⟨hk.1, hk.2.1, fun q => hk.2.2 (hXY k q)⟩⟩
/-- A step of our own: old blocks below b₁, and rows of words, lie as they lay. -/
structure Grow (b₁ : Nat) (W W' : World) : Prop where
  os : W'.os = W.os
  tape : W'.tape = W.tape
  output : W'.output = W.output
  size : W.heap.size ≤ W'.heap.size
  same : ∀ k, k < W.heap.size → (k < b₁ ∨ IsW W k) → W'.heap[k]? = W.heap[k]?
/-- What is said between two rounds. -/
def Jok (b₁ : Nat) (J : List Tr → World → Prop) : Prop := ∀ pre W W', J pre W → Grow b₁ W W' → J pre W'
theorem grow_alloc {b₁ : Nat} (W : World) (o : Obj) : Grow b₁ W (W.alloc o) := ⟨rfl, rfl, rfl, by simp, fun k hk _ => Below.heap_alloc _ _ _ hk⟩
theorem grow_put {b₁ : Nat} {W : World} {l : Nat} (o : Obj) (hl : b₁ ≤ l) (hr : ¬ IsW W l) : Grow b₁ W (W.putObj l o) :=
  ⟨rfl, rfl, rfl, by simp, fun k _ h => World.putObj_heap_other (by rintro rfl; rcases h with h | h <;> first | omega | exact hr h)⟩
theorem kp_alloc {X : Nat → Prop} {W : World} (o : Obj) : KpX X W (W.alloc o) := ⟨by simp, fun k hk => Below.heap_alloc _ _ _ hk.1⟩
theorem kp_put {X : Nat → Prop} {l : Nat} {W : World} (o : Obj) (hX : X l) : KpX X W (W.putObj l o) := ⟨by simp, fun k hk => World.putObj_heap_other (by rintro rfl; exact hk.2.2 hX)⟩

/-- The marks of loops that are over. -/
abbrev mk (r : Nat) : Deferred := { target := .collected r, args := #[] }
/-- Nothing but blocks of marks has turned. -/
theorem leaves_marks {P : Program} {fn : Func} {tmps : Array Value} {R : Ending → World → Prop} : ∀ (rs : List Nat) (w : World), rs.Nodup → (∀ r, r ∈ rs → w.heap[r]? = some (.deferred (some []))) →
    (∀ w', w'.os = w.os → w'.tape = w.tape → w'.output = w.output → w'.heap.size = w.heap.size → (∀ k, k ∉ rs → w'.heap[k]? = w.heap[k]?) → LeavesIn Fence.wide 9 P fn tmps R [] .returning w') →
    LeavesInM Fence.wide 9 P fn tmps R (rs.map mk) .returning w
  | [], w, _, _, h => h w rfl rfl rfl rfl fun _ _ => rfl
  | r :: rs, w, hn, hm, h => by
    obtain ⟨hn1, hn2⟩ := List.nodup_cons.1 hn
    refine ⟨by simp, .inl ⟨r, _, rfl, run_takeDeferred (hm r (List.mem_cons_self ..)), ?_⟩⟩
    refine leaves_marks rs _ hn2 (fun q hq => (World.putObj_heap_other (by rintro rfl; exact hn1 hq)).trans (hm q (List.mem_cons_of_mem _ hq))) fun w' e1 e2 e3 e4 e5 => ?_
    refine h w' e1 e2 e3 (e4.trans (by simp)) fun k hk => ?_
    rw [e5 k fun q => hk (List.mem_cons_of_mem _ q)]
    exact World.putObj_heap_other (by rintro rfl; exact hk (List.mem_cons_self ..))
end Go.Proofs.YtdjafnjmkkagjaaGreatDoor.Ir
