/-
  A row of names that the call makes: append to it. Conditions: what is appended lies as 'Binds' says, ahead of the row.
-/
import Derived.Test.YtmnjcbjfkaoeaaaDoorS19
import Derived.Laws.AppendOwnNone
namespace Go.Proofs.YtmnjcbjfkaoeaaaDoor
open Go.RowKit

/-- A row of names that the call makes; their terms lie ahead of it. -/
structure BRow (base : Nat) (w : World) (v : Value) (L : List (Bd × Value)) : Prop where
  own : w.ownsRow base 38 6 v L.length (L.flatMap bcells)
  at_ : ∀ q ∈ L, TrV (fun g => g < base) w q.1.t q.2 ∧ q.1.s.size ≤ BL * 64
theorem BRow.nil (base : Nat) (w : World) : BRow base w (.slice none 0 0) [] := ⟨World.ownsRow_nil .., fun q hq => by simp at hq⟩
theorem BRow.binds {base : Nat} {w : World} {v : Value} {L : List (Bd × Value)} (h : BRow base w v L) (hl : L.length ≤ BL) : Binds (fun _ => True) w v (L.map (·.1)) :=
  binds_row h.own (fun _ _ => trivial) (fun q hq => ⟨⟨(h.at_ q hq).1.wf, (h.at_ q hq).1.kids.mono fun _ _ _ => trivial⟩, (h.at_ q hq).2⟩) hl
theorem BRow.under {base : Nat} {w w' : World} {v : Value} {L : List (Bd × Value)} (h : BRow base w v L) (hb : Below w.heap.size w w') : BRow base w' v L := ⟨row_under h.own hb, fun q hq => ⟨(h.at_ q hq).1.below hb, (h.at_ q hq).2⟩⟩
theorem BRow.slice {base : Nat} {w : World} {v : Value} {L : List (Bd × Value)} (h : BRow base w v L) : ∃ q c, v = .slice q L.length c := row_shape h.own

set_option maxRecDepth 10000 in
theorem wpList_append_binds {w : World} {ops : Array Oper} {rest : List Oper} {o : Oper} {a : Act} {Q : Exit → Act → World → Prop} (hgd : o.guard = none) (s x : Operand)
    (ho : o.op = .call { callee := .builtin .append, args := #[s, x], argTypes := #[29, 29] })
    (base : Nat) (v : Value) (L : List (Bd × Value)) (hs : a.eval s = v) (hrow : BRow base w v L) (p : Option Addr) (n c : Nat) (l : List Bd) (hx : a.eval x = .slice p n c) (hsrc : Binds (fun g => g < base) w (.slice p n c) l)
    (hlen : L.length + l.length ≤ 1048576) (hbase : base ≤ w.heap.size)
    (h : ∀ v' w' L', BRow base w' v' (L ++ L') → L'.map (·.1) = l → Below base w w' → wpList Tryd.prog ops Q rest (a.put o.dst v') w') : wpList Tryd.prog ops Q (o :: rest) a w := by
  obtain ⟨i0, hi, hz0, hz1, hz2⟩ := info_parts infoBind
  obtain ⟨Ls, hLm, hLt, hLc⟩ := hsrc.cells
  have hLl : Ls.length = l.length := by rw [← hLm, List.length_map]
  have hn : n = l.length := by
    obtain ⟨_, _, he, _⟩ := hsrc
    cases he; rfl
  cases p with
  | none =>
    obtain ⟨h1, h2⟩ := hsrc.none
    obtain rfl : Ls = [] := List.eq_nil_of_length_eq_zero (by omega)
    obtain rfl : c = 0 := h2
    obtain rfl : n = 0 := by omega
    refine wpList_append_own_none hgd s x 29 ho base 38 i0 6 Tryd.underlying29 hi v L.length (L.flatMap bcells) hs hrow.own hx ?_
    exact h v w [] (by rw [List.append_nil]; exact hrow) hLm (Below.refl _ _)
  | some ad =>
    refine wpList_append_own w hgd s x 29 ho base 38 i0 _ 6 88 Tryd.underlying29 hi hz0 hz1 hz2 rfl (by decide) v L.length (L.flatMap bcells) hs hrow.own ad n c (Ls.flatMap bcells) hx (by rw [flat6_len, hLl, hn]) (hLc ad rfl)
      (fun u hu => by obtain ⟨q, hq, hu⟩ := List.mem_flatMap.1 hu; exact bcells_plain (hLt q hq).1 u hu) (by unfold maxLen; omega) (by omega) hbase fun v' w' hown hg _ => ?_
    have hB : Below base w w' := (Below.refl _ _).grown hg hbase (row_base hrow.own)
    refine h v' w' Ls ⟨by rw [List.length_append, List.flatMap_append, hLl, ← hn]; exact hown, fun q hq => ?_⟩ hLm hB
    have hq' : TrV (fun g => g < base) w q.1.t q.2 ∧ q.1.s.size ≤ BL * 64 := by
      rcases List.mem_append.1 hq with hq | hq
      · exact hrow.at_ q hq
      · exact hLt q hq
    refine ⟨⟨hq'.1.wf, hq'.1.kids.keep fun g hg' hl => hB.block g hg'⟩, hq'.2⟩
end Go.Proofs.YtmnjcbjfkaoeaaaDoor
