/-
  What MailTaken asks, as plain law: rows of items taken and left out. Names no function of the program.
-/
import Derived.Test.YtlhobpknflobgaaGreatDoorMl9
import Derived.Test.YtlhobpknflobgaaGreatDoorGm7
namespace Go.Proofs.YtlhobpknflobgaaGreatDoor
open Go.RowKit

theorem same_items {l m : List It} (h : l = m) : sameI l m = true := by subst h; exact sameI_self l
theorem ask_true (tag : ByteArray) (t : Tr) (x : It) : askB tag t true x = (x.o && isB x.t tag t) := by simp [askB]
/-- What is left out is found no more. -/
theorem with_gone (tag : ByteArray) (t : Tr) (l : List It) : decide (0 ≤ idxB (askB tag t true) (withB tag t l)) = false := by
  rw [idx_any, List.any_eq_false]
  intro x hx
  have := (List.mem_filter.1 hx).2
  rw [ask_true]
  cases h1 : x.o <;> cases h2 : isB x.t tag t <;> simp_all
theorem with_le (tag : ByteArray) (t : Tr) (l : List It) : (withB tag t l).length ≤ l.length := List.length_filter_le ..
theorem with_lt (tag : ByteArray) (t : Tr) : ∀ l : List It, decide ((withB tag t l).length < l.length) = l.any (askB tag t true)
  | [] => rfl
  | x :: r => by
    have ih := with_lt tag t r
    have hle := with_le tag t r
    unfold withB at *
    rw [List.filter_cons, List.any_cons, ask_true]
    cases h1 : x.o <;> cases h2 : isB x.t tag t <;> simp_all <;> omega
theorem with_ours (tag : ByteArray) (t : Tr) (l : List It) : (decide ((withB tag t l).length < l.length)) = decide (0 ≤ idxB (askB tag t true) l) := by rw [with_lt, idx_any]
theorem with_users (tag : ByteArray) (t : Tr) : ∀ l : List It, usersB (withB tag t l) = usersB l
  | [] => rfl
  | x :: r => by
    have ih := with_users tag t r
    unfold withB usersB at *
    rw [List.filter_cons]
    cases h1 : x.o <;> cases h2 : isB x.t tag t <;> simp_all
theorem first_ours {tag : ByteArray} {t : Tr} {l : List It} {k : Nat} (hk : k < l.length) (h : idxB (askB tag t true) l = k) : l[k].o = true := by
  rcases idx_cases (askB tag t true) l with ⟨e, _⟩ | ⟨j, hj, e, _, hp⟩
  · rw [e] at h; omega
  · rw [e] at h
    obtain rfl : j = k := by omega
    rw [ask_true] at hp
    simp at hp
    exact hp.1
theorem back_at {l : List It} {k : Nat} (hk : k < l.length) : ((l.take k ++ l.drop (k + 1)).take k ++ [l[k]]) ++ (l.take k ++ l.drop (k + 1)).drop k = l := by
  have e1 : (l.take k).length = k := by rw [List.length_take]; omega
  rw [List.take_append_of_le_length (by omega), List.drop_append_of_le_length (by omega), List.take_of_length_le (by omega), List.drop_of_length_le (by omega), List.nil_append, List.append_assoc]
  conv => rhs; rw [← List.take_append_drop k l, List.drop_eq_getElem_cons hk]
  rfl
end Go.Proofs.YtlhobpknflobgaaGreatDoor
