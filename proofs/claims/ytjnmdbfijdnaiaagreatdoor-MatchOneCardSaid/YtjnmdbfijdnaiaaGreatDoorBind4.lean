/-
  match.find, pleachref10.Find. Conditions: the names lie as 'Binds' says.
-/
import Derived.Test.YtjnmdbfijdnaiaaGreatDoorGo1
import Derived.Laws.ResultCell
namespace Go.Proofs.YtjnmdbfijdnaiaaGreatDoor
open Go.RowKit

def zeroT : Tr := .mk 0 0 ⟨#[]⟩ ⟨#[]⟩ []
theorem zero_wf : NodeWf zeroT := ⟨by decide, by decide, Nat.zero_le _, Nat.zero_le _⟩
theorem zero_trv (F : Nat → Prop) (w : World) : TrV F w zeroT (.slice none 0 0) := ⟨zero_wf, Kids.nil F w⟩
/-- A tree's five cells, as an array. -/
def cells5 (x : Tr) (sv : Value) : Array Value := #[.int .i8 x.k, .int .i64 x.n, .string x.s, .string x.t, sv]
theorem size28 (x : Tr) (sv : Value) : (Tryz.prog.info? 28).map (·.size) = some (cells5 x sv).size := by kernel_rfl
theorem info28 (w : World) (g : Nat) (x : Tr) (sv : Value) (hg : w.heap[g]? = some (.cells (cells5 x sv) 28 (0, 0))) : (loadVar 28 ⟨g, 0, none⟩).run Tryz.prog w = .ok (.agg (cells5 x sv)) w :=
  run_loadVar_row w g 28 28 (cells5 x sv) (0, 0) _ hg Tryz.underlying28 rfl (size28 x sv)
theorem results_term {fn : Func} {p u : Tmp} (h : fn.results = #[.cell p 28, .tmp u]) (tmps : Array Value) (w : World) (g : Nat) (x : Tr) (sv : Value) (hp : tmps.getD p undef = .pointer (some ⟨g, 0, none⟩)) (hg : w.heap[g]? = some (.cells (cells5 x sv) 28 (0, 0))) :
    (results fn tmps).run Tryz.prog w = .ok (.tuple #[.agg (cells5 x sv), tmps.getD u undef]) w := by
  rw [results_cell_tmp h, hp]
  simp only [asAddr, Sem.run_pure, Result.andThen, info28 w g x sv hg]

theorem find_here {l : List Bd} {s : ByteArray} {k : Nat} (hk : k < l.length) (h : (l.take k).all (fun b => !(b.s.toList == s.toList)) = true) (hp : (l[k].s.toList == s.toList) = true) : bfind l s = some l[k].t := by
  unfold bfind
  have : l.find? (fun b => b.s.toList == s.toList) = some l[k] := by
    rw [List.find?_eq_some_iff_getElem]
    refine ⟨hp, k, hk, rfl, fun j hj => ?_⟩
    have hj2 : j < (l.take k).length := by simp; omega
    have := List.all_eq_true.1 h (l.take k)[j] (List.getElem_mem hj2)
    simpa using this
  rw [this]; rfl
theorem find_none {l : List Bd} {s : ByteArray} (h : l.all (fun b => !(b.s.toList == s.toList)) = true) : bfind l s = none := by
  unfold bfind
  have : l.find? (fun b => b.s.toList == s.toList) = none := by
    rw [List.find?_eq_none]
    intro x hx
    simpa using List.all_eq_true.1 h x hx
  rw [this]; rfl

/-- What a search tells. -/
def FindSays (F : Nat → Prop) (l : List Bd) (s : ByteArray) (w : World) (e : Ending) (w' : World) : Prop :=
  ∃ x sv, e = .returned (.tuple #[.agg #[.int .i8 x.k, .int .i64 x.n, .string x.s, .string x.t, sv], .bool (bfind l s).isSome]) ∧ TrV F w' x sv ∧ x = (bfind l s).getD zeroT ∧ Below w.heap.size w w'

set_option maxHeartbeats 4000000 in
set_option maxRecDepth 100000 in
theorem rfind_any {F : Nat → Prop} {w : World} {v : Value} {l : List Bd} {s : ByteArray} (hl : Binds F w v l) :
    Calls Tryz.prog 41 #[v, .string s] w (FindSays F l s w) := by
  have hlen : l.length ≤ 2199023255552 := hl.len
  obtain ⟨p, c, rfl⟩ := hl.slice
  have hn : (w.alloc (.cells #[.int .i8 0, .int .i64 0, .string ⟨#[]⟩, .string ⟨#[]⟩, .slice none 0 0] 28)).heap[w.heap.size]? = some (.cells (cells5 zeroT (.slice none 0 0)) 28 (0, 0)) := heap_new w _
  have hb := alloc_below w (.cells #[.int .i8 0, .int .i64 0, .string ⟨#[]⟩, .string ⟨#[]⟩, .slice none 0 0] 28)
  have HL := Lib.hid hl
  clear hl
  go_enter Tryz.func41, Tryz.ntmps41
  go_upto_region 1 with fail
  generalize w.alloc (.cells #[.int .i8 0, .int .i64 0, .string ⟨#[]⟩, .string ⟨#[]⟩, .slice none 0 0] 28) = w1 at hn hb ⊢
  go_wp2_with fail
  go_loopw [6] (fun i wr => ∃ k : Nat, k ≤ l.length ∧ i = .int .i64 k ∧ (l.take k).all (fun b => !(b.s.toList == s.toList)) = true ∧ wr = w1) (fun i _ => l.length - (intOf i).toNat)
  case atStart => exact ⟨0, Nat.zero_le _, rfl, rfl, rfl⟩
  case round =>
    obtain ⟨k, hk, rfl, hall, rfl⟩ := hrel
    by_cases hlt : k < l.length
    · obtain ⟨g, o, kv, rfl, _, hs, hsz, hnode, hkid⟩ := HL.out.at hlt
      have hs0 := (hb.cell (p := ⟨g, o + k * 6, none⟩) (cell_block hs)).trans hs
      obtain ⟨a0, a1, a2, a3, a4⟩ := hnode.keep (hb.block _ hnode.lt)
      clear hs hnode
      have hr := setRow_heap' (cells := cells5 l[k].t kv) hn
      have hB := below_setRow (cells := cells5 l[k].t kv) hb (Nat.le_refl _)
      cases he : (l[k].s.toList == s.toList)
      · have HN : Hid ((l.take (k + 1)).all (fun b => !(b.s.toList == s.toList)) = true) := by
          unfold Hid; rw [List.take_succ_eq_append_getElem hlt, List.all_append, hall]; simp only [List.all_cons, List.all_nil, he]; rfl
        clear hall hr hB
        go_wp2
        go_roundw
        case rel => exact ⟨k + 1, hlt, by go_num, HN.out, by first | rfl | trivial⟩
        case measure => simp [intOf]; omega
      · have HN := Lib.hid (find_here hlt hall he)
        clear hall
        obtain ⟨p2, c2, rfl⟩ := hkid.kids.slice
        go_wp2_with (refine wpList_store_row rfl 28 _ _ rfl w.heap.size (cells5 l[k].t (.slice p2 l[k].t.l.length c2)) (by kernel_rfl) (by kernel_rfl) 28 (cells5 zeroT (.slice none 0 0)) hn (size28 _ _) (by kernel_rfl) (by kernel_rfl) ?_)
        refine bodyPost_ret (v := .tuple #[.agg (cells5 l[k].t (.slice p2 l[k].t.l.length c2)), .bool true]) (results_term Tryz.results41 _ _ _ _ _ rfl hr) rfl ⟨l[k].t, _, ?_, hkid.below hB, ?_, hB⟩
        · rw [HN.out]; rfl
        · rw [HN.out]; rfl
    · rw [List.take_of_length_le (by omega)] at hall
      have HN := Lib.hid (find_none hall)
      have hr := setRow_heap' (cells := cells5 zeroT (.slice none 0 0)) hn
      have hB := below_setRow (cells := cells5 zeroT (.slice none 0 0)) hb (Nat.le_refl _)
      clear hall
      go_wp2_with (refine wpList_store_row rfl 28 _ _ rfl w.heap.size (cells5 zeroT (.slice none 0 0)) (by kernel_rfl) (by kernel_rfl) 28 (cells5 zeroT (.slice none 0 0)) hn (size28 _ _) (by kernel_rfl) (by kernel_rfl) ?_)
      refine bodyPost_ret (v := .tuple #[.agg (cells5 zeroT (.slice none 0 0)), .bool false]) (results_term Tryz.results41 _ _ _ _ _ rfl hr) rfl ⟨zeroT, _, ?_, zero_trv _ _, ?_, hB⟩
      · rw [HN.out]; rfl
      · rw [HN.out]; rfl

theorem idx_cases {α : Type} (P : α → Bool) (l : List α) : (idxB P l = -1 ∧ l.all (fun x => !P x) = true) ∨ ∃ (k : Nat) (h : k < l.length), idxB P l = k ∧ (l.take k).all (fun x => !P x) = true ∧ P l[k] = true := by
  unfold idxB
  cases h : l.findIdx? P with
  | none =>
    rw [List.findIdx?_eq_none_iff] at h
    exact .inl ⟨rfl, List.all_eq_true.2 fun x hx => by simp [h x hx]⟩
  | some k =>
    rw [List.findIdx?_eq_some_iff_getElem] at h
    obtain ⟨hk, hp, hj⟩ := h
    refine .inr ⟨k, hk, rfl, List.all_eq_true.2 fun x hx => ?_, hp⟩
    obtain ⟨j, hj1, rfl⟩ := List.getElem_of_mem hx
    have hj2 : j < k := by simp at hj1; omega
    have := hj j hj2
    simpa using this

set_option maxHeartbeats 4000000 in
set_option maxRecDepth 100000 in
theorem find_any {F : Nat → Prop} {w : World} {v : Value} {l : List Bd} {s : ByteArray} (hl : Binds F w v l) :
    Calls Tryz.prog 62 #[v, .string s] w (FindSays F l s w) := by
  have hlen : l.length ≤ 2199023255552 := hl.len
  obtain ⟨p, c, rfl⟩ := hl.slice
  obtain ⟨n1, n2, hb, hz⟩ := two_new w (.cells #[.string s] 9) (.cells #[.int .i8 0, .int .i64 0, .string ⟨#[]⟩, .string ⟨#[]⟩, .slice none 0 0] 28)
  have hn : ((w.alloc (.cells #[.string s] 9)).alloc (.cells #[.int .i8 0, .int .i64 0, .string ⟨#[]⟩, .string ⟨#[]⟩, .slice none 0 0] 28)).heap[w.heap.size + 1]? = some (.cells (cells5 zeroT (.slice none 0 0)) 28 (0, 0)) := n2
  have hs := one_cell n1
  have hL1 := hl.under hb
  have HL := Lib.hid hl
  clear hl n2 n1
  go_enter Tryz.func62, Tryz.ntmps62
  go_upto_region 1 with fail
  generalize (w.alloc (.cells #[.string s] 9)).alloc (.cells #[.int .i8 0, .int .i64 0, .string ⟨#[]⟩, .string ⟨#[]⟩, .slice none 0 0] 28) = w1 at hn hb hz hs hL1 ⊢
  have cI := indexF_any (P := fun b => b.s.toList == s.toList) (bs := w.heap.size) hL1 (fun x _ W sv hbW _ _ => find1_any (b := x) (sv := sv) ((hbW.cell (p := ⟨w.heap.size, 0, none⟩) (show w.heap.size < w1.heap.size by omega)).trans hs))
  have hlt1 : w.heap.size + 1 < w1.heap.size := by omega
  clear hL1
  rcases idx_cases (fun b : Bd => b.s.toList == s.toList) l with ⟨hi, hall⟩ | ⟨k, hlt, hi, hall, hp⟩
  · have HN := Lib.hid (find_none hall)
    rw [hi] at cI
    clear hall hi
    go_wp2_with (first
      | (go_at_call 52; refine cI.mono ?_; rintro e w5 ⟨rfl, hb5⟩; have hn5 := (hb5.block _ hlt1).trans hn; have hr := setRow_heap' (cells := cells5 zeroT (.slice none 0 0)) hn5; have hB := below_setRow (cells := cells5 zeroT (.slice none 0 0)) (hb.trans (hb5.mono hb.size)) (show w.heap.size ≤ w.heap.size + 1 by omega))
      | (refine wpList_store_row rfl 28 _ _ rfl (w.heap.size + 1) (cells5 zeroT (.slice none 0 0)) (by kernel_rfl) (by kernel_rfl) 28 (cells5 zeroT (.slice none 0 0)) hn5 (size28 _ _) (by kernel_rfl) (by kernel_rfl) ?_))
    refine bodyPost_ret (v := .tuple #[.agg (cells5 zeroT (.slice none 0 0)), .bool false]) (results_term Tryz.results62 _ _ _ _ _ rfl hr) rfl ⟨zeroT, _, ?_, zero_trv _ _, ?_, hB⟩
    · rw [HN.out]; rfl
    · rw [HN.out]; rfl
  · have HN := Lib.hid (find_here hlt hall hp)
    rw [hi] at cI
    clear hall hi hp
    obtain ⟨g, o, kv, rfl, _, hs0, hsz, hnode, hkid⟩ := HL.out.at hlt
    obtain ⟨p2, c2, rfl⟩ := hkid.kids.slice
    have hgl := cell_block hs0
    clear hs0 hsz
    go_wp2_with (first
      | (go_at_call 52; refine cI.mono ?_; rintro e w5 ⟨rfl, hb5⟩; have hn5 := (hb5.block _ hlt1).trans hn; have hr := setRow_heap' (cells := cells5 l[k].t (.slice p2 l[k].t.l.length c2)) hn5; have hB5 := hb.trans (hb5.mono hb.size); have hB := below_setRow (cells := cells5 l[k].t (.slice p2 l[k].t.l.length c2)) hB5 (show w.heap.size ≤ w.heap.size + 1 by omega); obtain ⟨a0, a1, a2, a3, a4⟩ := hnode.keep (hB5.block _ hnode.lt))
      | (refine wpList_store_row rfl 28 _ _ rfl (w.heap.size + 1) (cells5 l[k].t (.slice p2 l[k].t.l.length c2)) (by kernel_rfl) (by kernel_rfl) 28 (cells5 zeroT (.slice none 0 0)) hn5 (size28 _ _) (by kernel_rfl) (by kernel_rfl) ?_))
    refine bodyPost_ret (v := .tuple #[.agg (cells5 l[k].t (.slice p2 l[k].t.l.length c2)), .bool true]) (results_term Tryz.results62 _ _ _ _ _ rfl hr) rfl ⟨l[k].t, _, ?_, hkid.below hB, ?_, hB⟩
    · rw [HN.out]; rfl
    · rw [HN.out]; rfl
end Go.Proofs.YtjnmdbfijdnaiaaGreatDoor
