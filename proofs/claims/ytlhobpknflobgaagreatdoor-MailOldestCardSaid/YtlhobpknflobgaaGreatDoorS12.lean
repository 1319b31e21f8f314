/-
  Pure laws: terms of one place in the order are the same; a term's parts may be; what a pattern does with a term ('Tr.go'). No program, no condition.
  match.find, pleachref10.Find. Conditions: the names lie as 'Binds' says.
  Slices of binds and of trees that an append made. Conditions: the parts lie as 'Binds', 'Kids' say.
-/
import Derived.Test.YtlhobpknflobgaaGreatDoorS11
import Derived.Laws.ResultCell
import Derived.ArgAppend
import Derived.Deep.RegionLawGrows
namespace Go.Proofs.YtlhobpknflobgaaGreatDoor
open Go.RowKit

/-- A name's term. -/
def bfind (l : List Bd) (s : ByteArray) : Option Tr := (l.find? fun b => b.s.toList == s.toList).map (·.t)

theorem less_irr : ∀ a : List UInt8, Op.bytesLess a a = false
  | [] => rfl
  | x :: r => by rw [Op.bytesLess, less_irr r]; simp
theorem cmpS_zero {a b : ByteArray} : cmpS a b = 0 ↔ (a.toList == b.toList) = true := by
  unfold cmpS
  cases h : (a.toList == b.toList)
  · split <;> simp
  · have : a.toList = b.toList := by simpa using h
    rw [this, less_irr]; simp
theorem orI_zero : ∀ l : List Int, orI l = 0 ↔ ∀ x ∈ l, x = 0
  | [] => by simp [orI]
  | x :: r => by
    rw [orI]
    split
    · rename_i h; rw [orI_zero r]; simp [h]
    · rename_i h; simp [h]

/-- Terms that are of one place in the order are the same. -/
theorem ord_same (x : Tr) : ∀ y, x.ord y = 0 ↔ x.same y = true := by
  induction x using Tr.ind with
  | h x ih =>
    intro y
    rw [ord_eq, same_eq]
    have key : ∀ (l m : List Tr), (∀ z ∈ l, z ∈ x.l) → l.length = m.length → (Tr.ord.ordl l m = 0 ↔ Tr.same.samel l m = true) := by
      intro l
      induction l with
      | nil => intro m _ h; cases m with | nil => simp [Tr.ord.ordl, Tr.same.samel] | cons => simp at h
      | cons a l ihl =>
        intro m hm h
        cases m with
        | nil => simp at h
        | cons b m =>
          have h1 := ih a (hm a (by simp)) b
          have h2 := ihl m (fun z hz => hm z (List.mem_cons_of_mem _ hz)) (by simpa using h)
          rw [Tr.ord.ordl, Tr.same.samel]
          split
          · rename_i h0; rw [h2, h1.1 h0]; simp
          · rename_i h0
            constructor
            · exact fun h => absurd h h0
            · intro h3; simp only [Bool.and_eq_true] at h3; exact absurd (h1.2 h3.1) h0
    by_cases hk : x.k = y.k
    · rw [if_pos hk, orI_zero]
      simp only [List.mem_cons, List.not_mem_nil, or_false, forall_eq_or_imp, forall_eq, cmpI_zero, cmpS_zero, Bool.and_eq_true, beq_iff_eq]
      constructor
      · rintro ⟨a, b, c, d, e⟩
        exact ⟨hk, d, b, c, a, (key _ _ (fun _ h => h) (by omega)).1 e⟩
      · rintro ⟨_, d, b, c, a, e⟩
        exact ⟨a, b, c, d, (key _ _ (fun _ h => h) (by omega)).2 e⟩
    · rw [if_neg hk, cmpI_zero]
      simp [hk]
theorem cmp_same {x y : Tr} (hx : chkT x = 0) (hy : chkT y = 0) : (cmpT x y == 0) = x.same y := by
  unfold cmpT
  rw [if_pos ⟨hx, hy⟩]
  have := ord_same x y
  cases h : x.same y
  · rw [h] at this; simpa using this
  · simpa using this.2 h

theorem cnt_more (x : Tr) : ∀ m : Int, 1 ≤ m → (x.cnt m).2 = true → (x.cnt m).1 < m → ∀ m', m ≤ m' → x.cnt m' = x.cnt m := by
  induction x using Tr.ind with
  | h x ih =>
    intro m hm h2 h1 m' hmm
    rw [cnt_eq] at h1 h2
    rw [cnt_eq, cnt_eq]
    split
    · rename_i ho
      rw [if_pos ho] at h1 h2
      have key : ∀ (r : List Tr), (∀ y ∈ r, y ∈ x.l) → ∀ a : Int, 1 ≤ a → a ≤ m → (Tr.cnt.cntl r m a).2 = true → (Tr.cnt.cntl r m a).1 < m → Tr.cnt.cntl r m' a = Tr.cnt.cntl r m a := by
        intro r
        induction r with
        | nil => exact fun _ a _ _ _ _ => rfl
        | cons y r ihr =>
          intro hr a h3 h4 h5 h6
          rw [Tr.cnt.cntl] at h5 h6 ⊢
          rw [Tr.cnt.cntl]
          by_cases hma : m ≤ a
          · rw [if_pos hma] at h6; simp at h6; omega
          rw [if_neg hma] at h5 h6 ⊢
          rw [if_neg (by omega)]
          by_cases hy2 : (y.cnt (m - a)).2 = true
          · rw [if_pos hy2] at h5 h6 ⊢
            have hbd := cnt_bound y (m - a) (by omega)
            have hlt : (y.cnt (m - a)).1 < m - a := by
              by_cases hc : (y.cnt (m - a)).1 < m - a
              · exact hc
              · rw [cntl_stop r (show m ≤ a + (y.cnt (m - a)).1 by omega)] at h6
                simp at h6; omega
            have hy := ih y (hr y (by simp)) (m - a) (by omega) hy2 hlt (m' - a) (by omega)
            rw [hy, if_pos hy2]
            exact ihr (fun z hz => hr z (List.mem_cons_of_mem _ hz)) _ (by omega) (by omega) h5 h6
          · rw [if_neg hy2] at h5; simp at h5
      exact key x.l (fun _ h => h) 1 (Int.le_refl _) hm h2 h1
    · rfl

/-- A term's parts may be, as it may. -/
theorem chk_one {x : Tr} (h : chkT x = 0) : oneB x = true := by
  unfold chkT at h
  rw [cnt_eq] at h
  cases ho : oneB x
  · rw [ho] at h; simp at h
  · rfl
theorem chk_kids {x : Tr} (h : chkT x = 0) : ∀ y ∈ x.l, chkT y = 0 := by
  have ho := chk_one h
  unfold chkT at h
  rw [cnt_eq, if_pos ho] at h
  have h2 : (Tr.cnt.cntl x.l 257 1).2 = true := by
    cases h3 : (Tr.cnt.cntl x.l 257 1).2
    · rw [h3] at h; simp at h
    · rfl
  rw [if_pos h2] at h
  have h1 : (Tr.cnt.cntl x.l 257 1).1 < 257 := by
    by_cases hc : 256 < (Tr.cnt.cntl x.l 257 1).1
    · rw [if_pos hc] at h; simp at h
    · omega
  have key : ∀ (r : List Tr) (a : Int), 1 ≤ a → a ≤ 257 → (Tr.cnt.cntl r 257 a).2 = true → (Tr.cnt.cntl r 257 a).1 < 257 → ∀ y ∈ r, chkT y = 0 := by
    intro r
    induction r with
    | nil => exact fun a _ _ _ _ y hy => absurd hy (by simp)
    | cons z r ihr =>
      intro a h3 h4 h5 h6
      rw [Tr.cnt.cntl] at h5 h6
      by_cases hma : 257 ≤ a
      · rw [if_pos hma] at h6; simp at h6; omega
      rw [if_neg hma] at h5 h6
      by_cases hy2 : (z.cnt (257 - a)).2 = true
      · rw [if_pos hy2] at h5 h6
        have hbd := cnt_bound z (257 - a) (by omega)
        have hlt : (z.cnt (257 - a)).1 < 257 - a := by
          by_cases hc : (z.cnt (257 - a)).1 < 257 - a
          · exact hc
          · rw [cntl_stop r (show 257 ≤ a + (z.cnt (257 - a)).1 by omega)] at h6
            simp at h6; omega
        intro y hy
        rcases List.mem_cons.1 hy with rfl | hy
        · have := cnt_more y (257 - a) (by omega) hy2 hlt 257 (by omega)
          unfold chkT
          rw [this, if_pos hy2, if_neg (by omega)]
        · exact ihr _ (by omega) (by omega) h5 h6 y hy
      · rw [if_neg hy2] at h5; simp at h5
  exact key x.l 1 (by omega) (by omega) h2 h1

/-- How many nodes a tree has. -/
def Tr.nn : Tr → Nat
  | .mk _ _ _ _ l => nnl l + 1
where nnl : List Tr → Nat
  | [] => 0
  | x :: r => x.nn + nnl r
theorem nn_eq (x : Tr) : x.nn = Tr.nn.nnl x.l + 1 := by cases x; rfl
theorem nnl_drop {l : List Tr} {k : Nat} (hk : k < l.length) : Tr.nn.nnl (l.drop k) = l[k].nn + Tr.nn.nnl (l.drop (k + 1)) := by rw [List.drop_eq_getElem_cons hk, Tr.nn.nnl]
theorem sz_nn (x : Tr) : ∀ m : Int, 1 ≤ m → x.sz m < m → x.sz m = x.nn := by
  induction x using Tr.ind with
  | h x ih =>
    intro m hm h
    rw [nn_eq]
    cases x with
    | mk k n s t l =>
      have key : ∀ (r : List Tr), (∀ y ∈ r, y ∈ l) → ∀ a : Int, 1 ≤ a → a ≤ m → Tr.sz.szl r m a < m → Tr.sz.szl r m a = a + Tr.nn.nnl r := by
        intro r
        induction r with
        | nil => exact fun _ a _ _ _ => by simp [Tr.sz.szl, Tr.nn.nnl]
        | cons y r ihr =>
          intro hr a h1 h2 h3
          rw [Tr.sz.szl] at h3 ⊢
          by_cases hma : a < m
          · rw [if_pos hma] at h3 ⊢
            have hbd := sz_bound y (m - a) (by omega)
            have hlt : y.sz (m - a) < m - a := by
              by_cases hc : y.sz (m - a) < m - a
              · exact hc
              · rw [szl_stop r (show m ≤ a + y.sz (m - a) by omega)] at h3; omega
            rw [ihr (fun z hz => hr z (List.mem_cons_of_mem _ hz)) _ (by omega) (by omega) h3, ih y (hr y (by simp)) (m - a) (by omega) hlt, Tr.nn.nnl]
            omega
          · rw [if_neg hma] at h3; omega
      have := key l (fun _ h => h) 1 (by omega) hm h
      show Tr.sz.szl l m 1 = _
      rw [this]
      show 1 + (Tr.nn.nnl l : Int) = _
      simp only [Tr.l]; omega

/-- What a pattern does with a term under names; none: it does not go. -/
def Tr.go : Tr → Tr → List Bd → Option (List Bd)
  | .mk k n s _ l, x, b =>
    if k = 5 then (if undB s then some b else match bfind b s with
      | some y => if y.same x then some b else none
      | none => some (b ++ [⟨s, x⟩]))
    else if k = 6 then (if x.k = 0 ∧ x.n = n then some b else none)
    else if k = 7 then (if x.k = 1 ∧ (x.s.toList == s.toList) = true then some b else none)
    else if k = 8 then (if x.k = 6 then some b else none)
    else if k = 9 then (if x.k = 7 then gol l x.l b else none)
    else if x.k = 5 ∧ (x.l.length : Int) = l.length then gol l x.l b else none
where gol : List Tr → List Tr → List Bd → Option (List Bd)
  | [], _, b => some b
  | _ :: _, [], b => some b
  | p :: ps, x :: xs, b => match p.go x b with
    | some b' => gol ps xs b'
    | none => none
theorem go_eq (p x : Tr) (b : List Bd) : p.go x b = if p.k = 5 then (if undB p.s then some b else match bfind b p.s with
      | some y => if y.same x then some b else none
      | none => some (b ++ [⟨p.s, x⟩]))
    else if p.k = 6 then (if x.k = 0 ∧ x.n = p.n then some b else none)
    else if p.k = 7 then (if x.k = 1 ∧ (x.s.toList == p.s.toList) = true then some b else none)
    else if p.k = 8 then (if x.k = 6 then some b else none)
    else if p.k = 9 then (if x.k = 7 then Tr.go.gol p.l x.l b else none)
    else if x.k = 5 ∧ (x.l.length : Int) = p.l.length then Tr.go.gol p.l x.l b else none := by cases p; rfl
theorem gol_take {l m : List Tr} {k : Nat} {b : List Bd} (h1 : k < l.length) (h2 : k < m.length) : Tr.go.gol (l.drop k) (m.drop k) b = match l[k].go m[k] b with
    | some b' => Tr.go.gol (l.drop (k + 1)) (m.drop (k + 1)) b'
    | none => none := by
  rw [List.drop_eq_getElem_cons h1, List.drop_eq_getElem_cons h2, Tr.go.gol]
theorem gol_end {l m : List Tr} {k : Nat} {b : List Bd} (h1 : l.length ≤ k) : Tr.go.gol (l.drop k) m b = some b := by
  rw [List.drop_eq_nil_of_le h1, Tr.go.gol]

/-- A pattern by its kinds. -/
theorem pat_cases {x : Tr} (h : x.pat = true) :
    (x.k = 5 ∧ x.l.length = 0) ∨ (x.k = 6 ∧ emp x.s = true ∧ x.l.length = 0) ∨ (x.k = 7 ∧ x.n = 0 ∧ x.l.length = 0) ∨ (x.k = 8 ∧ x.n = 0 ∧ emp x.s = true ∧ x.l.length = 0) ∨
    ((x.k = 10 ∨ x.k = 9 ∧ x.l.length = 2) ∧ x.n = 0 ∧ emp x.s = true ∧ Tr.pat.patl x.l = true) := by
  rw [pat_eq] at h
  simp only [Bool.or_eq_true, Bool.and_eq_true, beq_iff_eq] at h
  rcases h with h | h
  · unfold leafB at h
    split at h
    · rename_i hk; simp [bareB] at h; exact .inl ⟨hk, by simp [h.1.2]⟩
    · split at h
      · rename_i hk; simp [bareB] at h; exact .inr (.inl ⟨hk, h.1.1.1, by simp [h.1.2]⟩)
      · split at h
        · rename_i hk; simp [bareB] at h; exact .inr (.inr (.inl ⟨hk, h.1.1.1, by simp [h.1.2]⟩))
        · split at h
          · rename_i hk; simp [bareB] at h; exact .inr (.inr (.inr (.inl ⟨hk, h.1.1.1, h.1.1.2, by simp [h.2]⟩)))
          · simp at h
  · obtain ⟨⟨h1, h2⟩, h3⟩ := h
    simp [bareB] at h2
    refine .inr (.inr (.inr (.inr ⟨?_, h2.1.1, h2.1.2, h3⟩)))
    rcases h1 with h1 | ⟨h1, h4⟩
    · exact .inl h1
    · exact .inr ⟨h1, by omega⟩
theorem patl_mem : ∀ {l : List Tr}, Tr.pat.patl l = true → ∀ y ∈ l, y.pat = true
  | [], _, y, hy => absurd hy (by simp)
  | x :: r, h, y, hy => by
    rw [Tr.pat.patl, Bool.and_eq_true] at h
    rcases List.mem_cons.1 hy with rfl | hy
    · exact h.1
    · exact patl_mem h.2 y hy
/-- A term that may be, by its kinds. -/
theorem one_cases {x : Tr} (h : oneB x = true) : (x.k = 0 → emp x.s = true) ∧ (x.k = 1 → x.n = 0) ∧ (x.k = 6 → x.n = 0 ∧ emp x.s = true) ∧ (x.k = 7 → x.l.length = 2) := by
  unfold oneB at h
  refine ⟨fun hk => ?_, fun hk => ?_, fun hk => ?_, fun hk => ?_⟩ <;> rw [hk] at h <;> simp [bareB] at h
  · exact h.1.1.1
  · exact h.1.1.1
  · exact ⟨h.1.1.1, h.1.1.2⟩
  · omega
end Go.Proofs.YtlhobpknflobgaaGreatDoor
namespace Go.Proofs.YtlhobpknflobgaaGreatDoor
open Go.RowKit

def zeroT : Tr := .mk 0 0 ⟨#[]⟩ ⟨#[]⟩ []
theorem zero_wf : NodeWf zeroT := ⟨by decide, by decide, Nat.zero_le _, Nat.zero_le _⟩
theorem zero_trv (F : Nat → Prop) (w : World) : TrV F w zeroT (.slice none 0 0) := ⟨zero_wf, Kids.nil F w⟩
/-- A tree's five cells, as an array. -/
def cells5 (x : Tr) (sv : Value) : Array Value := #[.int .i8 x.k, .int .i64 x.n, .string x.s, .string x.t, sv]
theorem size28 (x : Tr) (sv : Value) : (Tryz.prog.info? 29).map (·.size) = some (cells5 x sv).size := by kernel_rfl
theorem info28 (w : World) (g : Nat) (x : Tr) (sv : Value) (hg : w.heap[g]? = some (.cells (cells5 x sv) 29 (0, 0))) : (loadVar 29 ⟨g, 0, none⟩).run Tryz.prog w = .ok (.agg (cells5 x sv)) w :=
  run_loadVar_row w g 29 29 (cells5 x sv) (0, 0) _ hg Tryz.underlying29 rfl (size28 x sv)
theorem results_term {fn : Func} {p u : Tmp} (h : fn.results = #[.cell p 29, .tmp u]) (tmps : Array Value) (w : World) (g : Nat) (x : Tr) (sv : Value) (hp : tmps.getD p undef = .pointer (some ⟨g, 0, none⟩)) (hg : w.heap[g]? = some (.cells (cells5 x sv) 29 (0, 0))) :
    (results fn tmps).run Tryz.prog w = .ok (.tuple #[.agg (cells5 x sv), tmps.getD u undef]) w := by
  rw [results_cell_tmp h, hp]
  simp only [asAddr, Sem.run_pure, Result.andThen, info28 w g x sv hg]

theorem find_here {l : List Bd} {s : ByteArray} {k : Nat} (hk : k < l.length) (h : (l.take k).all (fun b => !(b.s.toList == s.toList)) = true) (hp : (l[k].s.toList == s.toList) = true) : bfind l s = some l[k].t := by
  unfold bfind
  have : l.find? (fun b => b.s.toList == s.toList) = some l[k] := by
    rw [List.find?_eq_some_iff_getElem]
    refine ⟨hp, k, hk, rfl, fun j hj => ?_⟩
    have hj2 : j < (l.take k).length := by simp; omega
    have := List.all_eq_true.1 h (l.take k)[j] (List.getElem_mem hj2)
    simpa using this
  rw [this]; rfl
theorem find_none {l : List Bd} {s : ByteArray} (h : l.all (fun b => !(b.s.toList == s.toList)) = true) : bfind l s = none := by
  unfold bfind
  have : l.find? (fun b => b.s.toList == s.toList) = none := by
    rw [List.find?_eq_none]
    intro x hx
    simpa using List.all_eq_true.1 h x hx
  rw [this]; rfl

/-- What a search tells. -/
def FindSays (F : Nat → Prop) (l : List Bd) (s : ByteArray) (w : World) (e : Ending) (w' : World) : Prop :=
  ∃ x sv, e = .returned (.tuple #[.agg #[.int .i8 x.k, .int .i64 x.n, .string x.s, .string x.t, sv], .bool (bfind l s).isSome]) ∧ TrV F w' x sv ∧ x = (bfind l s).getD zeroT ∧ Below w.heap.size w w'

set_option maxHeartbeats 4000000 in
set_option maxRecDepth 100000 in
theorem rfind_any {F : Nat → Prop} {w : World} {v : Value} {l : List Bd} {s : ByteArray} (hl : Binds F w v l) :
    Calls Tryz.prog 131 #[v, .string s] w (FindSays F l s w) := by
  have hlen : l.length ≤ 2199023255552 := hl.len
  obtain ⟨p, c, rfl⟩ := hl.slice
  have hn : (w.alloc (.cells #[.int .i8 0, .int .i64 0, .string ⟨#[]⟩, .string ⟨#[]⟩, .slice none 0 0] 29)).heap[w.heap.size]? = some (.cells (cells5 zeroT (.slice none 0 0)) 29 (0, 0)) := heap_new w _
  have hb := alloc_below w (.cells #[.int .i8 0, .int .i64 0, .string ⟨#[]⟩, .string ⟨#[]⟩, .slice none 0 0] 29)
  have HL := Lib.hid hl
  clear hl
  go_enter Tryz.func131, Tryz.ntmps131
  go_upto_region 1 with fail
  generalize w.alloc (.cells #[.int .i8 0, .int .i64 0, .string ⟨#[]⟩, .string ⟨#[]⟩, .slice none 0 0] 29) = w1 at hn hb ⊢
  go_wp2_with fail
  go_loopw [6] (fun i wr => ∃ k : Nat, k ≤ l.length ∧ i = .int .i64 k ∧ (l.take k).all (fun b => !(b.s.toList == s.toList)) = true ∧ wr = w1) (fun i _ => l.length - (intOf i).toNat)
  case atStart => exact ⟨0, Nat.zero_le _, rfl, rfl, rfl⟩
  case round =>
    obtain ⟨k, hk, rfl, hall, rfl⟩ := hrel
    by_cases hlt : k < l.length
    · obtain ⟨g, o, kv, rfl, _, hs, hsz, hnode, hkid⟩ := HL.out.at hlt
      have hs0 := (hb.cell (p := ⟨g, o + k * 6, none⟩) (cell_block hs)).trans hs
      obtain ⟨a0, a1, a2, a3, a4⟩ := hnode.keep (hb.block _ hnode.lt)
      clear hs hnode
      have hr := setRow_heap' (cells := cells5 l[k].t kv) hn
      have hB := below_setRow (cells := cells5 l[k].t kv) hb (Nat.le_refl _)
      cases he : (l[k].s.toList == s.toList)
      · have HN : Hid ((l.take (k + 1)).all (fun b => !(b.s.toList == s.toList)) = true) := by
          unfold Hid; rw [List.take_succ_eq_append_getElem hlt, List.all_append, hall]; simp only [List.all_cons, List.all_nil, he]; rfl
        clear hall hr hB
        go_wp2
        go_roundw
        case rel => exact ⟨k + 1, hlt, by go_num, HN.out, by first | rfl | trivial⟩
        case measure => simp [intOf]; omega
      · have HN := Lib.hid (find_here hlt hall he)
        clear hall
        obtain ⟨p2, c2, rfl⟩ := hkid.kids.slice
        go_wp2_with (refine wpList_store_row rfl 29 _ _ rfl w.heap.size (cells5 l[k].t (.slice p2 l[k].t.l.length c2)) (by kernel_rfl) (by kernel_rfl) 29 (cells5 zeroT (.slice none 0 0)) hn (size28 _ _) (by kernel_rfl) (by kernel_rfl) ?_)
        refine bodyPost_ret (v := .tuple #[.agg (cells5 l[k].t (.slice p2 l[k].t.l.length c2)), .bool true]) (results_term Tryz.results131 _ _ _ _ _ rfl hr) rfl ⟨l[k].t, _, ?_, hkid.below hB, ?_, hB⟩
        · rw [HN.out]; rfl
        · rw [HN.out]; rfl
    · rw [List.take_of_length_le (by omega)] at hall
      have HN := Lib.hid (find_none hall)
      have hr := setRow_heap' (cells := cells5 zeroT (.slice none 0 0)) hn
      have hB := below_setRow (cells := cells5 zeroT (.slice none 0 0)) hb (Nat.le_refl _)
      clear hall
      go_wp2_with (refine wpList_store_row rfl 29 _ _ rfl w.heap.size (cells5 zeroT (.slice none 0 0)) (by kernel_rfl) (by kernel_rfl) 29 (cells5 zeroT (.slice none 0 0)) hn (size28 _ _) (by kernel_rfl) (by kernel_rfl) ?_)
      refine bodyPost_ret (v := .tuple #[.agg (cells5 zeroT (.slice none 0 0)), .bool false]) (results_term Tryz.results131 _ _ _ _ _ rfl hr) rfl ⟨zeroT, _, ?_, zero_trv _ _, ?_, hB⟩
      · rw [HN.out]; rfl
      · rw [HN.out]; rfl

theorem idx_cases {α : Type} (P : α → Bool) (l : List α) : (idxB P l = -1 ∧ l.all (fun x => !P x) = true) ∨ ∃ (k : Nat) (h : k < l.length), idxB P l = k ∧ (l.take k).all (fun x => !P x) = true ∧ P l[k] = true := by
  unfold idxB
  cases h : l.findIdx? P with
  | none =>
    rw [List.findIdx?_eq_none_iff] at h
    exact .inl ⟨rfl, List.all_eq_true.2 fun x hx => by simp [h x hx]⟩
  | some k =>
    rw [List.findIdx?_eq_some_iff_getElem] at h
    obtain ⟨hk, hp, hj⟩ := h
    refine .inr ⟨k, hk, rfl, List.all_eq_true.2 fun x hx => ?_, hp⟩
    obtain ⟨j, hj1, rfl⟩ := List.getElem_of_mem hx
    have hj2 : j < k := by simp at hj1; omega
    have := hj j hj2
    simpa using this

set_option maxHeartbeats 4000000 in
set_option maxRecDepth 100000 in
theorem find_any {F : Nat → Prop} {w : World} {v : Value} {l : List Bd} {s : ByteArray} (hl : Binds F w v l) :
    Calls Tryz.prog 215 #[v, .string s] w (FindSays F l s w) := by
  have hlen : l.length ≤ 2199023255552 := hl.len
  obtain ⟨p, c, rfl⟩ := hl.slice
  obtain ⟨n1, n2, hb, hz⟩ := two_new w (.cells #[.string s] 9) (.cells #[.int .i8 0, .int .i64 0, .string ⟨#[]⟩, .string ⟨#[]⟩, .slice none 0 0] 29)
  have hn : ((w.alloc (.cells #[.string s] 9)).alloc (.cells #[.int .i8 0, .int .i64 0, .string ⟨#[]⟩, .string ⟨#[]⟩, .slice none 0 0] 29)).heap[w.heap.size + 1]? = some (.cells (cells5 zeroT (.slice none 0 0)) 29 (0, 0)) := n2
  have hs := one_cell n1
  have hL1 := hl.under hb
  have HL := Lib.hid hl
  clear hl n2 n1
  go_enter Tryz.func215, Tryz.ntmps215
  go_upto_region 1 with fail
  generalize (w.alloc (.cells #[.string s] 9)).alloc (.cells #[.int .i8 0, .int .i64 0, .string ⟨#[]⟩, .string ⟨#[]⟩, .slice none 0 0] 29) = w1 at hn hb hz hs hL1 ⊢
  have cI := indexF_any (P := fun b => b.s.toList == s.toList) (bs := w.heap.size) hL1 (fun x _ W sv hbW _ _ => find1_any (b := x) (sv := sv) ((hbW.cell (p := ⟨w.heap.size, 0, none⟩) (show w.heap.size < w1.heap.size by omega)).trans hs))
  have hlt1 : w.heap.size + 1 < w1.heap.size := by omega
  clear hL1
  rcases idx_cases (fun b : Bd => b.s.toList == s.toList) l with ⟨hi, hall⟩ | ⟨k, hlt, hi, hall, hp⟩
  · have HN := Lib.hid (find_none hall)
    rw [hi] at cI
    clear hall hi
    go_wp2_with (first
      | (go_at_call 65; refine cI.mono ?_; rintro e w5 ⟨rfl, hb5⟩; have hn5 := (hb5.block _ hlt1).trans hn; have hr := setRow_heap' (cells := cells5 zeroT (.slice none 0 0)) hn5; have hB := below_setRow (cells := cells5 zeroT (.slice none 0 0)) (hb.trans (hb5.mono hb.size)) (show w.heap.size ≤ w.heap.size + 1 by omega))
      | (refine wpList_store_row rfl 29 _ _ rfl (w.heap.size + 1) (cells5 zeroT (.slice none 0 0)) (by kernel_rfl) (by kernel_rfl) 29 (cells5 zeroT (.slice none 0 0)) hn5 (size28 _ _) (by kernel_rfl) (by kernel_rfl) ?_))
    refine bodyPost_ret (v := .tuple #[.agg (cells5 zeroT (.slice none 0 0)), .bool false]) (results_term Tryz.results215 _ _ _ _ _ rfl hr) rfl ⟨zeroT, _, ?_, zero_trv _ _, ?_, hB⟩
    · rw [HN.out]; rfl
    · rw [HN.out]; rfl
  · have HN := Lib.hid (find_here hlt hall hp)
    rw [hi] at cI
    clear hall hi hp
    obtain ⟨g, o, kv, rfl, _, hs0, hsz, hnode, hkid⟩ := HL.out.at hlt
    obtain ⟨p2, c2, rfl⟩ := hkid.kids.slice
    have hgl := cell_block hs0
    clear hs0 hsz
    go_wp2_with (first
      | (go_at_call 65; refine cI.mono ?_; rintro e w5 ⟨rfl, hb5⟩; have hn5 := (hb5.block _ hlt1).trans hn; have hr := setRow_heap' (cells := cells5 l[k].t (.slice p2 l[k].t.l.length c2)) hn5; have hB5 := hb.trans (hb5.mono hb.size); have hB := below_setRow (cells := cells5 l[k].t (.slice p2 l[k].t.l.length c2)) hB5 (show w.heap.size ≤ w.heap.size + 1 by omega); obtain ⟨a0, a1, a2, a3, a4⟩ := hnode.keep (hB5.block _ hnode.lt))
      | (refine wpList_store_row rfl 29 _ _ rfl (w.heap.size + 1) (cells5 l[k].t (.slice p2 l[k].t.l.length c2)) (by kernel_rfl) (by kernel_rfl) 29 (cells5 zeroT (.slice none 0 0)) hn5 (size28 _ _) (by kernel_rfl) (by kernel_rfl) ?_))
    refine bodyPost_ret (v := .tuple #[.agg (cells5 l[k].t (.slice p2 l[k].t.l.length c2)), .bool true]) (results_term Tryz.results215 _ _ _ _ _ rfl hr) rfl ⟨l[k].t, _, ?_, hkid.below hB, ?_, hB⟩
    · rw [HN.out]; rfl
    · rw [HN.out]; rfl
end Go.Proofs.YtlhobpknflobgaaGreatDoor
namespace Go.Proofs.YtlhobpknflobgaaGreatDoor
open Go.RowKit

theorem addr_add (g o j : Nat) : Addr.add ⟨g, o, none⟩ j = ⟨g, o + j, none⟩ := by
  unfold Addr.add
  split
  · rename_i h; subst h; rfl
  · rfl
theorem cells_at_new (W : World) (cs : List Value) (e : TypeId) (j : Nat) (u : Value) (h : cs[j]? = some u) : (W.alloc (.cells cs.toArray e)).cell? (Addr.add ⟨W.heap.size, 0, none⟩ j) = some u := by
  rw [addr_add, World.cell?_alloc_at _ _ _ _ (by simp)]
  simp only [List.getElem?_toArray, Nat.zero_add]
  exact h

/-- A bind's six cells. -/
def bcells (q : Bd × Value) : List Value := [.string q.1.s, .int .i8 q.1.t.k, .int .i64 q.1.t.n, .string q.1.t.s, .string q.1.t.t, q.2]
/-- A tree's five cells. -/
def tcells (q : Tr × Value) : List Value := [.int .i8 q.1.k, .int .i64 q.1.n, .string q.1.s, .string q.1.t, q.2]

theorem flat6 : ∀ (L : List (Bd × Value)) (k : Nat) (hk : k < L.length) (j : Nat), j < 6 → (L.flatMap bcells)[k * 6 + j]? = (bcells L[k])[j]?
  | q :: r, 0, _, j, hj => by
    simp only [List.flatMap_cons, Nat.zero_mul, Nat.zero_add, List.getElem_cons_zero]
    rw [List.getElem?_append_left (by simp [bcells]; omega)]
  | q :: r, k + 1, hk, j, hj => by
    have := flat6 r k (by simpa using hk) j hj
    simp only [List.flatMap_cons, List.getElem_cons_succ]
    rw [List.getElem?_append_right (by simp [bcells]; omega)]
    rw [show (k + 1) * 6 + j - (bcells q).length = k * 6 + j from by simp [bcells]; omega]
    exact this
theorem flat5 : ∀ (L : List (Tr × Value)) (k : Nat) (hk : k < L.length) (j : Nat), j < 5 → (L.flatMap tcells)[k * 5 + j]? = (tcells L[k])[j]?
  | q :: r, 0, _, j, hj => by
    simp only [List.flatMap_cons, Nat.zero_mul, Nat.zero_add, List.getElem_cons_zero]
    rw [List.getElem?_append_left (by simp [tcells]; omega)]
  | q :: r, k + 1, hk, j, hj => by
    have := flat5 r k (by simpa using hk) j hj
    simp only [List.flatMap_cons, List.getElem_cons_succ]
    rw [List.getElem?_append_right (by simp [tcells]; omega)]
    rw [show (k + 1) * 5 + j - (tcells q).length = k * 5 + j from by simp [tcells]; omega]
    exact this
theorem flat6_len (L : List (Bd × Value)) : (L.flatMap bcells).length = L.length * 6 := by
  induction L with
  | nil => rfl
  | cons q r ih => simp only [List.flatMap_cons, List.length_append, ih, List.length_cons]; simp [bcells]; omega
theorem flat5_len (L : List (Tr × Value)) : (L.flatMap tcells).length = L.length * 5 := by
  induction L with
  | nil => rfl
  | cons q r ih => simp only [List.flatMap_cons, List.length_append, ih, List.length_cons]; simp [tcells]; omega

/-- Binds that a row of the call's own holds. -/
theorem binds_row {F : Nat → Prop} {w : World} {base : Nat} {v : Value} {L : List (Bd × Value)} {T : TypeId} (h : w.ownsRow base T 6 v L.length (L.flatMap bcells)) (hF : ∀ k, base ≤ k → F k) (hL : ∀ q ∈ L, TrV F w q.1.t q.2 ∧ q.1.s.size ≤ BL * 64) (hb : L.length ≤ BL) :
    Binds F w v (L.map (·.1)) := by
  obtain ⟨_, h1⟩ := h
  rcases h1 with ⟨rfl, h0⟩ | ⟨g, cap, cur, rfl, hg, hh, hc, _, _, ht⟩
  · have : L = [] := List.eq_nil_of_length_eq_zero h0
    subst this
    exact Binds.nil F w
  · have hget : ∀ j, j < L.length * 6 → ∀ u, (L.flatMap bcells)[j]? = some u → w.cell? ⟨g, j, none⟩ = some u := by
      intro j hj u hu
      rw [← ht, List.getElem?_take, if_pos hj] at hu
      simp [World.cell?, hh]
      simpa using hu
    refine ⟨some ⟨g, 0, none⟩, cap, by simp, by simpa using hc, by simpa using hb, fun i hi => ?_, fun e => by cases e⟩
    have hi' : i < L.length := by simpa using hi
    have hm : (L.map (·.1))[i] = L[i].1 := by simp
    have hq := hL L[i] (List.getElem_mem hi')
    have hc := fun j (hj : j < 6) => hget (i * 6 + j) (by omega) 
    rw [hm]
    refine ⟨g, 0, L[i].2, rfl, hF g hg, ?_, hq.2, ⟨?_, ?_, ?_, ?_, ?_⟩, hq.1⟩
    · have := hc 0 (by omega) _ (by rw [flat6 L i hi' 0 (by omega)]; rfl); simpa using this
    · have := hc 1 (by omega) _ (by rw [flat6 L i hi' 1 (by omega)]; rfl); simpa using this
    · have := hc 2 (by omega) _ (by rw [flat6 L i hi' 2 (by omega)]; rfl); simpa using this
    · have := hc 3 (by omega) _ (by rw [flat6 L i hi' 3 (by omega)]; rfl); simpa using this
    · have := hc 4 (by omega) _ (by rw [flat6 L i hi' 4 (by omega)]; rfl); simpa using this
    · have := hc 5 (by omega) _ (by rw [flat6 L i hi' 5 (by omega)]; rfl); simpa using this

/-- Trees that a row of the call's own holds. -/
theorem kids_row {F : Nat → Prop} {w : World} {base : Nat} {v : Value} {L : List (Tr × Value)} {T : TypeId} (h : w.ownsRow base T 5 v L.length (L.flatMap tcells)) (hF : ∀ k, base ≤ k → F k) (hL : ∀ q ∈ L, TrV F w q.1 q.2) (hb : L.length ≤ BL) :
    Kids F w v (L.map (·.1)) := by
  obtain ⟨_, h1⟩ := h
  rcases h1 with ⟨rfl, h0⟩ | ⟨g, cap, cur, rfl, hg, hh, hc, _, _, ht⟩
  · have : L = [] := List.eq_nil_of_length_eq_zero h0
    subst this
    exact Kids.nil F w
  · have hget : ∀ j, j < L.length * 5 → ∀ u, (L.flatMap tcells)[j]? = some u → w.cell? ⟨g, j, none⟩ = some u := by
      intro j hj u hu
      rw [← ht, List.getElem?_take, if_pos hj] at hu
      simp [World.cell?, hh]
      simpa using hu
    have key : Kids F w (.slice (some ⟨g, 0, none⟩) (L.map (·.1)).length cap) (L.map (·.1)) := by
      refine .mk _ cap _ (fun i => ((L[i]?).map (·.2)).getD undef) (by simpa using hc) (by simpa using hb) (fun i hi => ?_) (fun i hi => ?_) (fun i hi => ?_)
      all_goals
        have hi' : i < L.length := by simpa using hi
        have hm : (L.map (·.1))[i] = L[i].1 := by simp
        have hq := hL L[i] (List.getElem_mem hi')
      · rw [hm]; exact hq.wf
      · have hc := fun j (hj : j < 5) => hget (i * 5 + j) (by omega)
        have hsv : ((L[i]?).map (·.2)).getD undef = L[i].2 := by simp [hi']
        rw [hm]
        refine ⟨g, 0, rfl, hF g hg, ⟨?_, ?_, ?_, ?_, ?_⟩⟩
        · have := hc 0 (by omega) _ (by rw [flat5 L i hi' 0 (by omega)]; rfl); simpa using this
        · have := hc 1 (by omega) _ (by rw [flat5 L i hi' 1 (by omega)]; rfl); simpa using this
        · have := hc 2 (by omega) _ (by rw [flat5 L i hi' 2 (by omega)]; rfl); simpa using this
        · have := hc 3 (by omega) _ (by rw [flat5 L i hi' 3 (by omega)]; rfl); simpa using this
        · have := hc 4 (by omega) _ (by rw [flat5 L i hi' 4 (by omega)]; rfl); rw [hsv]; simpa using this
      · have hsv : ((L[i]?).map (·.2)).getD undef = L[i].2 := by simp [hi']
        rw [hsv, hm]; exact hq.kids
    simpa using key

/-- Binds, with their cells in a row. -/
theorem Binds.cells {F : Nat → Prop} {w : World} {p : Option Addr} {n c : Nat} {l : List Bd} (h : Binds F w (.slice p n c) l) : ∃ L : List (Bd × Value), L.map (·.1) = l ∧ (∀ q ∈ L, TrV F w q.1.t q.2 ∧ q.1.s.size ≤ BL * 64) ∧ ∀ b, p = some b → ∀ j u, (L.flatMap bcells)[j]? = some u → w.cell? (b.add j) = some u := by
  have key : ∀ (m : List Bd) (k : Nat), (∀ i (h : i < m.length), BindAt F w p (k + i) m[i]) → ∃ L : List (Bd × Value), L.map (·.1) = m ∧ (∀ q ∈ L, TrV F w q.1.t q.2 ∧ q.1.s.size ≤ BL * 64) ∧ ∀ b, p = some b → ∀ j u, (L.flatMap bcells)[j]? = some u → w.cell? (b.add (k * 6 + j)) = some u := by
    intro m
    induction m with
    | nil => exact fun k _ => ⟨[], rfl, fun q hq => absurd hq (by simp), fun b _ j u hu => by simp at hu⟩
    | cons b m ih =>
      intro k hk
      obtain ⟨L, h1, h2, h3⟩ := ih (k + 1) (fun i hi => by have := hk (i + 1) (by simpa using hi); rwa [show k + (i + 1) = k + 1 + i from by omega] at this)
      obtain ⟨g, o, sv, hp, _, hs, hsz, hn, ht⟩ := hk 0 (by simp)
      refine ⟨(b, sv) :: L, by simp [h1], fun q hq => ?_, fun a ha j u hu => ?_⟩
      · rcases List.mem_cons.1 hq with rfl | hq
        · exact ⟨ht, hsz⟩
        · exact h2 q hq
      · rw [hp] at ha
        cases ha
        simp only [Nat.add_zero, List.getElem_cons_zero] at hs hn
        simp only [List.flatMap_cons] at hu
        rw [addr_add]
        by_cases hj : j < 6
        · rw [List.getElem?_append_left (by simpa [bcells] using hj)] at hu
          obtain ⟨a0, a1, a2, a3, a4⟩ := hn
          match j, hj with
          | 0, _ => simp [bcells] at hu; rw [← hu]; exact hs
          | 1, _ => simp [bcells] at hu; rw [← hu]; exact a0
          | 2, _ => simp [bcells] at hu; rw [← hu]; exact a1
          | 3, _ => simp [bcells] at hu; rw [← hu]; exact a2
          | 4, _ => simp [bcells] at hu; rw [← hu]; exact a3
          | 5, _ => simp [bcells] at hu; rw [← hu]; exact a4
        · rw [List.getElem?_append_right (by simp [bcells]; omega)] at hu
          have := h3 _ hp (j - (bcells (b, sv)).length) u hu
          rw [addr_add] at this
          rw [show o + (k * 6 + j) = o + ((k + 1) * 6 + (j - (bcells (b, sv)).length)) from by simp [bcells]; omega]
          exact this
  obtain ⟨p', c', he, _, _, hx⟩ := h
  cases he
  obtain ⟨L, h1, h2, h3⟩ := key l 0 (fun i hi => by rw [Nat.zero_add]; exact hx.1 i hi)
  exact ⟨L, h1, h2, fun b hb j u hu => by have := h3 b hb j u hu; simpa using this⟩
theorem bcells_plain {F : Nat → Prop} {w : World} {q : Bd × Value} (h : TrV F w q.1.t q.2) : ∀ u ∈ bcells q, u.oneCell' = true := by
  obtain ⟨p, c, e⟩ := h.kids.slice
  intro u hu
  simp only [bcells, List.mem_cons, List.not_mem_nil, or_false] at hu
  rcases hu with rfl | rfl | rfl | rfl | rfl | rfl
  all_goals first | rfl | (rw [e]; rfl)
theorem tcells_plain {F : Nat → Prop} {w : World} {q : Tr × Value} (h : TrV F w q.1 q.2) : ∀ u ∈ tcells q, u.oneCell' = true := by
  obtain ⟨p, c, e⟩ := h.kids.slice
  intro u hu
  simp only [tcells, List.mem_cons, List.not_mem_nil, or_false] at hu
  rcases hu with rfl | rfl | rfl | rfl | rfl
  all_goals first | rfl | (rw [e]; rfl)
end Go.Proofs.YtlhobpknflobgaaGreatDoor
