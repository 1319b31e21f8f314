/-
  The Web's method Gone, and maps.DeleteFunc at the Web's monitors. Conditions: the Web lies as 'Web' says; its maps are small.
-/
import Derived.Test.YtjkdmdddgiomjaaLink
import Derived.Deep.RegionHeld3
import Derived.Maps.RangeWalk
import Derived.Shelf.SlMaps.DeleteFunc
namespace Go.Proofs.Ytjkdmdddgiomjaa
open Go.RowKit Go.Maps

section
variable {w w' : World} {B N : Nat} {il : List (Int × Nat × List Int)} {S : Int → Int → Bool} {M : List (Int × Int × Int)} {last : Int} {bl bp bs : Nat}

set_option maxHeartbeats 400000 in
theorem gone_nil (w : World) (a : Int) : Calls Try.prog 32 #[.pointer none, .int .i64 a] w fun e w' => e = .returned (.tuple #[.slice none 0 0, .slice none 0 0, .int .i64 1]) ∧ Below w.heap.size w w' := by
  go_enter Try.func32, Try.ntmps32
  go_wp2
  go_ret3
  exact ⟨rfl, (Below.refl _ _).alloc (Nat.le_refl _) _⟩
set_option maxHeartbeats 400000 in
theorem gone_arg (B : Nat) (w : World) (a : Int) (ha : a < 1) : Calls Try.prog 32 #[.pointer (some ⟨B, 0, none⟩), .int .i64 a] w fun e w' => e = .returned (.tuple #[.slice none 0 0, .slice none 0 0, .int .i64 2]) ∧ Below w.heap.size w w' := by
  go_enter Try.func32, Try.ntmps32
  go_wp2
  go_ret3
  exact ⟨rfl, (Below.refl _ _).alloc (Nat.le_refl _) _⟩

set_option maxHeartbeats 400000 in
theorem gone1 (W : World) (k : Value) (r f t a : Int) (bx : Nat) (hx : W.cell? ⟨bx, 0, none⟩ = some (.int .i64 a)) :
    Calls Try.prog 45 (#[k, .agg #[.int .i64 r, .int .i64 f, .int .i64 t]] ++ #[.pointer (some ⟨bx, 0, none⟩)]) W fun e w' => e = .returned (.bool (f == a || t == a)) ∧ Below W.heap.size W w' := by
  have hl : bx < W.heap.size := by
    by_cases h : bx < W.heap.size
    · exact h
    · simp [World.cell?, show W.heap[bx]? = none from by simp; omega] at hx
  cases hf : (f == a)
  · go_enter Try.func45, Try.ntmps45
    go_wp2
    go_ret
    exact ⟨by simp, (Below.refl _ _).alloc (Nat.le_refl _) _⟩
  · go_enter Try.func45, Try.ntmps45
    go_wp2
    go_ret
    exact ⟨by simp, (Below.refl _ _).alloc (Nat.le_refl _) _⟩

def pdV (p : Int × Int × Int → Bool) : Value → Bool
  | .agg ⟨[.int _ r, .int _ f, .int _ t]⟩ => p (r, f, t)
  | _ => false
def pdD (p : Int × Int × Int → Bool) (_ : Lit) : DataW Value → Bool
  | .held v => pdV p v
  | _ => false
theorem pdV_seen (p : Int × Int × Int → Bool) (m : Int × Int × Int) : pdV p (seenV m) = p m := rfl

theorem delD_seen (p : Int × Int × Int → Bool) (M : List (Int × Int × Int)) : Lib.deleteFuncD (pdD p) (encL (M.map fun m => (m.1, seenV m))) = encL ((M.filter fun m => !p m).map fun m => (m.1, seenV m)) := by
  unfold encL Lib.deleteFuncD
  simp only [List.map_map]
  rw [List.filter_map]
  rfl
theorem srt_filter {M : List (Int × Int × Int)} (q : Int × Int × Int → Bool) (h : Srt (M.map fun m => (m.1, seenV m))) : Srt ((M.filter q).map fun m => (m.1, seenV m)) :=
  h.sublist (List.Sublist.map _ List.filter_sublist)

theorem came {es : List (Lit × DataW Value)} {kl : Lit} {d : DataW Value} (h : ∀ zd, (DataW.map es).atKey kl zd = d) : ∃ p ∈ es, p.2 = d ∧ p.1.sameKey kl = true := by
  have h1 := h .nil
  have h2 := h (.agg [])
  simp only [DataW.atKey] at h1 h2
  cases hf : es.find? (fun p => p.1.sameKey kl) with
  | none => rw [hf] at h1 h2; simp only at h1 h2; rw [← h1] at h2; cases h2
  | some p =>
    rw [hf] at h1
    exact ⟨p, List.mem_of_find?_eq_some hf, h1, by simpa using List.find?_some hf⟩

theorem below_grown {W W' : World} (h : Below W.heap.size W W') (r : Option Nat) : W.grownBy W' r := ⟨h.os, h.tape, h.output, h.size, fun k hk _ => h.block k hk⟩

set_option maxRecDepth 100000 in
set_option maxHeartbeats 4000000 in
theorem delete_seen (hI : IMap 3 w bs N (M.map fun m => (m.1, seenV m))) (p : Int × Int × Int → Bool) (g : Nat) (cb : Array Value) (eg : ∀ args w, (callFunc g args).run Try.prog w = .ok (.enter g args) w)
    (hcl : ∀ (W : World) m, m ∈ M → w.grownBy W (some bs) → Calls Try.prog g (#[.int .i64 m.1, .agg #[.int .i64 m.1, .int .i64 m.2.1, .int .i64 m.2.2]] ++ cb) W fun e w' => e = .returned (.bool (p m)) ∧ Below W.heap.size W w') :
    Calls Try.prog 44 #[.map (some bs), .func (.func g) #[] cb] w fun e w' => e = .returned (.tuple #[]) ∧ IMap 3 w' bs N ((M.filter fun m => !p m).map fun m => (m.1, seenV m)) ∧ w.grownBy w' (some bs) := by
  have K : Keyed Try.prog 3 := int_keyed Try.underlying3
  have hown := hI.own
  have hsrt := hI.srt
  have hkwf := hI.kwf
  obtain ⟨es0, hes, hap, hkeys⟩ := hown.entries K
  have hes' : es0 = (M.map fun m => (m.1, seenV m)).map encE := by simpa [encL] using hes.symm
  have hmem : ∀ q ∈ es0, ∃ m ∈ M, q = (.int .i64 m.1, .held (seenV m)) := by
    intro q hq
    rw [hes'] at hq
    simp only [List.map_map, List.mem_map, Function.comp] at hq
    obtain ⟨m, hm, rfl⟩ := hq
    exact ⟨m, hm, rfl⟩
  have hend : ∀ (w' : World) (left : Lit → Bool), (∀ kl, left kl = false) → w'.ownsMap Try.prog 3 anyR bs N (Fk (pdD p) es0 left) → IMap 3 w' bs N ((M.filter fun m => !p m).map fun m => (m.1, seenV m)) := by
    intro w' left hl ho
    rw [Fk_end hl, ← hes, delD_seen] at ho
    refine ⟨srt_filter _ hsrt, fun q hq => ?_, ho⟩
    obtain ⟨m, hm, rfl⟩ := List.mem_map.1 hq
    exact hkwf _ (List.mem_map.2 ⟨m, (List.mem_filter.1 hm).1, rfl⟩)
  rw [hes] at hown
  have HD := Lib.hid hcl
  have HE := Lib.hid hend
  have HM := Lib.hid hmem
  clear hcl hend hmem hes hes' hsrt hkwf hI
  go_enter Try.func44, Try.ntmps44
  go_wp2_with (first
    | (at_range; refine wpList_range_own _ rfl _ 57 rfl 3 53 K Try.underlying57 anyR bs N _ rfl hown ?_; intro w0 hrg0 hg0 hs0))
  go_frame
  go_loopw [8] (fun _ wr => ∃ (left : Lit → Bool) (cnt : Nat), wr.ranges Try.prog 3 anyR bs w.heap.size N (Fk (pdD p) es0 left) left cnt ∧ w.grownBy wr (some bs))
    (fun _ wr => wr.rangeLeft bs w.heap.size)
  case atStart => exact ⟨_, _, by rw [Fk_start hkeys]; exact hrg0, hg0.but _⟩
  case round =>
    obtain ⟨left, cnt, hrg, hgw⟩ := hrel
    go_wp2_with (first
      | (at_next; refine wpList_next_ranges _ rfl _ rfl 3 K anyR (Value.int .i64) id (fun key kl hkey => by obtain ⟨x, rfl, _⟩ := Maps.keyOf_int_inv Try.underlying3 hkey; exact ⟨x, rfl⟩) (fun v _ _ => ⟨v, rfl⟩) bs w.heap.size N _ _ _ rfl hrg ?_ ?_))
    · intro _ hl0
      go_wp2
      go_end0
      exact ⟨rfl, HE.out _ _ hl0 hrg.owns, hgw⟩
    · intro x c kl yd yp w1 cnt1 hkey hlx hv hat hrg1 hlt hg1 hs1 hen
      obtain rfl : yd = .held c := by simpa [anyR] using (congrArg Prod.fst (Option.some.inj hv)).symm
      obtain ⟨x', hx', rfl, hwx⟩ := Maps.keyOf_int_inv Try.underlying3 hkey
      cases hx'
      obtain ⟨q, hq, hq2, hq1⟩ := came (show ∀ zd, (DataW.map (es0.filter fun q => !pdD p q.1 q.2 || left q.1)).atKey (.int .i64 x) zd = .held c from hat)
      obtain ⟨m, hm, hqe⟩ := HM.out q (List.mem_filter.1 hq).1
      subst hqe
      obtain rfl : seenV m = c := by simpa using hq2
      obtain rfl : m.1 = x := by simpa [Lit.sameKey] using hq1
      clear hq hq1 hq2
      have hgw1 := hgw.andThen hg1 (fun j hj => by cases hj; exact Or.inl (Nat.le_refl _))
      have hc := HD.out (w1.alloc (.cells #[.int .i64 m.1, .int .i64 m.2.1, .int .i64 m.2.2] 53)) m hm (hgw1.andThen (World.grownBy_alloc w1 _ none) (fun j hj => by cases hj))
      have hrgA := hrg1.alloc (.cells #[.int .i64 m.1, .int .i64 m.2.1, .int .i64 m.2.2] 53)
      simp only [seenV] at hen
      have HH := Lib.hid hat
      clear hat hv
      cases hp : p m <;> rw [hp] at hc <;> have HP := Lib.hid hp <;> clear hp
      · go_wp2_with (go_at_fn g; refine hc.mono ?_; rintro e w2 ⟨rfl, hb2⟩)
        have hrg2 := hrgA.kept (below_grown hb2 none) (by simp) (by simp)
        go_roundw
        case rel => exact ⟨_, cnt1, by rw [← Fk_stays hap (K.key hkey) hlx (d := .held (seenV m)) HP.out HH.out]; exact hrg2, (hgw1.andThen (World.grownBy_alloc w1 _ none) (fun j hj => by cases hj)).andThen (below_grown hb2 none) (fun j hj => by cases hj)⟩
        case measure => rw [hrg2.left_eq, hrg.left_eq]; exact hlt
      · go_wp2_with (first
          | (go_at_fn g; refine hc.mono ?_; rintro e w2 ⟨rfl, hb2⟩; have hrg2 := hrgA.kept (below_grown hb2 none) (by simp) (by simp))
          | (at_delete; refine wpList_delete_ranges _ rfl _ _ 57 3 rfl 53 K Try.underlying57 anyR bs w.heap.size N _ _ _ rfl hrg2 _ _ rfl hkey ?_; intro w3 cnt3 hrg3 hle hturn; go_frame))
        rw [strike_twice] at hrg3
        go_roundw
        case rel => exact ⟨_, cnt3, by rw [← Fk_struck hap (K.key hkey) hlx (d := .held (seenV m)) HP.out HH.out]; exact hrg3, ((hgw1.andThen (World.grownBy_alloc w1 _ none) (fun j hj => by cases hj)).andThen (below_grown hb2 none) (fun j hj => by cases hj)).andThen hturn.grown (fun j hj => by cases hj; exact Or.inr rfl)⟩
        case measure => rw [hrg3.left_eq, hrg.left_eq]; omega

theorem ownsRow_turn {w w' : World} {T : Nat → Prop} {base : Nat} {e : TypeId} {size : Nat} {v : Value} {n : Nat} {xs : List Value} (h : w.ownsRow base e size v n xs) (ht : Turn T w w') (hT : ∀ k, base ≤ k → ¬ T k) : w'.ownsRow base e size v n xs := by
  obtain ⟨h1, h2⟩ := h
  refine ⟨h1, ?_⟩
  rcases h2 with h2 | ⟨g, cap, cur, hv, hg, hh, r⟩
  · exact .inl h2
  · exact .inr ⟨g, cap, cur, hv, hg, (ht.block g (Array.getElem?_eq_some_iff.1 hh).1 (hT g hg)).trans hh, r⟩

/-- What Gone does to the links: each neighbour is cut. -/
def goneF (a : Int) (l : List Int) (fs : (Int → List Int) × (Int → Int → Bool)) : (Int → List Int) × (Int → Int → Bool) :=
  l.foldl (fun fs b => (adj2 false a b fs.1, pairS false (min a b) (max a b) fs.2)) fs
theorem goneF_snoc (a b : Int) (l : List Int) (fs : (Int → List Int) × (Int → Int → Bool)) : goneF a (l ++ [b]) fs = (adj2 false a b (goneF a l fs).1, pairS false (min a b) (max a b) (goneF a l fs).2) := by
  simp [goneF]

theorem adj_wf (h : Web w B N il S M last bl bp bs) {a x : Int} (hx : x ∈ adj il a) : I64 x := by
  unfold adj at hx
  cases hq : look a il with
  | none => rw [hq] at hx; simp at hx
  | some q =>
    rw [hq] at hx
    exact (h.inner _ (look_mem hq)).kwf (x, .bool true) (List.mem_map.2 ⟨x, hx, rfl⟩)
theorem adj_len (h : Web w B N il S M last bl bp bs) (a : Int) : (adj il a).length ≤ N := by
  unfold adj
  cases hq : look a il with
  | none => simp
  | some q => simpa using (h.inner _ (look_mem hq)).length_le

structure GoneAt (w3 : World) (B N : Nat) (il : List (Int × Nat × List Int)) (M : List (Int × Int × Int)) (last : Int) (bl bp bs : Nat) (fs : (Int → List Int) × (Int → Int → Bool)) (wr : World) : Prop where
  web : ∃ il', Web wr B N il' fs.2 M last bl bp bs ∧ (∀ z, adj il' z = fs.1 z) ∧ (∀ j ∈ il'.map (·.2.1), j ∈ il.map (·.2.1) ∨ w3.heap.size ≤ j)
  turn : Turn (· ∈ wb B bl bp bs il) w3 wr

theorem adj2_congr {on : Bool} {a b : Int} {f g : Int → List Int} (h : ∀ z, f z = g z) : adj2 on a b f = adj2 on a b g := by
  have : f = g := funext h
  rw [this]

theorem wb_fresh {il il' : List (Int × Nat × List Int)} {n : Nat} (h : ∀ j ∈ il'.map (·.2.1), j ∈ il.map (·.2.1) ∨ n ≤ j) {k : Nat} (hk : k < n) (hm : k ∈ wb B bl bp bs il') : k ∈ wb B bl bp bs il := by
  simp only [wb, List.mem_cons] at hm ⊢
  rcases hm with hT | hT | hT | hT | hT
  · exact .inl hT
  · exact .inr (.inl hT)
  · exact .inr (.inr (.inl hT))
  · exact .inr (.inr (.inr (.inl hT)))
  · rcases h k hT with hT | hT
    · exact .inr (.inr (.inr (.inr hT)))
    · omega

def GoneRel (w3 : World) (B N : Nat) (il : List (Int × Nat × List Int)) (S : Int → Int → Bool) (M : List (Int × Int × Int)) (last : Int) (bl bp bs : Nat) (a : Int) (l : List Int) (i : Value) (wr : World) : Prop :=
  ∃ k : Nat, k ≤ l.length ∧ i = .int .i64 k ∧ GoneAt w3 B (N + 5 * k) il M last bl bp bs (goneF a (l.take k) (adj il, S)) wr

def GonePost (w : World) (B N : Nat) (il : List (Int × Nat × List Int)) (S : Int → Int → Bool) (M : List (Int × Int × Int)) (last : Int) (bl bp bs : Nat) (a : Int) (e : Ending) (w' : World) : Prop :=
  ∃ v v3, e = .returned (.tuple #[v, v3, .int .i64 0]) ∧ NewInts w w' v (adj il a) ∧ NewSeen w.heap.size w' v3 (M.filter fun m => m.2.2 == a) ∧
    Left w B (N + 5 * (adj il a).length) il bl bp bs (goneF a (adj il a) (adj il, S)).1 (goneF a (adj il a) (adj il, S)).2 (M.filter fun m => !(m.2.1 == a || m.2.2 == a)) last w'

set_option maxRecDepth 100000 in
set_option maxHeartbeats 1000000 in
theorem gone_any (h : Web w B N il S M last bl bp bs) {a : Int} (hN : N + 5 * (adj il a).length + 12 < BN) (ha : I64 a) (ha1 : 1 ≤ a) :
    Calls Try.prog 32 #[.pointer (some ⟨B, 0, none⟩), .int .i64 a] w (GonePost w B N il S M last bl bp bs a) := by
  have hA : Below w.heap.size w (w.alloc (.cells #[.int .i64 a] 3)) := (Below.refl _ _).alloc (Nat.le_refl _) _
  have hWd : Web (w.alloc (.cells #[.int .i64 a] 3)).drew B N il S M last bl bp bs := (h.block hA).drewN 1
  have hbx : (w.alloc (.cells #[.int .i64 a] 3)).cell? ⟨w.heap.size, 0, none⟩ = some (.int .i64 a) := cell_one_box _ _ _
  have hlt : ∀ k ∈ wb B bl bp bs il, k < w.heap.size := fun k hk => h.lt hk
  have hlen := adj_len h a
  have hwf : ∀ x ∈ adj il a, I64 x := fun x hx => adj_wf h hx
  have hNB : N ≤ BN := by omega
  clear h
  go_enter Try.func32, Try.ntmps32
  go_wp2
  generalize hw1 : w.alloc (.cells #[.int .i64 a] 3) = w1 at hWd hbx hA ⊢
  have hs1 : w.heap.size < w1.heap.size := by rw [← hw1]; simp
  clear hw1
  go_region_held3 (fun w' => w'.cell? ⟨w.heap.size, 0, none⟩ = some (.int .i64 a)) (first | exact hbx | exact hc2 | exact hc3) (first
    | (go_at_call 11; refine (links_any hWd ha hNB).mono ?_; rintro e w2 ⟨v, rfl, hv, hb⟩; have hc2 : w2.cell? ⟨w.heap.size, 0, none⟩ = some (.int .i64 a) := (hb.cell hs1).trans hbx; have hW2 := hWd.block hb)
    | (go_at_call 26; refine (watchers_any hW2 hNB a).mono ?_; rintro e w3 ⟨v3, rfl, hv3, hb3⟩; have hc3 : w3.cell? ⟨w.heap.size, 0, none⟩ = some (.int .i64 a) := (hb3.cell (Nat.lt_of_lt_of_le hs1 hb.size)).trans hc2))
  have hW3 := hW2.block hb3
  have hb' : Below w1.heap.size w1 w2 := ⟨hb.os, hb.tape, hb.output, hb.size, hb.block⟩
  have hT3 : Turn (fun _ => False) w w3 := ((Turn.of_below hA).trans (Turn.of_below hb')).trans (Turn.of_below hb3)
  have hs2 : w1.heap.size ≤ w2.heap.size := hb'.size
  have hs3 := hb3.size
  have hv1 : w3.ownsRow w1.heap.size 3 1 v (adj il a).length ((adj il a).map (Value.int .i64)) := ownsRow_below hv.1 hb3
  have hv2 : v = .slice none 0 0 ↔ adj il a = [] := hv.2
  have hv3' : NewSeen w1.heap.size w3 v3 (M.filter fun m => m.2.2 == a) := ⟨ownsRow_base_a hv3.1 hs2, hv3.2⟩
  have hTn : ∀ k, w1.heap.size ≤ k → ¬ k ∈ wb B bl bp bs il := fun k hk hm => by have := hlt k hm; omega
  have hEnd : ∀ wr w', GoneAt w3 B (N + 5 * (adj il a).length) il M last bl bp bs (goneF a (adj il a) (adj il, S)) wr → IMap 3 w' bs (N + 5 * (adj il a).length) ((M.filter fun m => !(m.2.1 == a || m.2.2 == a)).map fun m => (m.1, seenV m)) → wr.grownBy w' (some bs) → GonePost w B N il S M last bl bp bs a (.returned (.tuple #[v, v3, .int .i64 0])) w' := by
    intro wr w' hG hI hg
    obtain ⟨⟨il', hWr, had, hfr⟩, hTr⟩ := hG
    have hTb : Turn (· = bs) wr w' := ⟨hg.os, hg.tape, hg.output, hg.size, fun k hk hne => hg.block k hk (by simpa using hne)⟩
    have hT' : Turn (· ∈ wb B bl bp bs il) w3 w' := hTr.comp hTb fun k _ e => by subst e; simp [wb]
    refine ⟨v, v3, rfl, ⟨ownsRow_base_a (ownsRow_turn hv1 hT' hTn) (Nat.le_of_lt hs1), hv2⟩, ⟨ownsRow_base_a (ownsRow_turn hv3'.1 hT' hTn) (Nat.le_of_lt hs1), hv3'.2⟩, ⟨il', (hWr.drop hTb hI (Nat.le_refl _)).mono (by omega), had, fun j hj => ?_⟩, (hT3.mono (T' := (· ∈ wb B bl bp bs il)) fun _ _ h => h.elim).trans hT'⟩
    exact (hfr j hj).imp id fun h => Nat.le_trans hT3.size h
  have HEnd := Lib.hid hEnd
  clear hEnd hb hb' hb3 hA hWd hbx hc2 hW2
  rcases ints_cases hv1 hv2 with ⟨rfl, hnil⟩ | ⟨g, cap, rfl, hg1, hg2, hcap, hcells, hpos⟩
  · have hG : GoneAt w3 B (N + 5 * (adj il a).length) il M last bl bp bs (goneF a (adj il a) (adj il, S)) w3 := by
      rw [hnil]
      exact ⟨⟨il, hW3.mono (by omega), fun _ => rfl, fun _ h => .inl h⟩, Turn.refl _ _⟩
    obtain ⟨⟨il', hWr, had, hfr⟩, hTr⟩ := hG
    have HV := Lib.hid hv1
    have HX := Lib.hid hv2
    have HV3 := Lib.hid hv3'
    clear hv1 hv2 hv3' hv3 hv hnil
    go_wp2_with fail
    go_loop [23] (fun i => i = .int .i64 0) (fun _ => 0)
    case atStart => rfl
    case round =>
      obtain rfl := hrel
      have hc2r := hWr.cell2
      have hbs : w.heap.size ≠ bs := fun e => by have := hlt bs (by simp [wb]); omega
      have hbxr : w3.cell? ⟨w.heap.size, 0, none⟩ = some (.int .i64 a) := (hTr.cell (by omega) (fun hm => by have := hlt _ hm; omega)).trans hc3
      have cD := delete_seen hWr.seen (fun m => m.2.1 == a || m.2.2 == a) 45 #[.pointer (some ⟨w.heap.size, 0, none⟩)] (enters_of Try.func45 (by kernel_rfl) rfl) (fun W m _ hW => gone1 W (.int .i64 m.1) m.1 m.2.1 m.2.2 a w.heap.size (hW.cell hbxr (fun e => hbs (Option.some.inj e))))
      go_wp2_with (go_at_call 44; refine cD.mono ?_; rintro e w' ⟨rfl, hI', hg'⟩)
      go_ret3
      exact HEnd.out w3 w' ⟨⟨il', hWr, had, hfr⟩, hTr⟩ hI' hg'
  · go_wp2_with fail
    go_loopw [23] (fun i wr => GoneRel w3 B N il S M last bl bp bs a (adj il a) i wr) (fun i _ => (adj il a).length - (intOf i).toNat)
    case atStart => exact ⟨0, Nat.zero_le _, rfl, ⟨⟨il, hW3, fun _ => rfl, fun _ h => .inl h⟩, Turn.refl _ _⟩⟩
    case round =>
      obtain ⟨k, hk, rfl, ⟨il', hWr, had, hfr⟩, hTr⟩ := hrel
      by_cases hkl : k < (adj il a).length
      · have hkb : (adj il a).length ≤ 1099511627776 := Nat.le_trans hlen hNB
        have hb1 : I64 (adj il a)[k] := hwf _ (List.getElem_mem _)
        have hcell : wr.cell? ⟨g, k, none⟩ = some (.int .i64 (adj il a)[k]) := (hTr.cell hg2 (hTn g hg1)).trans (hcells k hkl)
        have hbxr : wr.cell? ⟨w.heap.size, 0, none⟩ = some (.int .i64 a) := (hTr.cell (by omega) (fun hm => by have := hlt _ hm; omega)).trans hc3
        have cS := set_off hWr (by omega) ha hb1
        have HC := Lib.hid hcells
        have HT := Lib.hid hTn
        have HL := Lib.hid hlt
        have HW := Lib.hid hwf
        clear hcells hTn hlt hwf
        go_wp2_with (go_at_call 40; refine cS.mono ?_; rintro e w4 ⟨rfl, il2, h1, h2, h3, h4⟩)
        go_roundw
        case rel =>
          refine ⟨k + 1, hkl, by go_num, ?_⟩
          rw [List.take_succ_eq_append_getElem hkl, goneF_snoc]
          refine ⟨⟨il2, h1.mono (by omega), fun z => ?_, fun j hj => ?_⟩, hTr.comp h4 fun j hj hm => wb_fresh hfr hj hm⟩
          · rw [h2, adj2_congr had]
          · rcases h3 j hj with h | h
            · exact hfr j h
            · exact .inr (Nat.le_trans hTr.size h)
        case measure => simp [intOf]; omega
      · obtain rfl : k = (adj il a).length := by omega
        rw [List.take_length] at hWr had
        have hc2r := hWr.cell2
        have hbs : w.heap.size ≠ bs := fun e => by have := hlt bs (by simp [wb]); omega
        have hbxr : wr.cell? ⟨w.heap.size, 0, none⟩ = some (.int .i64 a) := (hTr.cell (by omega) (fun hm => by have := hlt _ hm; omega)).trans hc3
        have cD := delete_seen hWr.seen (fun m => m.2.1 == a || m.2.2 == a) 45 #[.pointer (some ⟨w.heap.size, 0, none⟩)] (enters_of Try.func45 (by kernel_rfl) rfl) (fun W m _ hW => gone1 W (.int .i64 m.1) m.1 m.2.1 m.2.2 a w.heap.size (hW.cell hbxr (fun e => hbs (Option.some.inj e))))
        go_wp2_with (go_at_call 44; refine cD.mono ?_; rintro e w' ⟨rfl, hI', hg'⟩)
        go_ret3
        exact HEnd.out wr w' ⟨⟨il', hWr, had, hfr⟩, hTr⟩ hI' hg'
end
end Go.Proofs.Ytjkdmdddgiomjaa
