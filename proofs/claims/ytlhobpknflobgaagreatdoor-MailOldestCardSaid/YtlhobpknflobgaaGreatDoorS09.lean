/-
  ast.atom; the rules of leaves; ast.each, the rules of parts. Conditions: as said.
  The rules of leaves and of parts: ast.leaves$1 to $4, each, parts$1, $2. Conditions: as said.
  The rules of parts: ast.parts$1, $2. Conditions: as said.
  The table of a pattern's rules: ast.leaves, parts. Conditions: as said.
-/
import Derived.Test.YtlhobpknflobgaaGreatDoorS08
import Derived.Laws.Tables
import Derived.Laws.Rows
namespace Go.Proofs.YtlhobpknflobgaaGreatDoor
open Go.RowKit

theorem words_at (w : World) (T : TypeId) : WordsAt (w.alloc (.cells #[.string ⟨#[97, 102, 116, 101, 114]⟩, .string ⟨#[99, 97, 115, 101]⟩, .string ⟨#[99, 97, 116, 99, 104]⟩, .string ⟨#[99, 111, 110, 102, 105, 103]⟩, .string ⟨#[100, 105, 118]⟩, .string ⟨#[101, 110, 100]⟩, .string ⟨#[102, 117, 110]⟩, .string ⟨#[109, 111, 100, 117, 108, 101]⟩, .string ⟨#[111, 102]⟩, .string ⟨#[114, 101, 99, 101, 105, 118, 101]⟩, .string ⟨#[114, 101, 109]⟩, .string ⟨#[116, 114, 121]⟩, .string ⟨#[119, 104, 101, 110]⟩] T)) w.heap.size words13 := by
  intro k hk
  match k, hk with
  | 0, _ => exact ⟨⟨#[97, 102, 116, 101, 114]⟩, by rw [World.cell?_alloc_at _ _ _ _ (by simp)]; rfl, by rw [ByteArray.toList_eq]; rfl⟩
  | 1, _ => exact ⟨⟨#[99, 97, 115, 101]⟩, by rw [World.cell?_alloc_at _ _ _ _ (by simp)]; rfl, by rw [ByteArray.toList_eq]; rfl⟩
  | 2, _ => exact ⟨⟨#[99, 97, 116, 99, 104]⟩, by rw [World.cell?_alloc_at _ _ _ _ (by simp)]; rfl, by rw [ByteArray.toList_eq]; rfl⟩
  | 3, _ => exact ⟨⟨#[99, 111, 110, 102, 105, 103]⟩, by rw [World.cell?_alloc_at _ _ _ _ (by simp)]; rfl, by rw [ByteArray.toList_eq]; rfl⟩
  | 4, _ => exact ⟨⟨#[100, 105, 118]⟩, by rw [World.cell?_alloc_at _ _ _ _ (by simp)]; rfl, by rw [ByteArray.toList_eq]; rfl⟩
  | 5, _ => exact ⟨⟨#[101, 110, 100]⟩, by rw [World.cell?_alloc_at _ _ _ _ (by simp)]; rfl, by rw [ByteArray.toList_eq]; rfl⟩
  | 6, _ => exact ⟨⟨#[102, 117, 110]⟩, by rw [World.cell?_alloc_at _ _ _ _ (by simp)]; rfl, by rw [ByteArray.toList_eq]; rfl⟩
  | 7, _ => exact ⟨⟨#[109, 111, 100, 117, 108, 101]⟩, by rw [World.cell?_alloc_at _ _ _ _ (by simp)]; rfl, by rw [ByteArray.toList_eq]; rfl⟩
  | 8, _ => exact ⟨⟨#[111, 102]⟩, by rw [World.cell?_alloc_at _ _ _ _ (by simp)]; rfl, by rw [ByteArray.toList_eq]; rfl⟩
  | 9, _ => exact ⟨⟨#[114, 101, 99, 101, 105, 118, 101]⟩, by rw [World.cell?_alloc_at _ _ _ _ (by simp)]; rfl, by rw [ByteArray.toList_eq]; rfl⟩
  | 10, _ => exact ⟨⟨#[114, 101, 109]⟩, by rw [World.cell?_alloc_at _ _ _ _ (by simp)]; rfl, by rw [ByteArray.toList_eq]; rfl⟩
  | 11, _ => exact ⟨⟨#[116, 114, 121]⟩, by rw [World.cell?_alloc_at _ _ _ _ (by simp)]; rfl, by rw [ByteArray.toList_eq]; rfl⟩
  | 12, _ => exact ⟨⟨#[119, 104, 101, 110]⟩, by rw [World.cell?_alloc_at _ _ _ _ (by simp)]; rfl, by rw [ByteArray.toList_eq]; rfl⟩
theorem WordsAt.under {w w' : World} {b : Nat} {l : List (List UInt8)} (h : WordsAt w b l) (hb : Below w.heap.size w w') : WordsAt w' b l := fun k hk => by
  obtain ⟨u, h1, h2⟩ := h k hk
  exact ⟨u, (hb.cell (p := ⟨b, k, none⟩) (cell_block h1)).trans h1, h2⟩

set_option maxHeartbeats 2000000 in
set_option maxRecDepth 100000 in
theorem tatom_any {w : World} (hL : Letters w) (s : ByteArray) (hs : s.size ≤ 140737488355328) :
    Calls Tryz.prog 183 #[.string s] w fun e w' => e = .returned (.bool (atomN s)) ∧ Below w.heap.size w w' := by
  have hW := words_at w 9
  have hB := alloc_below w (.cells #[.string ⟨#[97, 102, 116, 101, 114]⟩, .string ⟨#[99, 97, 115, 101]⟩, .string ⟨#[99, 97, 116, 99, 104]⟩, .string ⟨#[99, 111, 110, 102, 105, 103]⟩, .string ⟨#[100, 105, 118]⟩, .string ⟨#[101, 110, 100]⟩, .string ⟨#[102, 117, 110]⟩, .string ⟨#[109, 111, 100, 117, 108, 101]⟩, .string ⟨#[111, 102]⟩, .string ⟨#[114, 101, 99, 101, 105, 118, 101]⟩, .string ⟨#[114, 101, 109]⟩, .string ⟨#[116, 114, 121]⟩, .string ⟨#[119, 104, 101, 110]⟩] 9)
  have cM := mayA_any (hL.under hB) s hs
  have hU : atomN s = (mayA s && !(words13.any fun u => s.toList == u)) := rfl
  have HU := Lib.hid hU
  clear hL hU
  go_enter Tryz.func183, Tryz.ntmps183
  go_upto_region 2 with fail
  generalize w.alloc (.cells #[.string ⟨#[97, 102, 116, 101, 114]⟩, .string ⟨#[99, 97, 115, 101]⟩, .string ⟨#[99, 97, 116, 99, 104]⟩, .string ⟨#[99, 111, 110, 102, 105, 103]⟩, .string ⟨#[100, 105, 118]⟩, .string ⟨#[101, 110, 100]⟩, .string ⟨#[102, 117, 110]⟩, .string ⟨#[109, 111, 100, 117, 108, 101]⟩, .string ⟨#[111, 102]⟩, .string ⟨#[114, 101, 99, 101, 105, 118, 101]⟩, .string ⟨#[114, 101, 109]⟩, .string ⟨#[116, 114, 121]⟩, .string ⟨#[119, 104, 101, 110]⟩] 9) = w1 at hW hB cM ⊢
  have HW := Lib.hid hW
  clear hW
  have cC := fun (W : World) (hb : Below w1.heap.size w1 W) => scontains_any (c := 13) (HW.out.under hb) (by decide) s
  cases hm : mayA s
  all_goals
    have HM := Lib.hid hm
    rw [hm] at cM
    clear hm
    go_wp2_with (first
      | (go_at_call 162; refine cM.mono ?_; rintro e w5 ⟨rfl, hb5⟩)
      | (go_at_call 143; refine (cC _ hb5).mono ?_; rintro e w' ⟨rfl, rfl⟩))
    go_ret
    exact ⟨by rw [HU.out, HM.out]; rfl, hB.trans (hb5.mono hB.size)⟩
end Go.Proofs.YtlhobpknflobgaaGreatDoor
namespace Go.Proofs.YtlhobpknflobgaaGreatDoor
open Go.RowKit

set_option maxHeartbeats 2000000 in
set_option maxRecDepth 100000 in
theorem lf1_any {w : World} {g o : Nat} {x : Tr} {p : Option Addr} {c : Nat} (h : NodeAt w g o x (.slice p x.l.length c)) (hw : NodeWf x) :
    Calls Tryz.prog 179 #[.pointer (some ⟨g, o, none⟩)] w fun e w' => e = .returned (.bool (bareB x false true false false && nameA x.s)) ∧ Below w.heap.size w w' := by
  have cO := only_any h false true false false
  have hS := wf_s hw
  have h2 := h.s
  have hlt := h.lt
  clear h hw
  cases hb : bareB x false true false false
  all_goals
    rw [hb] at cO
    clear hb
    go_enter Tryz.func179, Tryz.ntmps179
    go_wp2_with (first
      | (go_at_call 142; refine cO.mono ?_; rintro e w5 ⟨rfl, hb5⟩; have h2 := (hb5.cell (p := ⟨g, o + 2, none⟩) hlt).trans h2)
      | (go_at_call 180; refine (tname_any _ _ hS).mono ?_; rintro e w6 ⟨rfl, hb6⟩))
  · go_ret
    exact ⟨rfl, hb5⟩
  · go_ret
    exact ⟨by simp, hb5.trans (hb6.mono hb5.size)⟩
set_option maxHeartbeats 2000000 in
set_option maxRecDepth 100000 in
theorem lf2_any {w : World} {g o : Nat} {x : Tr} {p : Option Addr} {c : Nat} (h : NodeAt w g o x (.slice p x.l.length c)) :
    Calls Tryz.prog 181 #[.pointer (some ⟨g, o, none⟩)] w fun e w' => e = .returned (.bool (bareB x true false false false && mayI x.n)) ∧ Below w.heap.size w w' := by
  have cO := only_any h true false false false
  have h2 := h.n
  have hlt := h.lt
  clear h
  cases hb : bareB x true false false false
  all_goals
    rw [hb] at cO
    clear hb
    go_enter Tryz.func181, Tryz.ntmps181
    go_wp2_with (first
      | (go_at_call 142; refine cO.mono ?_; rintro e w5 ⟨rfl, hb5⟩; have h2 := (hb5.cell (p := ⟨g, o + 1, none⟩) hlt).trans h2)
      | (go_at_call 154; refine (intsMay_any _ _).mono ?_; rintro e w' ⟨rfl, rfl⟩))
  · go_ret
    exact ⟨rfl, hb5⟩
  · go_ret
    exact ⟨by simp, hb5⟩
set_option maxHeartbeats 2000000 in
set_option maxRecDepth 100000 in
theorem lf3_any {w : World} (hL : Letters w) {g o : Nat} {x : Tr} {p : Option Addr} {c : Nat} (h : NodeAt w g o x (.slice p x.l.length c)) (hw : NodeWf x) :
    Calls Tryz.prog 182 #[.pointer (some ⟨g, o, none⟩)] w fun e w' => e = .returned (.bool (bareB x false true false false && atomN x.s)) ∧ Below w.heap.size w w' := by
  have cO := only_any h false true false false
  have hS := wf_s hw
  have h2 := h.s
  have hlt := h.lt
  clear h hw
  cases hb : bareB x false true false false
  all_goals
    rw [hb] at cO
    clear hb
    go_enter Tryz.func182, Tryz.ntmps182
    go_wp2_with (first
      | (go_at_call 142; refine cO.mono ?_; rintro e w5 ⟨rfl, hb5⟩; have h2 := (hb5.cell (p := ⟨g, o + 2, none⟩) hlt).trans h2)
      | (go_at_call 183; refine (tatom_any (hL.under hb5) _ hS).mono ?_; rintro e w6 ⟨rfl, hb6⟩))
  · go_ret
    exact ⟨rfl, hb5⟩
  · go_ret
    exact ⟨by simp, hb5.trans (hb6.mono hb5.size)⟩
set_option maxHeartbeats 1000000 in
theorem lf4_any {w : World} {g o : Nat} {x : Tr} {p : Option Addr} {c : Nat} (h : NodeAt w g o x (.slice p x.l.length c)) :
    Calls Tryz.prog 184 #[.pointer (some ⟨g, o, none⟩)] w fun e w' => e = .returned (.bool (bareB x false false false false)) ∧ Below w.heap.size w w' := by
  have cO := only_any h false false false false
  clear h
  go_enter Tryz.func184, Tryz.ntmps184
  go_wp2_with (go_at_call 142; refine cO.mono ?_; rintro e w5 ⟨rfl, hb5⟩)
  go_ret
  exact ⟨rfl, hb5⟩

/-- What a rule says of each of some trees. -/
def RuleSays (F : Nat → Prop) (N : FuncId) (P : Tr → Bool) (w : World) (x : Tr) : Prop := ∀ (W : World) (g o : Nat) (sv : Value), Below w.heap.size w W → NodeAt W g o x sv → TrV F W x sv →
  Calls Tryz.prog N #[.pointer (some ⟨g, o, none⟩)] W fun e w' => e = .returned (.bool (P x)) ∧ Below W.heap.size W w'
theorem RuleSays.under {F : Nat → Prop} {N : FuncId} {P : Tr → Bool} {w w' : World} {x : Tr} (h : RuleSays F N P w x) (hb : Below w.heap.size w w') : RuleSays F N P w' x := fun W g o sv hW => h W g o sv (hb.trans (hW.mono hb.size))

set_option maxHeartbeats 2000000 in
set_option maxRecDepth 100000 in
theorem each_any {F : Nat → Prop} {P : Tr → Bool} {l : List Tr} {w : World} {v : Value} (hl : Kids F w v l) (hf : ∀ x ∈ l, RuleSays F 160 P w x) :
    Calls Tryz.prog 144 #[v, .func (Fn.func 160) #[] #[]] w fun e w' => e = .returned (.bool (l.all P)) ∧ Below w.heap.size w w' := by
  obtain ⟨p, c, rfl⟩ := hl.slice
  have hlen : l.length ≤ 2199023255552 := hl.len
  have HF := Lib.hid hf
  have HL := Lib.hid hl
  clear hf hl
  go_enter Tryz.func144, Tryz.ntmps144
  go_wp2
  go_loopw [8] (fun i wr => ∃ k : Nat, k ≤ l.length ∧ i = .int .i64 k ∧ (l.take k).all P = true ∧ Below w.heap.size w wr) (fun i _ => l.length - (intOf i).toNat)
  case atStart => exact ⟨0, Nat.zero_le _, rfl, rfl, Below.refl _ _⟩
  case round =>
    obtain ⟨k, hk, rfl, hall, hbr⟩ := hrel
    by_cases hlt : k < l.length
    · obtain ⟨g, o, kv, rfl, _, hnode, hkid⟩ := (HL.out.under hbr).at hlt
      have cK := HF.out l[k] (List.getElem_mem hlt) wr g (o + k * 5) kv hbr hnode hkid
      cases hq : P l[k]
      · have hfin : l.all P = false := by
          rw [Bool.eq_false_iff]; intro h
          have := List.all_eq_true.1 h _ (List.getElem_mem hlt)
          rw [hq] at this; cases this
        rw [hq] at cK
        have HN := Lib.hid hfin
        clear hfin hall hq hkid
        go_wp2_with (go_at_call 160; refine cK.mono ?_; rintro e w5 ⟨rfl, hb5⟩)
        go_ret
        exact ⟨by rw [HN.out]; rfl, hbr.trans (hb5.mono hbr.size)⟩
      · have hnext : (l.take (k + 1)).all P = true := by
          rw [List.take_succ_eq_append_getElem hlt, List.all_append, hall]; simp [hq]
        rw [hq] at cK
        have HN := Lib.hid hnext
        clear hnext hall hq hkid
        go_wp2_with (go_at_call 160; refine cK.mono ?_; rintro e w5 ⟨rfl, hb5⟩)
        go_roundw
        case rel => exact ⟨k + 1, hlt, by go_num, HN.out, hbr.trans (hb5.mono hbr.size)⟩
        case measure => simp [intOf]; omega
    · rw [List.take_of_length_le (by omega)] at hall
      have HN := Lib.hid hall
      clear hall
      go_wp2
      go_ret
      exact ⟨by rw [HN.out]; rfl, hbr⟩
end Go.Proofs.YtlhobpknflobgaaGreatDoor
namespace Go.Proofs.YtlhobpknflobgaaGreatDoor
open Go.RowKit

set_option maxHeartbeats 4000000 in
set_option maxRecDepth 100000 in
theorem pt1_any {F : Nat → Prop} {P : Tr → Bool} {w : World} {g o bm : Nat} {x : Tr} {sv : Value} (h : NodeAt w g o x sv) (hx : TrV F w x sv) (hm : w.cell? ⟨bm, 0, none⟩ = some (.func (Fn.func 160) #[] #[])) (hf : ∀ y ∈ x.l, RuleSays F 160 P w y) :
    Calls Tryz.prog 185 #[.pointer (some ⟨g, o, none⟩), .pointer (some ⟨bm, 0, none⟩)] w fun e w' => e = .returned (.bool (bareB x false false false true && x.l.all P)) ∧ Below w.heap.size w w' := by
  obtain ⟨p, c, rfl⟩ := hx.kids.slice
  have hd : Below w.heap.size w w.drew := below_drewN (Below.refl _ _) 1
  have cO := only_any (h.keep (hd.block g h.lt)) false false false true
  have h4 := h.l
  have hmv : ∀ W : World, Below w.heap.size w W → W.cell? ⟨g, o + 4, none⟩ = some (.slice p x.l.length c) ∧ W.cell? ⟨bm, 0, none⟩ = some (.func (Fn.func 160) #[] #[]) := fun W hb =>
    ⟨(hb.cell (p := ⟨g, o + 4, none⟩) (cell_block h4)).trans h4, (hb.cell (p := ⟨bm, 0, none⟩) (cell_block hm)).trans hm⟩
  have cE := fun (W : World) (hb : Below w.heap.size w W) => each_any (P := P) (hx.kids.under hb) fun y hy => (hf y hy).under hb
  have hS0 := hmv w (Below.refl _ _)
  clear h hx hf h4 hm
  cases hb : bareB x false false false true
  · rw [hb] at cO
    clear hb cE
    go_enter Tryz.func185, Tryz.ntmps185
    go_wp2_with fail
    refine wp_region_any (by kernel_rfl) ?_
    change wpAny _ _ _ _ _ _ _ (World.drew _)
    refine wpAny_take (i := 0) (v := ?_) rfl (by kernel_rfl) (by kernel_rfl) (by kernel_rfl) (fun _ _ _ h => h) (Or.inl ⟨by rfl, ?_⟩) ?_
    rotate_left 1
    (intro w; go_simp; try with_reducible rfl)
    (try simp only [List.getElem_toArray, List.getElem_cons_zero, Act.put, List.setIfInBounds_toArray, List.set_cons_zero, List.set_cons_succ])
    refine wpAny_take (i := 1) (v := ?_) rfl (by kernel_rfl) (by kernel_rfl) (by kernel_rfl) (fun _ _ _ h => h) (Or.inl ⟨by rfl, ?_⟩) ?_
    rotate_left 1
    (intro w; go_simp; try with_reducible rfl)
    (try simp only [List.getElem_toArray, List.getElem_cons_succ, List.getElem_cons_zero, Act.put, List.setIfInBounds_toArray, List.set_cons_zero, List.set_cons_succ])
    refine wpAny_ready (rs := [2]) (by kernel_rfl) (by simp) ?_
    refine AllReady.cons rfl (fun K hK => ?_) AllReady.nil
    go_simp
    go_wp2_with (go_at_call 142; refine cO.mono ?_; rintro e w5 ⟨rfl, hb5⟩)
    (try (refine hK _ _ ?_; clear hK K))
    refine wpAny_take (i := 3) (v := ?_) rfl (by kernel_rfl) (by kernel_rfl) (by kernel_rfl) (fun _ _ _ h => h) (Or.inl ⟨by rfl, ?_⟩) ?_
    rotate_left 1
    (intro w; go_simp; try with_reducible rfl)
    (try simp only [List.getElem_toArray, List.getElem_cons_succ, List.getElem_cons_zero, Act.put, List.setIfInBounds_toArray, List.set_cons_zero, List.set_cons_succ])
    refine wpAny_take (i := 4) (v := undef) rfl (by kernel_rfl) (by kernel_rfl) (by kernel_rfl) (fun _ _ _ h => h) (Or.inr ⟨by rfl, rfl⟩) ?_
    (try simp only [List.getElem_toArray, List.getElem_cons_succ, List.getElem_cons_zero, Act.put, List.setIfInBounds_toArray, List.set_cons_zero, List.set_cons_succ])
    refine wpAny_take (i := 5) (v := undef) rfl (by kernel_rfl) (by kernel_rfl) (by kernel_rfl) (fun _ _ _ h => h) (Or.inr ⟨by rfl, rfl⟩) ?_
    (try simp only [List.getElem_toArray, List.getElem_cons_succ, List.getElem_cons_zero, Act.put, List.setIfInBounds_toArray, List.set_cons_zero, List.set_cons_succ])
    refine wpAny_take (i := 6) (v := undef) rfl (by kernel_rfl) (by kernel_rfl) (by kernel_rfl) (fun _ _ _ h => h) (Or.inr ⟨by rfl, rfl⟩) ?_
    (try simp only [List.getElem_toArray, List.getElem_cons_succ, List.getElem_cons_zero, Act.put, List.setIfInBounds_toArray, List.set_cons_zero, List.set_cons_succ])
    refine wpAny_take (i := 7) (v := undef) rfl (by kernel_rfl) (by kernel_rfl) (by kernel_rfl) (fun _ _ _ h => h) (Or.inr ⟨by rfl, rfl⟩) ?_
    (try simp only [List.getElem_toArray, List.getElem_cons_succ, List.getElem_cons_zero, Act.put, List.setIfInBounds_toArray, List.set_cons_zero, List.set_cons_succ])
    refine wpAny_take (i := 8) (v := undef) rfl (by kernel_rfl) (by kernel_rfl) (by kernel_rfl) (fun _ _ _ h => h) (Or.inr ⟨by rfl, rfl⟩) ?_
    (try simp only [List.getElem_toArray, List.getElem_cons_succ, List.getElem_cons_zero, Act.put, List.setIfInBounds_toArray, List.set_cons_zero, List.set_cons_succ])
    refine wpAny_take (i := 9) (v := undef) rfl (by kernel_rfl) (by kernel_rfl) (by kernel_rfl) (fun _ _ _ h => h) (Or.inr ⟨by rfl, rfl⟩) ?_
    (try simp only [List.getElem_toArray, List.getElem_cons_succ, List.getElem_cons_zero, Act.put, List.setIfInBounds_toArray, List.set_cons_zero, List.set_cons_succ])
    refine wpAny_take (i := 10) (v := ?_) rfl (by kernel_rfl) (by kernel_rfl) (by kernel_rfl) (fun _ _ _ h => h) (Or.inl ⟨by rfl, ?_⟩) ?_
    rotate_left 1
    (intro w; go_simp; try with_reducible rfl)
    (try simp only [List.getElem_toArray, List.getElem_cons_succ, List.getElem_cons_zero, Act.put, List.setIfInBounds_toArray, List.set_cons_zero, List.set_cons_succ])
    refine wpAny_take (i := 11) (v := ?_) rfl (by kernel_rfl) (by kernel_rfl) (by kernel_rfl) (fun _ _ _ h => h) (Or.inl ⟨by rfl, ?_⟩) ?_
    rotate_left 1
    (intro w; go_simp; try with_reducible rfl)
    (try simp only [List.getElem_toArray, List.getElem_cons_succ, List.getElem_cons_zero, Act.put, List.setIfInBounds_toArray, List.set_cons_zero, List.set_cons_succ])
    refine wpAny_done (by kernel_rfl) ?_ _
    go_wp2
    go_ret
    exact ⟨rfl, hd.trans (hb5.mono hd.size)⟩
  · rw [hb] at cO
    clear hb
    generalize x.l.all P = q at cE
    go_enter Tryz.func185, Tryz.ntmps185
    go_wp2_with fail
    go_region_held3 (fun W => W.cell? ⟨g, o + 4, none⟩ = some (.slice p x.l.length c) ∧ W.cell? ⟨bm, 0, none⟩ = some (.func (Fn.func 160) #[] #[])) (first | exact hS0 | exact hS1 | exact hS2) (first
      | (go_at_call 142; refine cO.mono ?_; rintro e w5 ⟨rfl, hb5⟩; have hB5 := hd.trans (hb5.mono hd.size); have hS1 := hmv _ hB5)
      | (go_at_call 144; refine (cE _ hB5).mono ?_; rintro e w6 ⟨rfl, hb6⟩; have hB6 := hB5.trans (hb6.mono hB5.size); have hS2 := hmv _ hB6))
    go_wp2
    go_ret
    exact ⟨by simp, hB6⟩

set_option maxHeartbeats 4000000 in
set_option maxRecDepth 100000 in
theorem pt2_any {F : Nat → Prop} {P : Tr → Bool} {w : World} {g o bm : Nat} {x : Tr} {sv : Value} (h : NodeAt w g o x sv) (hx : TrV F w x sv) (hm : w.cell? ⟨bm, 0, none⟩ = some (.func (Fn.func 160) #[] #[])) (hf : ∀ y ∈ x.l, RuleSays F 160 P w y) :
    Calls Tryz.prog 186 #[.pointer (some ⟨g, o, none⟩), .pointer (some ⟨bm, 0, none⟩)] w fun e w' => e = .returned (.bool (bareB x false false false true && ((x.l.length : Int) == 2 && x.l.all P))) ∧ Below w.heap.size w w' := by
  obtain ⟨p, c, rfl⟩ := hx.kids.slice
  have hd : Below w.heap.size w w.drew := below_drewN (Below.refl _ _) 1
  have cO := only_any (h.keep (hd.block g h.lt)) false false false true
  have h4 := h.l
  have hmv : ∀ W : World, Below w.heap.size w W → W.cell? ⟨g, o + 4, none⟩ = some (.slice p x.l.length c) ∧ W.cell? ⟨bm, 0, none⟩ = some (.func (Fn.func 160) #[] #[]) := fun W hb =>
    ⟨(hb.cell (p := ⟨g, o + 4, none⟩) (cell_block h4)).trans h4, (hb.cell (p := ⟨bm, 0, none⟩) (cell_block hm)).trans hm⟩
  have cE := fun (W : World) (hb : Below w.heap.size w W) => each_any (P := P) (hx.kids.under hb) fun y hy => (hf y hy).under hb
  have hS0 := hmv w (Below.refl _ _)
  clear h hx hf h4 hm
  cases hb : bareB x false false false true
  · rw [hb] at cO
    clear hb cE
    go_enter Tryz.func186, Tryz.ntmps186
    go_wp2_with fail
    refine wp_region_any (by kernel_rfl) ?_
    change wpAny _ _ _ _ _ _ _ (World.drew _)
    refine wpAny_take (i := 0) (v := ?_) rfl (by kernel_rfl) (by kernel_rfl) (by kernel_rfl) (fun _ _ _ h => h) (Or.inl ⟨by rfl, ?_⟩) ?_
    rotate_left 1
    (intro w; go_simp; try with_reducible rfl)
    (try simp only [List.getElem_toArray, List.getElem_cons_zero, Act.put, List.setIfInBounds_toArray, List.set_cons_zero, List.set_cons_succ])
    refine wpAny_take (i := 1) (v := ?_) rfl (by kernel_rfl) (by kernel_rfl) (by kernel_rfl) (fun _ _ _ h => h) (Or.inl ⟨by rfl, ?_⟩) ?_
    rotate_left 1
    (intro w; go_simp; try with_reducible rfl)
    (try simp only [List.getElem_toArray, List.getElem_cons_succ, List.getElem_cons_zero, Act.put, List.setIfInBounds_toArray, List.set_cons_zero, List.set_cons_succ])
    refine wpAny_ready (rs := [2]) (by kernel_rfl) (by simp) ?_
    refine AllReady.cons rfl (fun K hK => ?_) AllReady.nil
    go_simp
    go_wp2_with (go_at_call 142; refine cO.mono ?_; rintro e w5 ⟨rfl, hb5⟩)
    (try (refine hK _ _ ?_; clear hK K))
    refine wpAny_take (i := 3) (v := ?_) rfl (by kernel_rfl) (by kernel_rfl) (by kernel_rfl) (fun _ _ _ h => h) (Or.inl ⟨by rfl, ?_⟩) ?_
    rotate_left 1
    (intro w; go_simp; try with_reducible rfl)
    (try simp only [List.getElem_toArray, List.getElem_cons_succ, List.getElem_cons_zero, Act.put, List.setIfInBounds_toArray, List.set_cons_zero, List.set_cons_succ])
    refine wpAny_take (i := 4) (v := undef) rfl (by kernel_rfl) (by kernel_rfl) (by kernel_rfl) (fun _ _ _ h => h) (Or.inr ⟨by rfl, rfl⟩) ?_
    (try simp only [List.getElem_toArray, List.getElem_cons_succ, List.getElem_cons_zero, Act.put, List.setIfInBounds_toArray, List.set_cons_zero, List.set_cons_succ])
    refine wpAny_take (i := 5) (v := undef) rfl (by kernel_rfl) (by kernel_rfl) (by kernel_rfl) (fun _ _ _ h => h) (Or.inr ⟨by rfl, rfl⟩) ?_
    (try simp only [List.getElem_toArray, List.getElem_cons_succ, List.getElem_cons_zero, Act.put, List.setIfInBounds_toArray, List.set_cons_zero, List.set_cons_succ])
    refine wpAny_take (i := 6) (v := undef) rfl (by kernel_rfl) (by kernel_rfl) (by kernel_rfl) (fun _ _ _ h => h) (Or.inr ⟨by rfl, rfl⟩) ?_
    (try simp only [List.getElem_toArray, List.getElem_cons_succ, List.getElem_cons_zero, Act.put, List.setIfInBounds_toArray, List.set_cons_zero, List.set_cons_succ])
    refine wpAny_take (i := 7) (v := undef) rfl (by kernel_rfl) (by kernel_rfl) (by kernel_rfl) (fun _ _ _ h => h) (Or.inr ⟨by rfl, rfl⟩) ?_
    (try simp only [List.getElem_toArray, List.getElem_cons_succ, List.getElem_cons_zero, Act.put, List.setIfInBounds_toArray, List.set_cons_zero, List.set_cons_succ])
    refine wpAny_take (i := 8) (v := undef) rfl (by kernel_rfl) (by kernel_rfl) (by kernel_rfl) (fun _ _ _ h => h) (Or.inr ⟨by rfl, rfl⟩) ?_
    (try simp only [List.getElem_toArray, List.getElem_cons_succ, List.getElem_cons_zero, Act.put, List.setIfInBounds_toArray, List.set_cons_zero, List.set_cons_succ])
    refine wpAny_take (i := 9) (v := undef) rfl (by kernel_rfl) (by kernel_rfl) (by kernel_rfl) (fun _ _ _ h => h) (Or.inr ⟨by rfl, rfl⟩) ?_
    (try simp only [List.getElem_toArray, List.getElem_cons_succ, List.getElem_cons_zero, Act.put, List.setIfInBounds_toArray, List.set_cons_zero, List.set_cons_succ])
    refine wpAny_take (i := 10) (v := ?_) rfl (by kernel_rfl) (by kernel_rfl) (by kernel_rfl) (fun _ _ _ h => h) (Or.inl ⟨by rfl, ?_⟩) ?_
    rotate_left 1
    (intro w; go_simp; try with_reducible rfl)
    (try simp only [List.getElem_toArray, List.getElem_cons_succ, List.getElem_cons_zero, Act.put, List.setIfInBounds_toArray, List.set_cons_zero, List.set_cons_succ])
    refine wpAny_take (i := 11) (v := ?_) rfl (by kernel_rfl) (by kernel_rfl) (by kernel_rfl) (fun _ _ _ h => h) (Or.inl ⟨by rfl, ?_⟩) ?_
    rotate_left 1
    (intro w; go_simp; try with_reducible rfl)
    (try simp only [List.getElem_toArray, List.getElem_cons_succ, List.getElem_cons_zero, Act.put, List.setIfInBounds_toArray, List.set_cons_zero, List.set_cons_succ])
    refine wpAny_take (i := 12) (v := undef) rfl (by kernel_rfl) (by kernel_rfl) (by kernel_rfl) (fun _ _ _ h => h) (Or.inr ⟨by rfl, rfl⟩) ?_
    (try simp only [List.getElem_toArray, List.getElem_cons_succ, List.getElem_cons_zero, Act.put, List.setIfInBounds_toArray, List.set_cons_zero, List.set_cons_succ])
    refine wpAny_take (i := 13) (v := undef) rfl (by kernel_rfl) (by kernel_rfl) (by kernel_rfl) (fun _ _ _ h => h) (Or.inr ⟨by rfl, rfl⟩) ?_
    (try simp only [List.getElem_toArray, List.getElem_cons_succ, List.getElem_cons_zero, Act.put, List.setIfInBounds_toArray, List.set_cons_zero, List.set_cons_succ])
    refine wpAny_take (i := 14) (v := undef) rfl (by kernel_rfl) (by kernel_rfl) (by kernel_rfl) (fun _ _ _ h => h) (Or.inr ⟨by rfl, rfl⟩) ?_
    (try simp only [List.getElem_toArray, List.getElem_cons_succ, List.getElem_cons_zero, Act.put, List.setIfInBounds_toArray, List.set_cons_zero, List.set_cons_succ])
    refine wpAny_take (i := 15) (v := undef) rfl (by kernel_rfl) (by kernel_rfl) (by kernel_rfl) (fun _ _ _ h => h) (Or.inr ⟨by rfl, rfl⟩) ?_
    (try simp only [List.getElem_toArray, List.getElem_cons_succ, List.getElem_cons_zero, Act.put, List.setIfInBounds_toArray, List.set_cons_zero, List.set_cons_succ])
    refine wpAny_take (i := 16) (v := undef) rfl (by kernel_rfl) (by kernel_rfl) (by kernel_rfl) (fun _ _ _ h => h) (Or.inr ⟨by rfl, rfl⟩) ?_
    (try simp only [List.getElem_toArray, List.getElem_cons_succ, List.getElem_cons_zero, Act.put, List.setIfInBounds_toArray, List.set_cons_zero, List.set_cons_succ])
    refine wpAny_take (i := 17) (v := undef) rfl (by kernel_rfl) (by kernel_rfl) (by kernel_rfl) (fun _ _ _ h => h) (Or.inr ⟨by rfl, rfl⟩) ?_
    (try simp only [List.getElem_toArray, List.getElem_cons_succ, List.getElem_cons_zero, Act.put, List.setIfInBounds_toArray, List.set_cons_zero, List.set_cons_succ])
    refine wpAny_take (i := 18) (v := ?_) rfl (by kernel_rfl) (by kernel_rfl) (by kernel_rfl) (fun _ _ _ h => h) (Or.inl ⟨by rfl, ?_⟩) ?_
    rotate_left 1
    (intro w; go_simp; try with_reducible rfl)
    (try simp only [List.getElem_toArray, List.getElem_cons_succ, List.getElem_cons_zero, Act.put, List.setIfInBounds_toArray, List.set_cons_zero, List.set_cons_succ])
    refine wpAny_take (i := 19) (v := ?_) rfl (by kernel_rfl) (by kernel_rfl) (by kernel_rfl) (fun _ _ _ h => h) (Or.inl ⟨by rfl, ?_⟩) ?_
    rotate_left 1
    (intro w; go_simp; try with_reducible rfl)
    (try simp only [List.getElem_toArray, List.getElem_cons_succ, List.getElem_cons_zero, Act.put, List.setIfInBounds_toArray, List.set_cons_zero, List.set_cons_succ])
    refine wpAny_done (by kernel_rfl) ?_ _
    go_wp2
    go_ret
    exact ⟨rfl, hd.trans (hb5.mono hd.size)⟩
  rw [hb] at cO
  clear hb
  cases hl : ((x.l.length : Int) == 2)
  · clear cE
    go_enter Tryz.func186, Tryz.ntmps186
    go_wp2_with fail
    first
      | (go_region_with (go_at_call 142; refine cO.mono ?_; rintro e w5 ⟨rfl, hb5⟩; have hB5 := hd.trans (hb5.mono hd.size); obtain ⟨hS1, hS2⟩ := hmv _ hB5))
      | fail
    all_goals
      go_wp2
      go_ret
      exact ⟨rfl, hB5⟩
  · generalize x.l.all P = q at cE
    go_enter Tryz.func186, Tryz.ntmps186
    go_wp2_with fail
    go_region_held3 (fun W => W.cell? ⟨g, o + 4, none⟩ = some (.slice p x.l.length c) ∧ W.cell? ⟨bm, 0, none⟩ = some (.func (Fn.func 160) #[] #[])) (first | exact hS0 | exact hS1 | exact hS2) (first
      | (go_at_call 142; refine cO.mono ?_; rintro e w5 ⟨rfl, hb5⟩; have hB5 := hd.trans (hb5.mono hd.size); have hS1 := hmv _ hB5)
      | (go_at_call 144; refine (cE _ hB5).mono ?_; rintro e w6 ⟨rfl, hb6⟩; have hB6 := hB5.trans (hb6.mono hB5.size); have hS2 := hmv _ hB6))
    go_wp2
    go_ret
    exact ⟨by simp, hB6⟩
end Go.Proofs.YtlhobpknflobgaaGreatDoor
namespace Go.Proofs.YtlhobpknflobgaaGreatDoor
open Go.RowKit

def nil22 : Array Value := #[.nilFunc, .nilFunc, .nilFunc, .nilFunc, .nilFunc, .nilFunc, .nilFunc, .nilFunc, .nilFunc, .nilFunc, .nilFunc, .nilFunc, .nilFunc, .nilFunc, .nilFunc, .nilFunc, .nilFunc, .nilFunc, .nilFunc, .nilFunc, .nilFunc, .nilFunc]
def leavesV : Array Value := #[.nilFunc, .nilFunc, .nilFunc, .nilFunc, .nilFunc, .func (Fn.func 179) #[] #[], .func (Fn.func 181) #[] #[], .func (Fn.func 182) #[] #[], .func (Fn.func 184) #[] #[], .nilFunc, .nilFunc, .nilFunc, .nilFunc, .nilFunc, .nilFunc, .nilFunc, .nilFunc, .nilFunc, .nilFunc, .nilFunc, .nilFunc, .nilFunc]
theorem size22 : (Tryz.prog.info? 144).map (·.size) = some leavesV.size := by kernel_rfl

theorem setRow_heap' {w : World} {g : Nat} {old cells : Array Value} {t : TypeId} (h : w.heap[g]? = some (.cells old t (0, 0))) : (w.setRow g cells).heap[g]? = some (.cells cells t (0, 0)) := setRow_heap w g old cells t _ h
theorem below_setRow {B g : Nat} {a w : World} {cells : Array Value} (h : Below B a w) (hg : B ≤ g) : Below B a (w.setRow g cells) :=
  h.trans ⟨rfl, rfl, rfl, by simp [World.setRow], fun k hk => by simp [World.setRow, Array.getElem?_modify]; omega⟩

set_option maxHeartbeats 2000000 in
set_option maxRecDepth 100000 in
theorem leaves_any (w : World) :
    Calls Tryz.prog 148 #[] w fun e w' => e = .returned (.agg leavesV) ∧ Below w.heap.size w w' := by
  have hn : (w.alloc (.cells #[.nilFunc, .nilFunc, .nilFunc, .nilFunc, .nilFunc, .nilFunc, .nilFunc, .nilFunc, .nilFunc, .nilFunc, .nilFunc, .nilFunc, .nilFunc, .nilFunc, .nilFunc, .nilFunc, .nilFunc, .nilFunc, .nilFunc, .nilFunc, .nilFunc, .nilFunc] 144)).heap[w.heap.size]? = some (.cells nil22 144 (0, 0)) := heap_new w (.cells #[.nilFunc, .nilFunc, .nilFunc, .nilFunc, .nilFunc, .nilFunc, .nilFunc, .nilFunc, .nilFunc, .nilFunc, .nilFunc, .nilFunc, .nilFunc, .nilFunc, .nilFunc, .nilFunc, .nilFunc, .nilFunc, .nilFunc, .nilFunc, .nilFunc, .nilFunc] 144)
  have hb := alloc_below w (.cells #[.nilFunc, .nilFunc, .nilFunc, .nilFunc, .nilFunc, .nilFunc, .nilFunc, .nilFunc, .nilFunc, .nilFunc, .nilFunc, .nilFunc, .nilFunc, .nilFunc, .nilFunc, .nilFunc, .nilFunc, .nilFunc, .nilFunc, .nilFunc, .nilFunc, .nilFunc] 144)
  go_enter Tryz.func148, Tryz.ntmps148
  go_upto_region 1 with fail
  generalize w.alloc (.cells #[.nilFunc, .nilFunc, .nilFunc, .nilFunc, .nilFunc, .nilFunc, .nilFunc, .nilFunc, .nilFunc, .nilFunc, .nilFunc, .nilFunc, .nilFunc, .nilFunc, .nilFunc, .nilFunc, .nilFunc, .nilFunc, .nilFunc, .nilFunc, .nilFunc, .nilFunc] 144) = w1 at hn hb ⊢
  have hr := setRow_heap' (cells := leavesV) hn
  have hB := below_setRow (cells := leavesV) hb (Nat.le_refl _)
  go_wp2_with (first | (refine wpList_build rfl 144 _ rfl (by kernel_rfl) ?_) | refine wpList_store_row rfl 144 _ _ rfl w.heap.size leavesV (by kernel_rfl) (by kernel_rfl) 144 nil22 hn size22 (by kernel_rfl) (by kernel_rfl) ?_)
  refine bodyPost_ret (v := .agg leavesV) (results_cell_row Tryz.results148 _ _ w.heap.size 144 leavesV (0, 0) _ rfl hr Tryz.underlying144 rfl size22) rfl ⟨rfl, hB⟩

theorem arr_set {w : World} {b i : Nat} {A : Array Value} {u : Value} {T : TypeId} (h : w.heap[b]? = some (.cells A T (0, 0))) : (w.setCell ⟨b, i, none⟩ u).heap[b]? = some (.cells (A.modify i fun _ => u) T (0, 0)) := by
  simp only [World.setCell, Array.getElem?_modify, if_true, h]; rfl
theorem arr_cell {w : World} {b i : Nat} {A : Array Value} {T : TypeId} (h : w.heap[b]? = some (.cells A T (0, 0))) : w.cell? ⟨b, i, none⟩ = A[i]? := by simp [World.cell?, h]
theorem arr_free {w : World} {b i : Nat} {A : Array Value} {T : TypeId} (h : w.heap[b]? = some (.cells A T (0, 0))) : w.frozen? ⟨b, i, none⟩ = false := by simp [World.frozen?, h]

def partsV (bm : Nat) : Array Value := (leavesV.modify 10 fun _ => .func (Fn.func 185) #[] #[.pointer (some ⟨bm, 0, none⟩)]).modify 9 fun _ => .func (Fn.func 186) #[] #[.pointer (some ⟨bm, 0, none⟩)]
/-- What parts leaves. -/
def PartsSays (b : Nat) (w : World) (e : Ending) (w' : World) : Prop := e = .returned (.tuple #[]) ∧ w'.cell? ⟨w.heap.size, 0, none⟩ = some (.func (Fn.func 160) #[] #[]) ∧ w'.heap[b]? = some (.cells (partsV w.heap.size) 144 (0, 0)) ∧ Turn (· = b) w w'

set_option maxHeartbeats 2000000 in
set_option maxRecDepth 100000 in
theorem parts_any {w : World} {b : Nat} (h : w.heap[b]? = some (.cells leavesV 144 (0, 0))) :
    Calls Tryz.prog 149 #[.pointer (some ⟨b, 0, none⟩), .func (Fn.func 160) #[] #[]] w (PartsSays b w) := by
  have hlt : b < w.heap.size := (Array.getElem?_eq_some_iff.1 h).1
  have hb1 := alloc_below w (.cells #[.func (Fn.func 160) #[] #[]] 81)
  have hm1 := box_cell w (.func (Fn.func 160) #[] #[]) 81
  have h1 := (hb1.block b hlt).trans h
  go_enter Tryz.func149, Tryz.ntmps149
  go_upto_region 1 with fail
  generalize w.alloc (.cells #[.func (Fn.func 160) #[] #[]] 81) = w1 at hb1 hm1 h1 ⊢
  have c1 : w1.cell? ⟨b, 10, none⟩ = some .nilFunc := (arr_cell h1).trans rfl
  have f1 : w1.frozen? ⟨b, 10, none⟩ = false := arr_free h1
  have h2 := arr_set (i := 10) (u := .func (Fn.func 185) #[] #[.pointer (some ⟨w.heap.size, 0, none⟩)]) h1
  have c2 : (w1.setCell ⟨b, 10, none⟩ (.func (Fn.func 185) #[] #[.pointer (some ⟨w.heap.size, 0, none⟩)])).cell? ⟨b, 9, none⟩ = some .nilFunc := (arr_cell h2).trans rfl
  have f2 : (w1.setCell ⟨b, 10, none⟩ (.func (Fn.func 185) #[] #[.pointer (some ⟨w.heap.size, 0, none⟩)])).frozen? ⟨b, 9, none⟩ = false := arr_free h2
  have h3 := arr_set (i := 9) (u := .func (Fn.func 186) #[] #[.pointer (some ⟨w.heap.size, 0, none⟩)]) h2
  have ht2 := Turn.setCell w1 ⟨b, 10, none⟩ (.func (Fn.func 185) #[] #[.pointer (some ⟨w.heap.size, 0, none⟩)])
  have ht3 := ht2.trans (Turn.setCell _ ⟨b, 9, none⟩ (.func (Fn.func 186) #[] #[.pointer (some ⟨w.heap.size, 0, none⟩)]))
  have hm3 := ht3.cell hm1 (show ¬ w.heap.size = b by omega)
  have hT : Turn (· = b) w _ := (Turn.of_below hb1).trans ht3
  have hfin : PartsSays b w (.returned (.tuple #[])) _ := ⟨rfl, hm3, h3, hT⟩
  have HF := Lib.hid hfin
  clear hfin h3 hm3 hT ht3 ht2 h2 h1 hm1 hb1 h
  go_wp2
  go_end0
  exact HF.out
end Go.Proofs.YtlhobpknflobgaaGreatDoor
