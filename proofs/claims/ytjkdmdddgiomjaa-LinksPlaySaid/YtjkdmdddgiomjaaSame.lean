/-
  pleachref01.Ints and pleachref21.Same: two rows are held against each other. Conditions: the rows lie as 'IntsAt', 'SeenAt' say.
-/
import Derived.Test.YtjkdmdddgiomjaaPure
namespace Go.Proofs.Ytjkdmdddgiomjaa
open Go.RowKit Go.Maps

def IntsAt (w : World) (v : Value) (l : List Int) : Prop := ∃ p c, v = .slice p l.length c ∧ l.length ≤ c ∧ ∀ k (hk : k < l.length), ∃ g, p = some ⟨g, 0, none⟩ ∧ w.cell? ⟨g, k, none⟩ = some (.int .i64 l[k])
def SeenAt (w : World) (v : Value) (l : List (Int × Int × Int)) : Prop := ∃ p c, v = .slice p l.length c ∧ l.length ≤ c ∧ ∀ k (hk : k < l.length), ∃ g, p = some ⟨g, 0, none⟩ ∧ w.cell? ⟨g, k * 3, none⟩ = some (.int .i64 l[k].1) ∧ w.cell? ⟨g, k * 3 + 1, none⟩ = some (.int .i64 l[k].2.1) ∧ w.cell? ⟨g, k * 3 + 2, none⟩ = some (.int .i64 l[k].2.2)

theorem NewInts.at {w w' : World} {v : Value} {l : List Int} (h : NewInts w w' v l) : IntsAt w' v l := by
  rcases ints_cases h.1 h.2 with ⟨rfl, rfl⟩ | ⟨g, cap, rfl, _, _, hc, hcells, _⟩
  · exact ⟨none, 0, rfl, Nat.le_refl _, fun k hk => absurd hk (by simp)⟩
  · exact ⟨_, cap, rfl, hc, fun k hk => ⟨g, rfl, hcells k hk⟩⟩
theorem NewSeen.at {base : Nat} {w' : World} {v : Value} {l : List (Int × Int × Int)} (h : NewSeen base w' v l) : SeenAt w' v l := by
  rcases h.1.2 with ⟨rfl, _⟩ | ⟨g, cap, cur, rfl, _, _, hc, _⟩
  · rw [h.2.1 rfl]
    exact ⟨none, 0, rfl, Nat.le_refl _, fun k hk => absurd hk (by simp)⟩
  · exact ⟨_, cap, rfl, hc, fun k hk => ⟨g, rfl, by rw [Nat.mul_comm k 3]; exact newSeen_cells h hk⟩⟩

theorem beq_take_succ {α : Type} [BEq α] [LawfulBEq α] {a b : List α} (hl : a.length = b.length) : (a == b) = true ↔ ∀ k (h1 : k < a.length) (h2 : k < b.length), a[k] = b[k] := by
  rw [beq_iff_eq]
  constructor
  · rintro rfl k h1 h2; rfl
  · exact fun h => List.ext_getElem hl fun k h1 h2 => h k h1 h2

set_option maxRecDepth 100000 in
set_option maxHeartbeats 1000000 in
theorem ints_any {w : World} {va vb : Value} {la lb : List Int} (ha : IntsAt w va la) (hb : IntsAt w vb lb) (hla : la.length ≤ BN) :
    Calls Try.prog 15 #[va, vb] w fun e w' => e = .returned (.bool (la == lb)) ∧ ∃ n, w' = w.drewN n := by
  obtain ⟨pa, ca, rfl, hca, hca'⟩ := ha
  obtain ⟨pb, cb, rfl, hcb, hcb'⟩ := hb
  have hla' : la.length ≤ 1099511627776 := hla
  by_cases hl : la.length = lb.length
  · have HL := Lib.hid hl
    have HA := Lib.hid hca'
    have HB := Lib.hid hcb'
    have h1 : (la.length : Int) ≤ lb.length := by omega
    have h2 : (lb.length : Int) ≤ la.length := by omega
    clear hl hca' hcb' hla
    go_enter Try.func15, Try.ntmps15
    go_wp2
    go_loopw [5] (fun i wr => ∃ k : Nat, k ≤ la.length ∧ i = .int .i64 k ∧ (∀ j (hj : j < k) (h1 : j < la.length) (h2 : j < lb.length), la[j] = lb[j]) ∧ ∃ n, wr = w.drewN n) (fun i _ => la.length - (intOf i).toNat)
    case atStart => exact ⟨0, Nat.zero_le _, rfl, fun j hj => absurd hj (by simp), 0, rfl⟩
    case round =>
      obtain ⟨k, hk, rfl, hall, n, rfl⟩ := hrel
      have HALL := Lib.hid hall
      clear hall
      by_cases hlt : k < la.length
      · have hlt2 : k < lb.length := by omega
        obtain ⟨ga, rfl, hga⟩ := HA.out k hlt
        obtain ⟨gb, rfl, hgb⟩ := HB.out k hlt2
        cases hne : (la[k] != lb[k])
        · have HN := Lib.hid hne
          go_wp2
          go_quiet (fail)
          go_wp2
          clear hne
          go_roundw
          case rel =>
            refine ⟨k + 1, hlt, by go_num, fun j hj h1 h2 => ?_, n + nq, by first | rfl | rw [World.drewN_drewN]⟩
            by_cases hjk : j = k
            · subst hjk; have := HN.out; simpa using this
            · exact HALL.out j (by omega) h1 h2
          case measure => simp [intOf]; omega
        · have HN := Lib.hid hne
          go_wp2
          go_quiet (fail)
          go_wp2
          go_ret
          refine ⟨?_, n + nq, by first | rfl | rw [World.drewN_drewN]⟩
          have hnn := HN.out
          have hf : (la == lb) = false := by
            cases hc : (la == lb)
            · rfl
            · have := (beq_take_succ HL.out).1 hc k hlt hlt2
              simp [this] at hnn
          rw [hf]
          rfl
      · go_wp2
        go_ret
        refine ⟨?_, n, rfl⟩
        have ht : (la == lb) = true := (beq_take_succ HL.out).2 fun j h1 h2 => HALL.out j (by omega) h1 h2
        rw [ht]
        rfl
  · have hf : (la == lb) = false := by
      cases hc : (la == lb)
      · rfl
      · rw [beq_iff_eq] at hc; subst hc; exact absurd rfl hl
    rw [hf]
    have hne : ((la.length : Int) != (lb.length : Int)) = true := by rw [bne_iff_ne]; omega
    have HL := Lib.hid hl
    clear hl hf hca' hcb'
    go_enter Try.func15, Try.ntmps15
    go_wp2
    all_goals go_ret
    all_goals exact ⟨rfl, 0, rfl⟩
set_option maxRecDepth 100000 in
set_option maxHeartbeats 1000000 in
theorem seen_any {w : World} {va vb : Value} {la lb : List (Int × Int × Int)} (ha : SeenAt w va la) (hb : SeenAt w vb lb) (hla : la.length ≤ BN) :
    Calls Try.prog 14 #[va, vb] w fun e w' => e = .returned (.bool (la == lb)) ∧ ∃ n, w' = w.drewN n := by
  obtain ⟨pa, ca, rfl, hca, hca'⟩ := ha
  obtain ⟨pb, cb, rfl, hcb, hcb'⟩ := hb
  have hla' : la.length ≤ 1099511627776 := hla
  by_cases hl : la.length = lb.length
  · have HL := Lib.hid hl
    have HA := Lib.hid hca'
    have HB := Lib.hid hcb'
    have h1 : (la.length : Int) ≤ lb.length := by omega
    have h2 : (lb.length : Int) ≤ la.length := by omega
    clear hl hca' hcb' hla
    go_enter Try.func14, Try.ntmps14
    go_wp2
    go_loopw [5] (fun i wr => ∃ k : Nat, k ≤ la.length ∧ i = .int .i64 k ∧ (∀ j (hj : j < k) (h1 : j < la.length) (h2 : j < lb.length), la[j] = lb[j]) ∧ ∃ n, wr = w.drewN n) (fun i _ => la.length - (intOf i).toNat)
    case atStart => exact ⟨0, Nat.zero_le _, rfl, fun j hj => absurd hj (by simp), 0, rfl⟩
    case round =>
      obtain ⟨k, hk, rfl, hall, n, rfl⟩ := hrel
      have HALL := Lib.hid hall
      clear hall
      by_cases hlt : k < la.length
      · have hlt2 : k < lb.length := by omega
        obtain ⟨ga, rfl, hga0, hga1, hga2⟩ := HA.out k hlt
        obtain ⟨gb, rfl, hgb0, hgb1, hgb2⟩ := HB.out k hlt2
        cases h0 : (la[k].1 == lb[k].1) <;> cases h1 : (la[k].2.1 == lb[k].2.1) <;> cases h2 : (la[k].2.2 == lb[k].2.2)
        all_goals
          have H0 := Lib.hid h0
          have H1 := Lib.hid h1
          have H2 := Lib.hid h2
        case true.true.true =>
          go_wp2
          go_quiet (fail)
          go_wp2
          clear h0 h1 h2
          go_roundw
          case rel =>
            refine ⟨k + 1, hlt, by go_num, fun j hj h1 h2 => ?_, n + nq, by first | rfl | rw [World.drewN_drewN]⟩
            by_cases hjk : j = k
            · subst hjk
              have e0 := H0.out; have e1 := H1.out; have e2 := H2.out
              simp only [beq_iff_eq] at e0 e1 e2
              exact Prod.ext e0 (Prod.ext e1 e2)
            · exact HALL.out j (by omega) h1 h2
          case measure => simp [intOf]; omega
        all_goals
          go_wp2
          go_quiet (fail)
          go_wp2
          go_ret
          refine ⟨?_, n + nq, by first | rfl | rw [World.drewN_drewN]⟩
          have hf : (la == lb) = false := by
            cases hc : (la == lb)
            · rfl
            · have he := (beq_take_succ HL.out).1 hc k hlt hlt2
              have e0 := H0.out; have e1 := H1.out; have e2 := H2.out
              simp [he] at e0 e1 e2
          rw [hf]
          rfl
      · go_wp2
        go_ret
        refine ⟨?_, n, rfl⟩
        have ht : (la == lb) = true := (beq_take_succ HL.out).2 fun j h1 h2 => HALL.out j (by omega) h1 h2
        rw [ht]
        rfl
  · have hf : (la == lb) = false := by
      cases hc : (la == lb)
      · rfl
      · rw [beq_iff_eq] at hc; subst hc; exact absurd rfl hl
    rw [hf]
    have hne : ((la.length : Int) != (lb.length : Int)) = true := by rw [bne_iff_ne]; omega
    have HL := Lib.hid hl
    clear hl hf hca' hcb'
    go_enter Try.func14, Try.ntmps14
    go_wp2
    all_goals go_ret
    all_goals exact ⟨rfl, 0, rfl⟩
end Go.Proofs.Ytjkdmdddgiomjaa
