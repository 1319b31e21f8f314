/-
  Open runs: data, what is owed, one operation.
-/
import Derived.Test.YtgjfdbbghefdbaaGreatDoorOx3
import Derived.Below
import Derived.LoopN
import Derived.IntWalk
import Derived.OrdersIn
import Derived.TacticsIn
import Derived.LoopNIn
import Derived.RangeFuncRecord
import Derived.RangeFuncSeq
namespace Go.Proofs.YtgjfdbbghefdbaaGreatDoor.Sx
open Go.RowKit
def MemOk (M : Mem) (w : World) : Prop := ∀ b c, M b = some c → ∃ ty fz, w.heap[b]? = some (.cells c ty fz)
def ToldM (tl : List (Nat × List Value)) (M : Mem) : Prop := ∀ p, p ∈ tl → ∃ c, M p.1 = some c ∧ (∀ (j : Nat) (v : Value), p.2[j]? = some v → c[j]? = some v) ∧ c.size = p.2.length
def bare (M : Mem) : Emb := ⟨fun _ => none, M⟩
def memOf (w : World) : Mem := fun b => match w.heap[b]? with
  | some (.cells c _ _) => some c
  | _ => none
theorem memOf_at {w : World} {b : Nat} {c : Array Value} {ty : Nat} {fz : Nat × Nat} (h : w.heap[b]? = some (.cells c ty fz)) : memOf w b = some c := by unfold memOf; rw [h]
theorem memOf_ok (w : World) : MemOk (memOf w) w := by
  intro b c h
  unfold memOf at h
  split at h
  · rename_i c' ty fz e; cases h; exact ⟨ty, fz, e⟩
  · cases h
def PureC (P : Program) (ρ : Cx) (f : Nat) (args : List TV) (v : TV) : Prop :=
  (∀ (vs : Array Value) (w : World), (callFunc f vs).run P w = .ok (.enter f vs) w) ∧
  ∀ (w : World) (M : Mem) (vs : Array Value), MemOk M w → ToldM ρ.tl M → VRs ρ (bare M) args vs.toList →
    Calls P f vs w fun e w' => ∃ x M', e = .returned x ∧ M.le M' ∧ (∀ b c, M' b = some c → M b = some c ∨ w.heap.size ≤ b) ∧ MemOk M' w' ∧ VR ρ (bare M') v x ∧ Below w.heap.size w w'
theorem memOk_below {M : Mem} {w w' : World} (h : MemOk M w) (hb : Below w.heap.size w w') : MemOk M w' := fun b c e => by
  obtain ⟨ty, fz, e1⟩ := h b c e
  exact ⟨ty, fz, (hb.block b (Array.getElem?_eq_some_iff.1 e1).1).trans e1⟩
theorem PureC.of {P : Program} {ρ : Cx} {f : Nat} {args : List TV} {v : TV} (h : ∀ (vs : Array Value) (w : World), (callFunc f vs).run P w = .ok (.enter f vs) w)
    (k : ∀ (w : World) (M : Mem) (vs : Array Value), MemOk M w → ToldM ρ.tl M → VRs ρ (bare M) args vs.toList → Calls P f vs w fun e w' => ∃ x, e = .returned x ∧ VR ρ (bare M) v x ∧ Below w.heap.size w w') : PureC P ρ f args v :=
  ⟨h, fun w M vs hM hT hv => (k w M vs hM hT hv).mono fun _ _ ⟨x, e1, e2, e3⟩ => ⟨x, M, e1, fun _ _ q => q, fun _ _ q => .inl q, memOk_below hM e3, e2, e3⟩⟩
def exOf : EX → Exit
  | .nrm => .normal
  | .exit id => .exit id
  | .ret => .ret
def St (P : Program) (ρ : Cx) (W0 : World) (M0 : Mem) (s : Nat) (df : List Deferred) (e : Trie TV) (t : Trie TB) (n : Nat) (a : Act) (w : World) : Prop :=
  ∃ σ, HR ρ W0.heap.size (fun _ => True) σ ⟨t, n, [], [], true, [], []⟩ w ∧ GlobR P σ ∧ (∀ k, n ≤ k → σ k = none) ∧ EnvR ρ σ e a.tmps ∧ a.tmps.size = s ∧ a.defers = df ∧ Below W0.heap.size W0 w ∧ M0.le σ.mem ∧ ∀ b c, σ.mem b = some c → M0 b = some c ∨ W0.heap.size ≤ b
def LoopC (P : Program) (ρ : Cx) (x : IC) (e : Trie TV) (t : Trie TB) (n : Nat) (ex : EX) (e' : Trie TV) (t' : Trie TB) (n' : Nat) : Prop :=
  ∃ k : Nat, ∀ (c : Code) (N : Nat) (W0 : World) (M0 : Mem) (s : Nat) (df : List Deferred), N ≤ 4000 → N ≤ s → cCode P N c = some x → ∀ (a : Act) (w : World) (Q : Exit → Act → World → Prop), St P ρ W0 M0 s df e t n a w →
    (∀ a' w', St P ρ W0 M0 s df e' t' n' a' w' → Q (exOf ex) a' w') → Code.rounds P c Q k a w
def SttC (P : Program) (ρ : Cx) (e : Trie TV) (t : Trie TB) (n : Nat) (e' : Trie TV) (t' : Trie TB) (n' : Nat) : Prop :=
  ∀ (W0 : World) (M0 : Mem) (s : Nat) (df : List Deferred) (a : Act) (w : World), St P ρ W0 M0 s df e t n a w → St P ρ W0 M0 s df e' t' n' a w
def ObOk (P : Program) (ρ : Cx) : Ob → Prop
  | .eqb x d => x = d
  | .call f args v => PureC P ρ f args v
  | .loop x e t n ex e' t' n' => LoopC P ρ x e t n ex e' t' n'
  | .stt e t n e' t' n' => SttC P ρ e t n e' t' n'
  | .pr p => p
def AllOb (P : Program) (ρ : Cx) (l : List Ob) : Prop := ∀ o, o ∈ l → ObOk P ρ o
theorem AllOb.head {P : Program} {ρ : Cx} {o : Ob} {l : List Ob} (h : AllOb P ρ (o :: l)) : ObOk P ρ o := h o (List.mem_cons_self ..)
theorem AllOb.tail {P : Program} {ρ : Cx} {o : Ob} {l : List Ob} (h : AllOb P ρ (o :: l)) : AllOb P ρ l := fun x hx => h x (List.mem_cons_of_mem _ hx)
theorem TF.told (h : SH) (pa : List PA) : TF h (h.told pa) :=
  ⟨Nat.le_refl _, fun _ x => x, fun _ x => x, fun _ x => .inl x, fun _ h1 h2 => absurd h1 (Nat.not_le.2 h2), fun _ _ => rfl, fun _ _ x => x, fun _ x => x, fun x => x⟩
theorem TF.owe (h : SH) (o : Ob) : TF h (h.owe o) :=
  ⟨Nat.le_refl _, fun _ x => x, fun _ x => x, fun _ x => .inl x, fun _ h1 h2 => absurd h1 (Nat.not_le.2 h2), fun _ _ => rfl, fun _ _ x => x, fun _ x => List.mem_cons_of_mem _ x, fun x => x⟩
theorem AllOb.of_tf {P : Program} {ρ : Cx} {h h' : SH} (t : TF h h') (a : AllOb P ρ h'.ob) : AllOb P ρ h.ob := fun o ho => a o (t.ob o ho)
structure Like (h h' : SH) : Prop where
  tf : TF h h'
  tr : h'.tr = h.tr
  nx : h'.nx = h.nx
theorem Like.refl (h : SH) : Like h h := ⟨TF.refl _, rfl, rfl⟩
theorem Like.trans {a b c : SH} (x : Like a b) (y : Like b c) : Like a c := ⟨x.tf.trans y.tf, y.tr.trans x.tr, y.nx.trans x.nx⟩
theorem Like.see (h : SH) (k : Nat) : Like h (h.see k) := ⟨TF.see _ _, rfl, rfl⟩
theorem Like.told (h : SH) (pa : List PA) : Like h (h.told pa) := ⟨TF.told _ _, rfl, rfl⟩
theorem Like.owe (h : SH) (o : Ob) : Like h (h.owe o) := ⟨TF.owe _ _, rfl, rfl⟩
theorem Tr.to_like {ρ : Cx} {B : Nat} {D : Nat → Prop} {σ σ' : Emb} {h h0 h' : SH} {w w' : World} (q : Tr ρ B D σ h w σ' h0 w') (e : h'.tr = h0.tr) (en : h'.nx = h0.nx) : Tr ρ B D σ h w σ' h' w' where
  up := q.up
  no := fun k a b => q.no k a (by rw [← en]; exact b)
  nw := q.nw
  nm := q.nm
  out := q.out
  sz := q.sz
  fr := q.fr
  hr := (q.hr.of_tr e en).mono fun k x => by rw [← en]; exact x
theorem tr_below {ρ : Cx} {B : Nat} {D : Nat → Prop} {σ : Emb} {h h' : SH} {w w' : World} (hr : HR ρ B D σ h w) (hb : Below w.heap.size w w') (e : h'.tr = h.tr) (en : h'.nx = h.nx) : Tr ρ B D σ h w σ h' w' where
  up := Emb.le.refl _
  no := fun k x _ => x
  nw := fun k y x z => by rw [x] at z; cases z
  nm := fun b c e => .inl e
  out := ⟨hb.os, hb.tape, hb.output⟩
  sz := hb.size
  fr := fun b hlt _ => hb.block b hlt
  hr := by
    have h1 : HR ρ B D σ h' w := hr.of_tr e en
    refine ⟨Nat.le_trans h1.base hb.size, h1.wf, fun k b hd hk => ?_, fun k k' hd hd' => h1.inj k k' (dd k hd) (dd k' hd'), fun b c q => ?_, h1.tl⟩
    · exact BR_mono (h1.blk k b (dd k hd) hk) (Emb.le.refl _) fun y _ hlt => hb.block _ hlt
    · obtain ⟨⟨ty, fz, e1⟩, e2⟩ := h1.mem b c q
      exact ⟨⟨ty, fz, (hb.block b (Array.getElem?_eq_some_iff.1 e1).1).trans e1⟩, fun k y hd => e2 k y (dd k hd)⟩
where
  dd : ∀ k, (D k ∨ (h.nx ≤ k ∧ k < h'.nx)) → D k := fun k x => x.resolve_right fun x => by omega
-- Values that name no block of the run's own.
theorem cond_and {a b : Bool} (h : cond a b false = true) : a = true ∧ b = true := by cases a <;> simp_all
theorem VR_free {ρ : Cx} {σ : Emb} {M : Mem} (hM : σ.mem.le M) : ∀ (t : TV) (v : Value), t.free = true → VR ρ σ t v → VR ρ (bare M) t v := by
  intro t
  induction t using TV.rec (motive_2 := fun l => ∀ vs, freeL l = true → VRs ρ σ l vs → VRs ρ (bare M) l vs) with
  | p k off => intro v h; cases h
  | sl k off esz len cap rest => intro v h; cases h
  | m k => intro v h; cases h
  | y k => intro v h; cases h
  | f g a c ih1 ih2 =>
    intro v h
    obtain ⟨f1, f2⟩ := cond_and (by simpa only [TV.free] using h)
    rintro ⟨x, y, h1, h2, h3⟩
    exact ⟨x, y, h1, ih1 _ f1 h2, ih2 _ f2 h3⟩
  | ifc t u ih => intro v h; rintro ⟨z, h1, h2⟩; exact ⟨z, h1, ih _ (by simpa only [TV.free] using h) h2⟩
  | ag l ih => intro v h; rintro ⟨a, h1, h2⟩; exact ⟨a, h1, ih _ (by simpa only [TV.free] using h) h2⟩
  | tu l ih => intro v h; rintro ⟨a, h1, h2⟩; exact ⟨a, h1, ih _ (by simpa only [TV.free] using h) h2⟩
  | es T d => exact fun v _ hv => DR.mono hM hv
  | ep T off row => intro v _; rintro ⟨b, o, h1, h2⟩; exact ⟨b, o, h1, h2.mono hM⟩
  | nil => rename_i vs _ h; exact h
  | cons t r ih1 ih2 =>
    rename_i vs hf h
    obtain ⟨f1, f2⟩ := cond_and (by simpa only [freeL] using hf)
    obtain ⟨v, q, h1, h2, h3⟩ := h
    exact ⟨v, q, h1, ih1 _ f1 h2, ih2 _ f2 h3⟩
  | _ => exact fun v _ hv => hv
theorem VRs_free {ρ : Cx} {σ : Emb} {M : Mem} (hM : σ.mem.le M) : ∀ (l : List TV) (vs : List Value), freeL l = true → VRs ρ σ l vs → VRs ρ (bare M) l vs
  | [], _, _, h => h
  | t :: r, vs, hf, h => by
    obtain ⟨f1, f2⟩ := cond_and (by simpa only [freeL] using hf)
    obtain ⟨v, q, h1, h2, h3⟩ := h
    exact ⟨v, q, h1, VR_free hM _ _ f1 h2, VRs_free hM _ _ f2 h3⟩
theorem VR_flat {ρ : Cx} {σ σ' : Emb} : ∀ {t : TV} {v : Value}, t.flat = true → VR ρ σ t v → VR ρ σ' t v := by
  intro t
  induction t using TV.rec (motive_2 := fun l => ∀ vs, flatL l = true → VRs ρ σ l vs → VRs ρ σ' l vs) with
  | ag l ih => intro v h; rintro ⟨a, h1, h2⟩; exact ⟨a, h1, ih _ (by simpa only [TV.flat] using h) h2⟩
  | tu l ih => intro v h; rintro ⟨a, h1, h2⟩; exact ⟨a, h1, ih _ (by simpa only [TV.flat] using h) h2⟩
  | nil => rename_i vs _ h; exact h
  | cons t r ih1 ih2 =>
    rename_i vs hf h
    obtain ⟨f1, f2⟩ := cond_and (by simpa only [flatL] using hf)
    obtain ⟨v, q, h1, h2, h3⟩ := h
    exact ⟨v, q, h1, ih1 f1 h2, ih2 _ f2 h3⟩
  | b x => exact fun _ hv => hv
  | i k n => exact fun _ hv => hv
  | s l => exact fun _ hv => hv
  | _ => intro v h; cases h
end Go.Proofs.YtgjfdbbghefdbaaGreatDoor.Sx
namespace Go.Proofs.YtgjfdbbghefdbaaGreatDoor.Sx
open Go.RowKit
def HandL (D : Nat → Prop) (h h1 : SH) : Prop := ∀ k, k ∈ h1.lg → k < h.nx → D k
section
variable {ρ : Cx} {B : Nat} {D : Nat → Prop} {σ : Emb} {w : World}
theorem mem_le {h : SH} (hr : HR ρ B D σ h w) : σ.mem.le (memOf w) := fun b c e => by
  obtain ⟨⟨ty, fz, e1⟩, _⟩ := hr.mem b c e
  exact memOf_at e1
theorem told_of {h : SH} (hr : HR ρ B D σ h w) : ToldM ρ.tl (memOf w) := fun p hp => by
  obtain ⟨c, e1, e2⟩ := hr.tl p hp
  exact ⟨c, mem_le hr _ _ e1, e2⟩
def HandM (D : Nat → Prop) (σ : Emb) (w : World) (M : Mem) (h h1 : SH) : Prop := ∀ k, k ∈ h1.lg → k < h.nx → D k ∧ ∀ y c ty fz, σ k = some y → w.heap[y.1]? = some (.cells c ty fz) → M y.1 = some c
theorem HandL.all {h h1 : SH} (x : HandL D h h1) : HandM D σ w (memOf w) h h1 := fun k p q => ⟨x k p q, fun _ _ _ _ _ e => memOf_at e⟩
structure DatOk (ρ : Cx) (D : Nat → Prop) (B : Nat) (σ : Emb) (w : World) (M : Mem) (f : Nat) : Prop where
  a : ∀ (k : Kd) (t : TV) (h h1 : SH) (d : Dat), toDat ρ.lay f k t h = some (d, h1) → Like h h1 ∧ (HR ρ B D σ h w → HandM D σ w M h h1 → ∀ v, VR ρ σ t v → DR ρ.lay M k d v)
  b : ∀ (ks : List Kd) (ts : List TV) (h h1 : SH) (row : List Dat), rowDat ρ.lay f ks ts h = some (row, h1) → Like h h1 ∧ row.length = ks.length ∧ ks.length ≤ ts.length ∧ (HR ρ B D σ h w → HandM D σ w M h h1 → ∀ (j : Nat) (k : Kd) (u : Dat), ks[j]? = some k → row[j]? = some u → ∃ t, ts[j]? = some t ∧ ∀ v, VR ρ σ t v → DR ρ.lay M k u v)
  c : ∀ (T n : Nat) (l : List TV) (h h1 : SH) (rows : List (List Dat)), rowsDat ρ.lay f T n l h = some (rows, h1) → Like h h1 ∧ rows.length = n ∧ (HR ρ B D σ h w → HandM D σ w M h h1 → ∀ (i : Nat) (row : List Dat), rows[i]? = some row → row.length = (ρ.lay T).length ∧
    ∀ (j : Nat) (k : Kd) (u : Dat), (ρ.lay T)[j]? = some k → row[j]? = some u → ∃ t, l[i * (ρ.lay T).length + j]? = some t ∧ ∀ v, VR ρ σ t v → DR ρ.lay M k u v)
theorem dat_ok {M : Mem} (hM : σ.mem.le M) (f : Nat) : DatOk ρ D B σ w M f := by
  induction f with
  | zero => exact ⟨fun k t h h1 d hx => by simp [toDat] at hx, fun ks ts h h1 row hx => by simp [rowDat] at hx, fun T n l h h1 rows hx => by simp [rowsDat] at hx⟩
  | succ f ih =>
    refine ⟨fun k t h h1 d hx => ?_, fun ks ts h h1 row hx => ?_, fun T n l h h1 rows hx => ?_⟩
    · cases k with
      | i k =>
        cases t with
        | i k' n =>
          simp only [toDat] at hx
          split at hx
          · rename_i e; subst e; cases hx
            exact ⟨Like.refl _, fun _ _ v hv => by cases hv; exact .i _ (.i _)⟩
          · cases hx
        | _ => simp [toDat] at hx
      | s =>
        cases t with
        | s l =>
          simp only [toDat] at hx
          cases hx
          exact ⟨Like.refl _, fun _ _ v hv => by obtain ⟨rfl, hv⟩ := hv; exact .s (.s _) hv⟩
        | _ => simp [toDat] at hx
      | b =>
        cases t with
        | b x =>
          simp only [toDat] at hx
          cases hx
          exact ⟨Like.refl _, fun _ _ v hv => by cases hv; exact .b (.b _)⟩
        | _ => simp [toDat] at hx
      | fn =>
        cases t with
        | f g first cap =>
          cases g with
          | func g =>
            cases first with
            | nil =>
              cases cap with
              | nil =>
                simp only [toDat] at hx
                cases hx
                exact ⟨Like.refl _, fun _ _ v hv => by obtain ⟨⟨a⟩, ⟨b⟩, rfl, e1, e2⟩ := hv; cases e1; cases e2; exact .fn (.f _)⟩
              | cons _ _ => simp [toDat] at hx
            | cons _ _ => simp [toDat] at hx
          | _ => simp [toDat] at hx
        | _ => simp [toDat] at hx
      | o => cases t <;> simp [toDat] at hx
      | sl T =>
        cases t with
        | es T' d' =>
          simp only [toDat] at hx
          have hq := cond_none hx; clear hx; obtain ⟨e, hx⟩ := hq
          obtain rfl := Nat.eq_of_beq_eq_true e
          cases hx
          exact ⟨Like.refl _, fun hr _ v hv => DR.mono hM hv⟩
        | sln =>
          simp only [toDat] at hx
          cases hx
          exact ⟨Like.refl _, fun _ _ v hv => by cases hv; exact .nil _ _ none 0 rfl⟩
        | sl k off esz len cap rest =>
          simp only [toDat] at hx
          obtain ⟨e, hx⟩ := cond_none hx
          obtain rfl := Nat.eq_of_beq_eq_true e
          split at hx
          · rename_i l ty ro e1
            obtain ⟨e2, hx⟩ := cond_none hx
            split at hx
            · rename_i rows h2 e3
              cases hx
              obtain ⟨l1, l2, l3⟩ := ih.c _ _ _ _ _ _ e3
              have lk : Like h h1 := (Like.see h k).trans l1
              refine ⟨lk, fun hr hd v hv => ?_⟩
              have hle := Nat.le_of_ble_eq_true e2
              obtain ⟨y, c, hy, rfl, h3, h4, h5, h6⟩ := hv
              obtain ⟨hdk, hmk⟩ := hd k (l1.tf.lg k (List.mem_cons_self ..)) (hr.wf k _ e1)
              obtain ⟨y', ca, fz, g1, g2, g3, g4, g5, g6, g7⟩ := hr.blk k _ hdk e1
              rw [hy] at g1; cases g1
              have l3 := l3 (hr.of_tr rfl rfl) hd
              have hrl : (Dat.r rows).rows.length = len := l2
              rw [← hrl]
              refine .sl T (.r rows) y.1 (y.2.1 + off) c (fun i j => ca.getD (y.2.1 + off + i * (ρ.lay T).length + j) undef) (by rw [hrl]; omega) (fun i row hi => (l3 i row hi).1) (fun i row hi j hj => ?_) (fun i row hi j kk u hj hu => ?_)
              · obtain ⟨m1, m2⟩ := l3 i row hi
                have hju : j < row.length := by omega
                obtain ⟨t, t1, t2⟩ := m2 j _ _ (List.getElem?_eq_getElem hj) (List.getElem?_eq_getElem hju)
                rw [List.getElem?_drop] at t1
                obtain ⟨v, v1, v2⟩ := g7 _ _ t1
                refine ⟨ca, hmk _ _ _ _ hy g2, ?_⟩
                rw [Array.getD_eq_getD_getElem?, show y.2.1 + off + i * (ρ.lay T).length + j = y.2.1 + (off + (i * (ρ.lay T).length + j)) from by omega, v1]
                rfl
              · obtain ⟨m1, m2⟩ := l3 i row hi
                obtain ⟨t, t1, t2⟩ := m2 j _ _ hj hu
                rw [List.getElem?_drop] at t1
                obtain ⟨v, v1, v2⟩ := g7 _ _ t1
                rw [Array.getD_eq_getD_getElem?, show y.2.1 + off + i * (ρ.lay T).length + j = y.2.1 + (off + (i * (ρ.lay T).length + j)) from by omega, v1]
                exact t2 v v2
            · cases hx
          · cases hx
        | _ => simp [toDat] at hx
    · cases ks with
      | nil =>
        simp only [rowDat] at hx
        cases hx
        exact ⟨Like.refl _, rfl, Nat.zero_le _, fun _ _ j k u hj => by simp at hj⟩
      | cons k ks =>
        cases ts with
        | nil => simp [rowDat] at hx
        | cons t r =>
          simp only [rowDat] at hx
          split at hx
          · rename_i d h2 e1
            split at hx
            · rename_i l h3 e2
              cases hx
              obtain ⟨a1, a2⟩ := ih.a _ _ _ _ _ e1
              obtain ⟨b1, b2, b3, b4⟩ := ih.b _ _ _ _ _ e2
              refine ⟨a1.trans b1, by simp [b2], by simp only [List.length_cons]; omega, fun hr hd j k' u hj hu => ?_⟩
              cases j with
              | zero =>
                simp only [List.getElem?_cons_zero, Option.some.injEq] at hj hu
                subst hj; subst hu
                exact ⟨t, rfl, a2 hr fun q x y => hd q (b1.tf.lg q x) y⟩
              | succ j =>
                simp only [List.getElem?_cons_succ] at hj hu ⊢
                exact b4 (hr.of_tr a1.tr a1.nx) (fun q x y => hd q x (by rw [← a1.nx]; exact y)) j k' u hj hu
            · cases hx
          · cases hx
    · cases n with
      | zero =>
        simp only [rowsDat] at hx
        cases hx
        exact ⟨Like.refl _, rfl, fun _ _ i row hi => by simp at hi⟩
      | succ n =>
        simp only [rowsDat] at hx
        split at hx
        · rename_i row0 h2 e1
          split at hx
          · rename_i rows0 h3 e2
            cases hx
            obtain ⟨a1, a2, a3, a4⟩ := ih.b _ _ _ _ _ e1
            obtain ⟨b1, b2, b3⟩ := ih.c _ _ _ _ _ _ e2
            refine ⟨a1.trans b1, by simp [b2], fun hr hd i row hi => ?_⟩
            cases i with
            | zero =>
              simp only [List.getElem?_cons_zero, Option.some.injEq] at hi
              subst hi
              refine ⟨a2, fun j k u hj hu => ?_⟩
              rw [Nat.zero_mul, Nat.zero_add]
              exact a4 hr (fun q x y => hd q (b1.tf.lg q x) y) j k u hj hu
            | succ i =>
              simp only [List.getElem?_cons_succ] at hi
              obtain ⟨c1, c2⟩ := b3 (hr.of_tr a1.tr a1.nx) (fun q x y => hd q x (by rw [← a1.nx]; exact y)) i row hi
              refine ⟨c1, fun j k u hj hu => ?_⟩
              obtain ⟨t, t1, t2⟩ := c2 j k u hj hu
              rw [List.getElem?_drop] at t1
              exact ⟨t, by rw [← t1]; congr 1; rw [Nat.succ_mul]; omega, t2⟩
          · cases hx
        · cases hx
theorem resCells_ok {M : Mem} (hM : σ.mem.le M) : ∀ (ks : List Kd) (l l' : List TV) (h h1 : SH), resCells ρ.lay ks l h = some (l', h1) → Like h h1 ∧ (HR ρ B D σ h w → HandM D σ w M h h1 → freeL l' = true → ∀ vs, VRs ρ σ l vs → VRs ρ (bare M) l' vs)
  | ks, l, l', h, h1, hx => by
    unfold resCells at hx
    split at hx
    · cases hx
      exact ⟨Like.refl _, fun _ _ _ vs hv => hv⟩
    · rename_i T ks t r
      split at hx
      · rename_i d h2 e1
        split at hx
        · rename_i l2 h3 e2
          cases hx
          obtain ⟨a1, a2⟩ := (dat_ok (ρ := ρ) (D := D) (B := B) (σ := σ) (w := w) hM 100).a _ _ _ _ _ e1
          obtain ⟨b1, b2⟩ := resCells_ok hM _ _ _ _ _ e2
          refine ⟨a1.trans b1, fun hr hd hfr vs hv => ?_⟩
          obtain ⟨v, q, rfl, v1, v2⟩ := hv
          have hfr := (cond_and (by simpa only [freeL] using hfr)).2
          exact ⟨v, q, rfl, a2 hr (fun q x y => hd q (b1.tf.lg q x) y) v v1, b2 (hr.of_tr a1.tr a1.nx) (fun q x y => hd q x (by rw [← a1.nx]; exact y)) hfr q v2⟩
        · cases hx
      · cases hx
    · split at hx
      · rename_i l2 h3 e2
        cases hx
        obtain ⟨b1, b2⟩ := resCells_ok hM _ _ _ _ _ e2
        refine ⟨b1, fun hr hd hfr vs hv => ?_⟩
        obtain ⟨v, q, rfl, v1, v2⟩ := hv
        obtain ⟨f1, f2⟩ := cond_and (by simpa only [freeL] using hfr)
        exact ⟨v, q, rfl, VR_free hM _ _ f1 v1, b2 hr hd f2 q v2⟩
      · cases hx
    · cases hx
structure ResOk (P : Program) (ρ : Cx) (D : Nat → Prop) (B : Nat) (σ : Emb) (w : World) (M : Mem) (f : Nat) : Prop where
  a : ∀ (k : AK) (t t' : TV) (h h1 : SH), resA ρ.lay f k t h = some (t', h1) → Like h h1 ∧ (AllOb P ρ h1.ob → HR ρ B D σ h w → HandM D σ w M h h1 → ∀ v, VR ρ σ t v → VR ρ (bare M) t' v)
  b : ∀ (ks : List AK) (l l' : List TV) (h h1 : SH), resL ρ.lay f ks l h = some (l', h1) → Like h h1 ∧ (AllOb P ρ h1.ob → HR ρ B D σ h w → HandM D σ w M h h1 → ∀ vs, VRs ρ σ l vs → VRs ρ (bare M) l' vs)
theorem res_ok {P : Program} {M : Mem} (hM : σ.mem.le M) (f : Nat) : ResOk P ρ D B σ w M f := by
  induction f with
  | zero => exact ⟨fun k t t' h h1 hx => by simp [resA] at hx, fun ks l l' h h1 hx => by simp [resL] at hx⟩
  | succ f ih =>
    refine ⟨fun k t t' h h1 hx => ?_, fun ks l l' h h1 hx => ?_⟩
    · cases k with
      | as =>
        simp only [resA] at hx
        cases hx
        exact ⟨Like.owe _ _, fun ho hr _ v hv => VR_free hM _ _ ho.head hv⟩
      | ptr T =>
        cases t with
        | p k off =>
          simp only [resA] at hx
          split at hx
          · rename_i l ty ro e1
            obtain ⟨e2, hx⟩ := cond_none hx
            split at hx
            · rename_i row h2 e3
              cases hx
              obtain ⟨a1, a2, a3, a4⟩ := (dat_ok (ρ := ρ) (D := D) (B := B) (σ := σ) (w := w) hM 100).b _ _ _ _ _ e3
              refine ⟨(Like.see h k).trans a1, fun _ hr hd v hv => ?_⟩
              obtain ⟨y, hy, rfl⟩ := hv
              obtain ⟨hdk, hmk⟩ := hd k (a1.tf.lg k (List.mem_cons_self ..)) (hr.wf k _ e1)
              obtain ⟨y', ca, fz, g1, g2, g3, g4, g5, g6, g7⟩ := hr.blk k _ hdk e1
              rw [hy] at g1; cases g1
              have a4 := a4 (hr.of_tr rfl rfl) hd
              refine ⟨y.1, y.2.1 + off, rfl, a2, fun j => ca.getD (y.2.1 + off + j) undef, fun j hj => ?_, fun j kk u hj hu => ?_⟩
              · have hju : j < row.length := by omega
                obtain ⟨t, t1, t2⟩ := a4 j _ _ (List.getElem?_eq_getElem hj) (List.getElem?_eq_getElem hju)
                rw [List.getElem?_drop] at t1
                obtain ⟨v, v1, v2⟩ := g7 _ _ t1
                refine ⟨ca, hmk _ _ _ _ hy g2, ?_⟩
                show ca[y.2.1 + off + j]? = some (ca.getD (y.2.1 + off + j) undef)
                rw [Array.getD_eq_getD_getElem?, Nat.add_assoc, v1]
                rfl
              · obtain ⟨t, t1, t2⟩ := a4 j _ _ hj hu
                rw [List.getElem?_drop] at t1
                obtain ⟨v, v1, v2⟩ := g7 _ _ t1
                show DR ρ.lay M kk u (ca.getD (y.2.1 + off + j) undef)
                rw [Array.getD_eq_getD_getElem?, Nat.add_assoc, v1]
                exact t2 v v2
            · cases hx
          · cases hx
        | _ => simp [resA] at hx
      | ifc k =>
        cases t with
        | ifc tt u =>
          simp only [resA] at hx
          split at hx
          · rename_i u' h2 e1
            cases hx
            obtain ⟨a1, a2⟩ := ih.a _ _ _ _ _ e1
            exact ⟨a1, fun ho hr hd v hv => by
              obtain ⟨z, rfl, hz⟩ := hv
              exact ⟨z, rfl, a2 ho hr hd z hz⟩⟩
          · cases hx
        | _ => simp [resA] at hx
      | agg T =>
        cases t with
        | ag l =>
          simp only [resA] at hx
          split at hx
          · rename_i l2 h2 e1
            cases hx
            obtain ⟨a1, a2⟩ := resCells_ok (D := D) (B := B) (σ := σ) (w := w) hM _ _ _ _ _ e1
            refine ⟨a1.trans (Like.owe _ _), fun ho hr hd v hv => ?_⟩
            obtain ⟨c, rfl, hv⟩ := hv
            exact ⟨c, rfl, a2 hr hd ho.head _ hv⟩
          · cases hx
        | _ => simp [resA] at hx
      | sl T =>
        simp only [resA] at hx
        split at hx
        · rename_i d h2 e1
          cases hx
          obtain ⟨a1, a2⟩ := (dat_ok (ρ := ρ) (D := D) (B := B) (σ := σ) (w := w) hM 100).a _ _ _ _ _ e1
          exact ⟨a1, fun _ hr hd v hv => a2 hr hd v hv⟩
        · cases hx
      | fn ks =>
        cases t with
        | f g first cap =>
          cases first with
          | nil =>
            simp only [resA] at hx
            split at hx
            · rename_i l2 h2 e1
              cases hx
              obtain ⟨a1, a2⟩ := ih.b _ _ _ _ _ e1
              refine ⟨a1, fun ho hr hd v hv => ?_⟩
              obtain ⟨x, y, rfl, x1, x2⟩ := hv
              exact ⟨x, y, rfl, x1, a2 ho hr hd _ x2⟩
            · cases hx
          | cons _ _ => simp [resA] at hx
        | _ => simp [resA] at hx
    · cases ks with
      | nil =>
        simp only [resL] at hx
        cases hx
        exact ⟨Like.owe _ _, fun ho hr _ vs hv => VRs_free hM _ _ ho.head hv⟩
      | cons k ks =>
        cases l with
        | nil => simp [resL] at hx
        | cons t r =>
          simp only [resL] at hx
          split at hx
          · rename_i t2 h2 e1
            split at hx
            · rename_i l2 h3 e2
              cases hx
              obtain ⟨a1, a2⟩ := ih.a _ _ _ _ _ e1
              obtain ⟨b1, b2⟩ := ih.b _ _ _ _ _ e2
              refine ⟨a1.trans b1, fun ho hr hd vs hv => ?_⟩
              obtain ⟨v, q, rfl, v1, v2⟩ := hv
              exact ⟨v, q, rfl, a2 (AllOb.of_tf b1.tf ho) hr (fun q x y => hd q (b1.tf.lg q x) y) v v1, b2 ho (hr.of_tr a1.tr a1.nx) (fun q x y => hd q x (by rw [← a1.nx]; exact y)) q v2⟩
            · cases hx
          · cases hx
end
end Go.Proofs.YtgjfdbbghefdbaaGreatDoor.Sx
namespace Go.Proofs.YtgjfdbbghefdbaaGreatDoor.Sx
open Go.RowKit Go.IntWalk
theorem inv_ld {P : Program} {op : Op} {g : Bool} {n : Nat} {y : Opd} (hc : cOp? P op = some (.ld g n y)) : ∃ t z m, op = .load t z ∧ aggOfT P t = some (g, m) ∧ n = (if g then m else 1) ∧ cOpd P z = some y := by
  cases op with
  | load t z =>
    simp only [cOp?] at hc
    split at hc
    · rename_i h1 h2; cases hc; exact ⟨_, _, _, rfl, h1, rfl, h2⟩
    · cases hc
  | call c =>
    unfold cOp? at hc
    repeat' (split at hc)
    all_goals first
      | contradiction
      | (cases hc; done)
      | (rw [Option.map_eq_some_iff] at hc; obtain ⟨_, _, q⟩ := hc; cases q; done)
  | _ =>
    simp only [cOp?] at hc
    repeat' (split at hc)
    all_goals first
      | contradiction
      | (cases hc; done)
      | (rw [Option.map_eq_some_iff] at hc; obtain ⟨_, _, q⟩ := hc; cases q; done)
theorem inv_fa {P : Program} {op : Op} {o : Nat} {y : Opd} (hc : cOp? P op = some (.fa o y)) : ∃ t z i fs f n, op = .fieldAddr t z i ∧ P.underlying t = some (.struct fs) ∧ fs[i]? = some f ∧ sizeT P f.type = some (n + 1) ∧ o = f.offset ∧ cOpd P z = some y := by
  cases op with
  | fieldAddr t z i =>
    simp only [cOp?] at hc
    split at hc
    · rename_i h1 h2
      split at hc
      · rename_i h3
        split at hc
        · rename_i h4; cases hc; exact ⟨_, _, _, _, _, _, rfl, h1, h3, h4, rfl, h2⟩
        · cases hc
      · cases hc
    · cases hc
  | call c =>
    unfold cOp? at hc
    repeat' (split at hc)
    all_goals first
      | contradiction
      | (cases hc; done)
      | (rw [Option.map_eq_some_iff] at hc; obtain ⟨_, _, q⟩ := hc; cases q; done)
  | _ =>
    simp only [cOp?] at hc
    repeat' (split at hc)
    all_goals first
      | contradiction
      | (cases hc; done)
      | (rw [Option.map_eq_some_iff] at hc; obtain ⟨_, _, q⟩ := hc; cases q; done)
theorem inv_nck {P : Program} {op : Op} {y : Opd} (hc : cOp? P op = some (.nck y)) : ∃ z, op = .nilCheck z ∧ cOpd P z = some y := by
  cases op with
  | nilCheck z =>
    simp only [cOp?, Option.map_eq_some_iff] at hc
    obtain ⟨_, h1, q⟩ := hc
    cases q
    exact ⟨_, rfl, h1⟩
  | call c =>
    unfold cOp? at hc
    repeat' (split at hc)
    all_goals first
      | contradiction
      | (cases hc; done)
      | (rw [Option.map_eq_some_iff] at hc; obtain ⟨_, _, q⟩ := hc; cases q; done)
  | _ =>
    simp only [cOp?] at hc
    repeat' (split at hc)
    all_goals first
      | contradiction
      | (cases hc; done)
      | (rw [Option.map_eq_some_iff] at hc; obtain ⟨_, _, q⟩ := hc; cases q; done)
theorem inv_ia {P : Program} {op : Op} {s : Nat} {y yi : Opd} (hc : cOp? P op = some (.ia s y yi)) : ∃ t z ix el, op = .indexAddr t z ix ∧ P.underlying t = some (.slice el) ∧ sizeT P el = some s ∧ cOpd P z = some y ∧ cOpd P ix = some yi := by
  cases op with
  | indexAddr t z ix =>
    simp only [cOp?] at hc
    split at hc
    · rename_i h1 h2 h3
      split at hc
      · rename_i h4; cases hc; exact ⟨_, _, _, _, rfl, h1, h4, h2, h3⟩
      · cases hc
    · split at hc
      · cases hc
      · cases hc
    · cases hc
  | call c =>
    unfold cOp? at hc
    repeat' (split at hc)
    all_goals first
      | contradiction
      | (cases hc; done)
      | (rw [Option.map_eq_some_iff] at hc; obtain ⟨_, _, q⟩ := hc; cases q; done)
  | _ =>
    simp only [cOp?] at hc
    repeat' (split at hc)
    all_goals first
      | contradiction
      | (cases hc; done)
      | (rw [Option.map_eq_some_iff] at hc; obtain ⟨_, _, q⟩ := hc; cases q; done)
theorem inv_len {P : Program} {op : Op} {y : Opd} (hc : cOp? P op = some (.len 1 y)) : ∃ t z el, op = .call { callee := .builtin .len, args := #[z], argTypes := #[t] } ∧ P.underlying t = some (.slice el) ∧ cOpd P z = some y := by
  unfold cOp? at hc
  repeat' (split at hc)
  all_goals first
    | (cases hc; done)
    | (rw [Option.map_eq_some_iff] at hc; obtain ⟨_, _, q⟩ := hc; cases q; done)
    | (rename_i h1 h2; cases hc; exact ⟨_, _, _, rfl, h1, h2⟩)
theorem inv_slc {P : Program} {op : Op} {s : Nat} {y : Opd} {lo' hi' mx' : Option Opd} (hc : cOp? P op = some (.slc s y lo' hi' mx')) : ∃ t z lo hi mx el, op = .slice t z lo hi mx ∧ P.underlying t = some (.slice el) ∧ sizeT P el = some s ∧ cOpd P z = some y ∧ cOpt P lo = some lo' ∧ cOpt P hi = some hi' ∧ cOpt P mx = some mx' ∧ ¬ (hi.isNone = true ∧ mx.isSome = true) := by
  cases op with
  | slice t z lo hi mx =>
    simp only [cOp?] at hc
    split at hc
    · cases hc
    · rename_i h1 h2 h3 h4 h5
      split at hc
      · rename_i h6
        split at hc
        · cases hc
        · rename_i h7; cases hc
          exact ⟨_, _, _, _, _, _, rfl, h1, h6, h2, h3, h4, h5, by rw [← Option.not_isSome, ← cOpt_some h4, ← cOpt_some h5, Option.not_isSome]; exact h7⟩
      · cases hc
    · split at hc
      · split at hc
        · cases hc
        · cases hc
      · cases hc
    · cases hc
  | call c =>
    unfold cOp? at hc
    repeat' (split at hc)
    all_goals first
      | contradiction
      | (cases hc; done)
      | (rw [Option.map_eq_some_iff] at hc; obtain ⟨_, _, q⟩ := hc; cases q; done)
  | _ =>
    simp only [cOp?] at hc
    repeat' (split at hc)
    all_goals first
      | contradiction
      | (cases hc; done)
      | (rw [Option.map_eq_some_iff] at hc; obtain ⟨_, _, q⟩ := hc; cases q; done)
theorem inK_of {k : IntKind} {n : Int} (h : inK k n = true) : kw k n = n := by
  unfold inK at h
  simp only [Bool.and_eq_true, decide_eq_true_eq] at h
  rw [kw_eq]
  cases k
  case i8 => exact i8_in n h
  case i16 => exact i16_in n h
  case i32 => exact i32_in n h
  case i64 => exact i64_in n h
  case u8 => exact u8_in n h
  case u16 => exact u16_in n h
  case u32 => exact u32_in n h
  case u64 => exact u64_in n h
section
variable {P : Program} {ρ : Cx} {B : Nat} {D : Nat → Prop} {σ : Emb} {h h' : SH} {w : World} {v : TV} (hρ : ∀ j, scalV (ρ j)) (hr : HR ρ B D σ h w) {e : Trie TV} {a : Act} (he : EnvR ρ σ e a.tmps) (hg : GlobR P σ)
  (hf : Free σ h.nx h'.nx) (hd : Hand D h h')
theorem decB_ok {x : Bool} (hx : decB x h = some (v, h')) (ho : AllOb P ρ h'.ob) : v = .b x ∧ Like h h' := by
  unfold decB at hx
  split at hx
  · rename_i d r e1
    cases hx
    have : x = d := ho.head
    subst this
    exact ⟨rfl, (Like.told _ _).trans (Like.owe _ _)⟩
  · cases hx; exact ⟨rfl, Like.told _ _⟩
  · cases hx
theorem decB_like {x : Bool} (hx : decB x h = some (v, h')) : Like h h' := by
  unfold decB at hx
  split at hx
  · cases hx; exact (Like.told _ _).trans (Like.owe _ _)
  · cases hx; exact Like.told _ _
  · cases hx
theorem iopO_like {op : BinOp} {k : IntKind} {x y : Int} (hx : iopO op k x y h = some (v, h')) : Like h h' := by
  unfold iopO at hx
  split at hx
  all_goals first
    | (cases hx; exact Like.owe _ _)
    | (cases hx; exact (Like.owe _ _).trans (Like.owe _ _))
    | exact decB_like hx
    | cases hx
theorem iopO_ok {op : BinOp} {k : IntKind} {x y : Int} (hx : iopO op k x y h = some (v, h')) (ho : AllOb P ρ h'.ob) : iop op k x y = some v := by
  unfold iopO at hx
  cases op <;> simp only [] at hx
  case add => cases hx; have := inK_of ho.head; simp [iop, this]
  case sub => cases hx; have := inK_of ho.head; simp [iop, this]
  case mul => cases hx; have := inK_of ho.head; simp [iop, this]
  case quo =>
    cases hx
    have h1 := inK_of ho.head
    have h2 : decide (y = 0) = false := ho.tail.head
    have : ieq y 0 = false := by rw [ieq_eq]; simpa using h2
    simp [iop, this, h1]
  case rem =>
    cases hx
    have h2 : decide (y = 0) = false := ho.head
    have : ieq y 0 = false := by rw [ieq_eq]; simpa using h2
    simp [iop, this]
  case eql => obtain ⟨rfl, _⟩ := decB_ok hx ho; simp [iop, ieq_eq]; rfl
  case neq =>
    obtain ⟨rfl, _⟩ := decB_ok hx ho
    simp only [iop, ieq_eq]
    have : (x == y) = decide (x = y) := rfl
    rw [this]
    cases decide (x = y) <;> rfl
  case lss => obtain ⟨rfl, _⟩ := decB_ok hx ho; simp [iop, ilt_eq]
  case leq => obtain ⟨rfl, _⟩ := decB_ok hx ho; simp [iop, ile_eq]
  case gtr => obtain ⟨rfl, _⟩ := decB_ok hx ho; simp [iop, ilt_eq]
  case geq => obtain ⟨rfl, _⟩ := decB_ok hx ho; simp [iop, ile_eq]
  all_goals cases hx
theorem lEq_dec : ∀ (x y : List Nat), lEq x y = decide (x = y)
  | [], [] => rfl
  | [], _ :: _ => by simp [lEq]
  | _ :: _, [] => by simp [lEq]
  | a :: x, b :: y => by
    unfold lEq
    rw [lEq_dec x y]
    by_cases e : a = b
    · subst e; simp
    · rw [show Nat.beq a b = false from Bool.eq_false_iff.2 fun q => e (Nat.eq_of_beq_eq_true q)]
      simp [e]
theorem keyQ_eq {str : KK} {x y : TV} : keyEq str x y = keyQ str x y := by
  unfold keyEq keyQ
  cases str with
  | n =>
    cases x <;> cases y <;> first | rfl | skip
    simp only [ieq_eq]
    rfl
  | s =>
    cases x <;> cases y <;> first | rfl | skip
    simp only [lEq_dec]
  | w ks => unfold keyEq; rfl
theorem findO_like {str : KK} {k : TV} : ∀ {es : List (TV × TV × Nat)} {h h' : SH} {r : Option TV}, findO str k es h = some (r, h') → Like h h'
  | [], h, h', r, hx => by
    unfold findO at hx
    obtain ⟨_, hx⟩ := cond_none hx
    cases hx; exact Like.refl _
  | en :: q, h, h', r, hx => by
    unfold findO at hx
    split at hx
    · cases hx
    · split at hx
      · cases hx; exact (Like.told _ _).trans (Like.owe _ _)
      · exact ((Like.told _ _).trans (Like.owe _ _)).trans (findO_like hx)
      · cases hx
theorem findO_ok {str : KK} {k : TV} : ∀ {es : List (TV × TV × Nat)} {h h' : SH} {r : Option TV} (i : Nat), findO str k es h = some (r, h') → AllOb P ρ h'.ob → (r = none → findK str k es i = some none) ∧ ∀ v, r = some v → ∃ j, findK str k es i = some (some (j, v))
  | [], h, h', r, i, hx, _ => by
    unfold findO at hx
    obtain ⟨c, hx⟩ := cond_none hx
    cases hx; exact ⟨fun _ => by unfold findK; rw [c]; rfl, fun v q => by cases q⟩
  | en :: q, h, h', r, i, hx, ho => by
    unfold findO at hx
    split at hx
    · cases hx
    · rename_i x e1
      unfold findK
      rw [keyQ_eq, e1]
      split at hx
      · cases hx
        have : x = true := ho.head
        subst this
        exact ⟨fun q => (by cases q), fun v q => by cases q; exact ⟨i, rfl⟩⟩
      · have l := findO_like hx
        have : x = false := (AllOb.of_tf l.tf ho).head
        subst this
        exact findO_ok (i + 1) hx ho
      · cases hx
theorem findM_like {str : KK} {k : TV} {es : List (TV × TV × Nat)} {h h' : SH} {r : Option (Nat × TV)} (hx : findM str k es h = some (r, h')) : ∃ p, h' = (h.told p).owe (.pr (findK str k es 0 = some r)) := by
  unfold findM at hx
  split at hx
  · cases hx; exact ⟨_, rfl⟩
  · cases hx
theorem sopO_like {op : BinOp} {x y : List Nat} (hx : sopO op x y h = some (v, h')) : Like h h' := by
  unfold sopO at hx
  split at hx
  all_goals first
    | (cases hx; exact Like.owe _ _)
    | exact decB_like hx
    | cases hx
theorem sopO_ok {op : BinOp} {x y : List Nat} (hx : sopO op x y h = some (v, h')) (ho : AllOb P ρ h'.ob) : sop op x y = some v := by
  unfold sopO at hx
  cases op <;> simp only [] at hx
  case add =>
    cases hx
    have h1 : decide (x.length + y.length < 1000000) = true := ho.head
    have : Nat.blt (x.length + y.length) 1000000 = true := by rw [blt_eq]; exact h1
    simp [sop, this]
  case eql => obtain ⟨rfl, _⟩ := decB_ok hx ho; simp [sop, lEq_dec]
  case neq => obtain ⟨rfl, _⟩ := decB_ok hx ho; simp only [sop, lEq_dec]; cases decide (x = y) <;> rfl
  case lss => obtain ⟨rfl, _⟩ := decB_ok hx ho; simp [sop]
  case leq => obtain ⟨rfl, _⟩ := decB_ok hx ho; simp only [sop, lEq_dec]; cases lLt x y <;> rfl
  case gtr => obtain ⟨rfl, _⟩ := decB_ok hx ho; simp only [sop, lEq_dec]; cases lLt x y <;> cases decide (x = y) <;> rfl
  case geq => obtain ⟨rfl, _⟩ := decB_ok hx ho; simp only [sop]; cases lLt x y <;> rfl
  all_goals cases hx
theorem bdO_bound {o : Option Opd} {dflt : Int} {nd most : Nat} {n : Int} (hb : bdO e o dflt = some n) (hdf : o = none → dflt = (nd : Int)) (h0 : 0 ≤ n) (h1 : n ≤ (most : Int)) : bound e o nd most = some n.toNat := by
  unfold bdO at hb
  unfold bound
  cases o with
  | none =>
    simp only [Option.some.injEq] at hb ⊢
    have := hdf rfl
    omega
  | some o =>
    simp only [] at hb ⊢
    split at hb
    · rename_i k m e1
      cases hb
      obtain ⟨j, rfl⟩ : ∃ j : Nat, n = Int.ofNat j := ⟨n.toNat, (Int.toNat_of_nonneg h0).symm⟩
      rw [e1]
      have : Nat.ble j most = true := by rw [Nat.ble_eq]; have h1 : (j : Int) ≤ most := h1; omega
      simp [this]
    · cases hb
theorem inS_of {lo hi : Int} {n : Nat} (x : inS lo hi n = true) : 0 ≤ lo ∧ lo ≤ hi ∧ hi ≤ (n : Int) := by
  unfold inS at x
  simpa only [Bool.and_eq_true, decide_eq_true_eq] using x
theorem inB_of {j : Int} {n : Nat} (x : inB j n = true) : 0 ≤ j ∧ j < (n : Int) := by
  unfold inB at x
  simpa only [Bool.and_eq_true, decide_eq_true_eq] using x
theorem kd_ok {k : Kd} {d : Dat} {v : Value} (x : DR ρ.lay σ.mem k d v) : VR ρ σ (kdTV k d) v := by
  cases k with
  | sl T => exact x
  | o => trivial
  | i k => cases x; rfl
  | s => cases x; exact ⟨rfl, ‹_›⟩
  | b => cases x; rfl
  | fn => cases x; exact ⟨#[], #[], rfl, rfl, rfl⟩
theorem kdTVs_ok {row : List Dat} {vals : Nat → Value} : ∀ (ks : List Kd) (off n : Nat) (vs : List Value), n ≤ ks.length → vs.length = n → (∀ j, j < n → vs[j]? = some (vals (off + j))) →
    (∀ (j : Nat) (k : Kd), ks[j]? = some k → ∃ u, row[off + j]? = some u ∧ DR ρ.lay σ.mem k u (vals (off + j))) → VRs ρ σ (kdTVs ks row off n) vs
  | [], off, n, vs, h1, h2, _, _ => by
    simp only [List.length_nil, Nat.le_zero] at h1
    subst h1
    have := List.eq_nil_of_length_eq_zero h2
    subst this
    rfl
  | k :: r, off, 0, vs, _, h2, _, _ => by
    have := List.eq_nil_of_length_eq_zero h2
    subst this
    rfl
  | k :: r, off, n + 1, vs, h1, h2, h3, h4 => by
    cases vs with
    | nil => simp at h2
    | cons v q =>
      have e0 := h3 0 (by omega)
      simp only [List.getElem?_cons_zero, Option.some.injEq, Nat.add_zero] at e0
      obtain ⟨u, u1, u2⟩ := h4 0 k rfl
      rw [Nat.add_zero] at u1 u2
      refine ⟨v, q, rfl, ?_, kdTVs_ok (vals := vals) r (off + 1) n q (by simpa using h1) (by simpa using h2) (fun j hj => ?_) fun j k' hj => ?_⟩
      · rw [List.getD_eq_getElem?_getD, u1, e0]
        exact kd_ok u2
      · have := h3 (j + 1) (by omega)
        rw [List.getElem?_cons_succ] at this
        rw [this]; congr 2; omega
      · obtain ⟨u, u1, u2⟩ := h4 (j + 1) k' (by simpa using hj)
        exact ⟨u, by rw [← u1]; congr 1; omega, by rw [show off + 1 + j = off + (j + 1) from by omega]; exact u2⟩
end
end Go.Proofs.YtgjfdbbghefdbaaGreatDoor.Sx
namespace Go.Proofs.YtgjfdbbghefdbaaGreatDoor.Sx
open Go.RowKit
section
variable {P : Program} {ρ : Cx} {B : Nat} {D : Nat → Prop} {σ : Emb} {h h' : SH} {w : World} {v : TV} (hρ : ∀ j, scalV (ρ j)) (hr : HR ρ B D σ h w) {e : Trie TV} {a : Act} (he : EnvR ρ σ e a.tmps) (hg : GlobR P σ)
  (hf : Free σ h.nx h'.nx) (hd : Hand D h h')
theorem ldE_like {ks : List Kd} {agg : Bool} {n off : Nat} {row : List Dat} (hx : ldE ks agg n off row h = some (v, h')) : Like h h' := by
  unfold ldE at hx
  split at hx
  · obtain ⟨_, hx⟩ := cond_none hx; obtain ⟨_, hx⟩ := cond_none hx; cases hx; exact Like.refl _
  · split at hx
    · obtain ⟨_, hx⟩ := cond_none hx; exact decB_like hx
    · obtain ⟨_, hx⟩ := cond_none hx; cases hx; exact Like.refl _
    · cases hx
theorem OpOk.like {h0 : SH} {op : Op} (x : OpOk P ρ B D σ h w a v h0 op) (l : Like h0 h') : OpOk P ρ B D σ h w a v h' op := by
  intro dst type pos after guard
  obtain ⟨σ', w', z, t, q⟩ := x dst type pos after guard
  exact ⟨σ', w', z, t.to_like l.tr l.nx, q⟩
include hr
theorem row_at {T : Nat} {row : List Dat} {b o : Nat} (x : RowR ρ.lay σ.mem T row b o) {off : Nat} (ho : off < (ρ.lay T).length) : ∃ cs ty fz, w.heap[b]? = some (.cells cs ty fz) ∧ row.length = (ρ.lay T).length ∧ ∃ val : Nat → Value, (∀ j, j < (ρ.lay T).length → cs[o + j]? = some (val j)) ∧
    ∀ (j : Nat) (k : Kd) (u : Dat), (ρ.lay T)[j]? = some k → row[j]? = some u → DR ρ.lay σ.mem k u (val j) := by
  obtain ⟨x1, val, x2, x3⟩ := x
  obtain ⟨cs, e1, _⟩ := x2 off ho
  obtain ⟨⟨ty, fz, e2⟩, _⟩ := hr.mem b cs e1
  refine ⟨cs, ty, fz, e2, x1, val, fun j hj => ?_, x3⟩
  obtain ⟨cs', e3, e4⟩ := x2 j hj
  rw [e1] at e3; cases e3
  exact e4
include he hg
theorem o_ld {op : Op} {agg : Bool} {n : Nat} {y : Opd} (hc : cOp? P op = some (.ld agg n y)) {T off : Nat} {row : List Dat} (e1 : y.ev e = .ep T off row) (hx : ldE (ρ.lay T) agg n off row h = some (v, h')) (ho : AllOb P ρ h'.ob) : OpOk P ρ B D σ h w a v h' op := by
  intro dst type pos after guard
  obtain ⟨t, z, m, rfl, ht, hn, hz⟩ := inv_ld hc
  have g1 := opd_ok he hg hz
  rw [e1] at g1
  obtain ⟨b, o, hv, hrow⟩ := g1
  have fin : ∀ {x : Value}, VR ρ σ v x → Like h h' → (loadVar t ⟨b, o + off, none⟩).run P w = .ok x w → Yl ρ B D σ h w v h' ((execOp a.eval ⟨dst, .load t z, type, pos, after, guard⟩).run P w) := by
    intro x q1 q2 q3
    refine yl_pure hr q2.tr q2.nx q1 ?_
    simp only [execOp]
    refine run_val ?_
    rw [hv]
    unfold Instr.loadAt Instr.sureAddr
    rw [run_bind]
    exact q3
  have one : n = 1 → agg = false → off < (ρ.lay T).length → (∀ k u, (ρ.lay T)[off]? = some k → row[off]? = some u → ∀ x, VR ρ σ (kdTV k u) x → VR ρ σ v x) → Like h h' → Yl ρ B D σ h w v h' ((execOp a.eval ⟨dst, .load t z, type, pos, after, guard⟩).run P w) := by
    intro _ hag hlt hvv hl
    subst hag
    obtain ⟨cs, ty, fz, b1, b2, val, b3, b4⟩ := row_at hr hrow hlt
    have hlt2 : off < row.length := by omega
    have := b4 off _ _ (List.getElem?_eq_getElem hlt) (List.getElem?_eq_getElem hlt2)
    exact fin (hvv _ _ (List.getElem?_eq_getElem hlt) (List.getElem?_eq_getElem hlt2) _ (kd_ok this)) hl (run_loadVar_one ht b1 (b3 off hlt))
  unfold ldE at hx
  split at hx
  · have hq := cond_none hx; clear hx; obtain ⟨c0, hx⟩ := hq
    have hq := cond_none hx; clear hx; obtain ⟨c1, hx⟩ := hq
    cases hx
    have c0 : 0 < n := blt_lt c0
    have c1 := Nat.le_of_ble_eq_true c1
    simp only [if_true] at hn
    subst hn
    obtain ⟨cs, ty, fz, b1, b2, val, b3, b4⟩ := row_at hr hrow (show off < _ by omega)
    have hsz : o + off + n ≤ cs.size := by
      have := (Array.getElem?_eq_some_iff.1 (b3 (off + n - 1) (by omega))).1
      omega
    refine fin (x := .agg (cs.extract (o + off) (o + off + n))) ⟨_, rfl, ?_⟩ (Like.refl _) (run_loadVar_agg ht b1 hsz)
    refine kdTVs_ok (vals := val) _ off n _ (by simp; omega) (by simp; omega) (fun j hj => ?_) fun j k hj => ?_
    · rw [Array.getElem?_toList, Array.getElem?_extract, if_pos (by omega), Nat.add_assoc]
      exact b3 _ (by omega)
    · rw [List.getElem?_drop] at hj
      have hl := (List.getElem?_eq_some_iff.1 hj).1
      have hlt2 : off + j < row.length := by omega
      exact ⟨_, List.getElem?_eq_getElem hlt2, b4 _ _ _ hj (List.getElem?_eq_getElem hlt2)⟩
  · have dropk : ∀ k r, (ρ.lay T).drop off = k :: r → off < (ρ.lay T).length ∧ (ρ.lay T)[off]? = some k := fun k r e => by
      have h0 : ((ρ.lay T).drop off)[0]? = some k := by rw [e]; rfl
      rw [List.getElem?_drop] at h0
      exact ⟨by simpa using (List.getElem?_eq_some_iff.1 h0).1, by simpa using h0⟩
    split at hx
    · rename_i r e2
      have hq := cond_none hx; clear hx; obtain ⟨c1, hx⟩ := hq
      obtain ⟨d1, d2⟩ := dropk _ _ e2
      have hlk := decB_like hx
      obtain ⟨rfl, _⟩ := decB_ok (P := P) (ρ := ρ) hx ho
      refine one (Nat.eq_of_beq_eq_true c1) rfl d1 (fun k u hk hu x hv => ?_) hlk
      rw [d2] at hk; cases hk
      rw [List.getD_eq_getElem?_getD, hu]
      exact hv
    · rename_i k r hne e2
      have hq := cond_none hx; clear hx; obtain ⟨c1, hx⟩ := hq
      cases hx
      obtain ⟨d1, d2⟩ := dropk _ _ e2
      refine one (Nat.eq_of_beq_eq_true c1) rfl d1 (fun k' u hk hu x hv => ?_) (Like.refl _)
      rw [d2] at hk; cases hk
      rw [List.getD_eq_getElem?_getD, hu]
      exact hv
    · cases hx
theorem o_fa {op : Op} {off : Nat} {y : Opd} (hc : cOp? P op = some (.fa off y)) {T o : Nat} {row : List Dat} (e1 : y.ev e = .ep T o row) : OpOk P ρ B D σ h w a (.ep T (o + off) row) h op := by
  intro dst type pos after guard
  obtain ⟨t, z, i, fs, f, n, rfl, h1, h2, h3, rfl, hz⟩ := inv_fa hc
  have g1 := opd_ok he hg hz
  rw [e1] at g1
  obtain ⟨b, o', hv, hrow⟩ := g1
  obtain ⟨ti, i1, i2⟩ := size_some h3
  refine yl_pure hr rfl rfl (x := .pointer (some ⟨b, o' + (o + f.offset), none⟩)) ⟨b, o', rfl, hrow⟩ ?_
  simp only [execOp]
  refine run_val ?_
  rw [hv]
  unfold Instr.fieldAt
  rw [run_bind, run_und h1]
  simp only [h2, run_bind]
  have q : (fieldPlace ⟨b, o' + o, none⟩ f).run P w = .ok ⟨b, o' + (o + f.offset), none⟩ w := by
    unfold fieldPlace
    rw [run_bind, run_size i1]
    simp only [i2, Nat.add_one_ne_zero, if_false, run_pure, addr_add, Nat.add_assoc]
  simp only [Instr.sureAddr, run_pure, q]
theorem o_nck {op : Op} {y : Opd} (hc : cOp? P op = some (.nck y)) {T o : Nat} {row : List Dat} (e1 : y.ev e = .ep T o row) : OpOk P ρ B D σ h w a (.ep T o row) h op := by
  intro dst type pos after guard
  obtain ⟨z, rfl, hz⟩ := inv_nck hc
  have g1 := opd_ok he hg hz
  rw [e1] at g1
  refine yl_pure hr rfl rfl g1 ?_
  obtain ⟨b, o', hv, _⟩ := g1
  simp only [execOp, hv, run_pure]
theorem o_ia {op : Op} {s : Nat} {y yi : Opd} (hc : cOp? P op = some (.ia s y yi)) {T : Nat} {d : Dat} {k : IntKind} {j : Int} (e1 : y.ev e = .es T d) (e2 : yi.ev e = .i k j) (hs : s = (ρ.lay T).length) (hj : inB j d.rows.length = true) :
    OpOk P ρ B D σ h w a (.ep T 0 (d.rows.getD j.toNat [])) h op := by
  intro dst type pos after guard
  obtain ⟨t, z, ix, el, rfl, ht, hsz, hz, hi⟩ := inv_ia hc
  have g1 := opd_ok he hg hz
  have g2 := opd_ok he hg hi
  rw [e1] at g1; rw [e2] at g2
  obtain ⟨ti, i1, i2⟩ := size_some hsz
  obtain ⟨j0, j1⟩ := inB_of hj
  obtain ⟨j, rfl⟩ : ∃ q : Nat, j = Int.ofNat q := ⟨j.toNat, (Int.toNat_of_nonneg j0).symm⟩
  have j1 : j < d.rows.length := by have j1 : (j : Int) < (d.rows.length : Int) := j1; omega
  have g1 : DR ρ.lay σ.mem (.sl T) d (a.eval z) := g1
  generalize hzv : a.eval z = zv at g1
  cases g1 with
  | nil _ _ _ _ h0 => rw [h0] at j1; simp at j1
  | sl _ _ b o c val h1 h2 h3 h4 =>
    have hrow : d.rows[j]? = some d.rows[j] := List.getElem?_eq_getElem j1
    refine yl_pure hr rfl rfl (x := .pointer (some ⟨b, o + j * ti.size + 0, none⟩)) ?_ ?_
    · refine ⟨b, o + j * ti.size, rfl, ?_⟩
      rw [show (Int.ofNat j).toNat = j from rfl, List.getD_eq_getElem?_getD, hrow]
      refine ⟨h2 j _ hrow, val j, fun q hq => ?_, fun q k u hk hu => h4 j _ hrow q k u hk hu⟩
      rw [i2, hs]
      exact h3 j _ hrow q hq
    · simp only [execOp]
      rw [hzv, show a.eval ix = _ from g2]
      refine run_val ?_
      unfold Instr.indexAt
      rw [run_bind]
      simp only [asIntOf, run_pure]
      have hp : (0 : Int) ≤ Int.ofNat j ∧ Int.ofNat j < (d.rows.length : Int) := ⟨Int.natCast_nonneg _, by simpa using j1⟩
      simp only [run_bind, run_und ht, run_pure]
      rw [if_pos hp]
      simp only [run_bind, run_size i1, addr_add, run_pure]
      rw [show (Int.ofNat j).toNat = j from rfl, Nat.add_zero]
theorem o_len {op : Op} {y : Opd} (hc : cOp? P op = some (.len 1 y)) {T : Nat} {d : Dat} (e1 : y.ev e = .es T d) : OpOk P ρ B D σ h w a (.i .i64 (d.rows.length : Int)) h op := by
  intro dst type pos after guard
  obtain ⟨t, z, el, rfl, ht, hz⟩ := inv_len hc
  have g1 := opd_ok he hg hz
  rw [e1] at g1
  refine yl_pure hr rfl rfl (x := .int .i64 (d.rows.length : Int)) rfl ?_
  simp only [execOp, resolve]
  rw [run_bind, run_pure]
  simp only [invoke, builtin]
  refine run_val ?_
  rw [show (Array.map a.eval #[z]) = #[a.eval z] from by simp]
  have g1 : DR ρ.lay σ.mem (.sl T) d (a.eval z) := g1
  generalize a.eval z = zv at g1
  cases g1 with
  | nil _ _ _ _ h0 =>
    unfold Builtin.len_
    simp only [List.getElem?_toArray, List.getElem?_cons_zero]
    rw [run_bind, run_und ht, h0]
    rfl
  | sl _ _ b o c val h1 h2 h3 h4 =>
    unfold Builtin.len_
    simp only [List.getElem?_toArray, List.getElem?_cons_zero]
    rw [run_bind, run_und ht]
    rfl
theorem o_slc {op : Op} {s : Nat} {y : Opd} {lo' hi' mx' : Option Opd} (hc : cOp? P op = some (.slc s y lo' hi' mx')) {T : Nat} {d : Dat} (e1 : y.ev e = .es T d) (hs : s = (ρ.lay T).length) {p q m : Int} (b1 : bdO e lo' 0 = some p) (b2 : bdO e hi' (d.rows.length : Int) = some q) (b3 : bdO e mx' (d.rows.length : Int) = some m)
    (o1 : inS p q d.rows.length = true) (o2 : inS q m d.rows.length = true) : OpOk P ρ B D σ h w a (.es T (.r ((d.rows.drop p.toNat).take (q - p).toNat))) h op := by
  intro dst type pos after guard
  obtain ⟨t, z, lo, hi, mx, el, rfl, ht, hsz, hz, c1, c2, c3, hm⟩ := inv_slc hc
  have g1 := opd_ok he hg hz
  rw [e1] at g1
  obtain ⟨ti, i1, i2⟩ := size_some hsz
  obtain ⟨p0, p1, p2⟩ := inS_of o1
  obtain ⟨_, m1, m2⟩ := inS_of o2
  have k3 := bdO_bound (nd := d.rows.length) (most := d.rows.length) b3 (fun _ => rfl) (by omega) m2
  have k2 := bdO_bound (nd := d.rows.length) (most := m.toNat) b2 (fun _ => rfl) (by omega) (by omega)
  have k1 := bdO_bound (nd := 0) (most := q.toNat) b1 (fun _ => rfl) p0 (by omega)
  have hlen : ((d.rows.drop p.toNat).take (q - p).toNat).length = q.toNat - p.toNat := by simp; omega
  have g1 : DR ρ.lay σ.mem (.sl T) d (a.eval z) := g1
  generalize hzv : a.eval z = zv at g1
  cases g1 with
  | nil _ _ pp c h0 =>
    rw [h0] at p2 m2 k3 k2
    simp only [List.length_nil] at p2 m2 k3 k2
    obtain ⟨hb, hb1, hb2, hb3⟩ := bounds_ok (P := P) (w := w) he hg c1 c2 c3 hm (c := c) (Nat.zero_le _) (Nat.le_refl _) k3 k2 k1 true
    have z1 : m.toNat = 0 := by omega
    have z2 : q.toNat = 0 := by omega
    have z3 : p.toNat = 0 := by omega
    rw [z1, z2, z3] at hb
    have hrun : ∃ p' c', (Instr.sliceAt t (.slice pp 0 c) (lo.map a.eval) (hi.map a.eval) (mx.map a.eval)).run P w = .ok (.slice p' 0 c') w := by
      unfold Instr.sliceAt
      rw [run_bind, run_und ht]
      simp only []
      unfold Instr.slice
      rw [run_bind, run_und ht]
      simp only []
      rw [run_bind, hb]
      simp only []
      rw [run_bind, run_size i1]
      exact ⟨_, _, rfl⟩
    obtain ⟨p', c', hrun⟩ := hrun
    refine yl_pure hr rfl rfl (x := .slice p' 0 c') (.nil _ _ p' c' (by rw [h0]; simp [Dat.rows])) ?_
    simp only [execOp]
    rw [hzv]
    exact run_val hrun
  | sl _ _ b o c val h1 h2 h3 h4 =>
    obtain ⟨hb, hb1, hb2, hb3⟩ := bounds_ok (P := P) (w := w) he hg c1 c2 c3 hm (c := c) h1 (Nat.le_refl _) k3 k2 k1 true
    have hrun : (Instr.sliceAt t (.slice (some ⟨b, o, none⟩) d.rows.length c) (lo.map a.eval) (hi.map a.eval) (mx.map a.eval)).run P w =
        .ok (.slice (if (if mx.isSome then m.toNat else c) = p.toNat then some ⟨b, o, none⟩ else some ⟨b, o + p.toNat * ti.size, none⟩) (q.toNat - p.toNat) ((if mx.isSome then m.toNat else c) - p.toNat)) w := by
      unfold Instr.sliceAt
      rw [run_bind, run_und ht]
      simp only []
      unfold Instr.slice
      rw [run_bind, run_und ht]
      simp only []
      rw [run_bind, hb]
      simp only []
      rw [run_bind, run_size i1]
      simp only [Option.map_some, addr_add]
      rfl
    have hcc : m.toNat ≤ (if mx.isSome = true then m.toNat else c) := by
      split
      · exact Nat.le_refl _
      · omega
    generalize hC : (if mx.isSome = true then m.toNat else c) = C at hrun hcc
    have fin : ∀ {o' : Nat}, (if C = p.toNat then (some ⟨b, o, none⟩ : Option Addr) else some ⟨b, o + p.toNat * ti.size, none⟩) = some ⟨b, o', none⟩ → (C ≠ p.toNat → o' = o + p.toNat * ti.size) →
        Yl ρ B D σ h w (.es T (.r ((d.rows.drop p.toNat).take (q - p).toNat))) h ((execOp a.eval ⟨dst, .slice t z lo hi mx, type, pos, after, guard⟩).run P w) := by
      intro o' ho hoo
      have key : ∀ (i : Nat) (row : List Dat), ((d.rows.drop p.toNat).take (q - p).toNat)[i]? = some row → i < q.toNat - p.toNat ∧ d.rows[p.toNat + i]? = some row := fun i row hi => by
        have hlt := (List.getElem?_eq_some_iff.1 hi).1
        rw [hlen] at hlt
        rw [List.getElem?_take_of_lt (by omega), List.getElem?_drop] at hi
        exact ⟨hlt, hi⟩
      refine yl_pure hr rfl rfl (x := .slice (some ⟨b, o', none⟩) ((d.rows.drop p.toNat).take (q - p).toNat).length (C - p.toNat)) ?_ ?_
      · refine .sl T (.r ((d.rows.drop p.toNat).take (q - p).toNat)) b o' (C - p.toNat) (fun i j => val (p.toNat + i) j) (by show ((d.rows.drop p.toNat).take (q - p).toNat).length ≤ _; rw [hlen]; omega) (fun i row hi => h2 _ _ (key i row hi).2) (fun i row hi j hj => ?_) (fun i row hi j k u hk hu => h4 _ _ (key i row hi).2 j k u hk hu)
        obtain ⟨k0, k5⟩ := key i row hi
        have hne : C ≠ p.toNat := by omega
        rw [hoo hne, i2, hs]
        obtain ⟨cs, q1, q2⟩ := h3 _ _ k5 j hj
        refine ⟨cs, q1, ?_⟩
        rw [← q2]; congr 1
        rw [Nat.add_mul]; omega
      · simp only [execOp]
        rw [hzv]
        refine run_val ?_
        rw [hrun, ho, hlen]
    by_cases hx0 : C = p.toNat
    · exact fin (o' := o) (by rw [if_pos hx0]) (fun q => absurd hx0 q)
    · exact fin (o' := o + p.toNat * ti.size) (by rw [if_neg hx0]) (fun _ => rfl)
end
end Go.Proofs.YtgjfdbbghefdbaaGreatDoor.Sx
namespace Go.Proofs.YtgjfdbbghefdbaaGreatDoor.Sx
open Go.RowKit
theorem frz_spec {h0 : SH} : ∀ (l : List Nat) (h h3 : SH), frz h0 l h = some h3 → (∀ k, h.get k = h0.get k ∨ (h.get k = some .dead ∧ Own h0 k)) →
    TF h h3 ∧ h3.nx = h.nx ∧ (∀ k, k ∉ l → h3.get k = h.get k) ∧ (∀ k, k ∈ l → h3.get k = some .dead ∧ k ∈ h3.lg ∧ k ∈ h3.wr ∧ ∃ c ty, h0.get k = some (.cells c ty false))
  | [], h, h3, hx, _ => by cases hx; exact ⟨TF.refl _, rfl, fun _ _ => rfl, fun k hk => (by cases hk)⟩
  | k :: r, h, h3, hx, inv => by
    unfold frz at hx
    split at hx
    · rename_i c ty e1
      obtain ⟨c1, hx⟩ := cond_none hx
      have hk := blt_lt c1
      have own0 : Own h0 k := ⟨_, e1, rfl⟩
      obtain ⟨b0, hb0, tf⟩ : ∃ b0, h.get k = some b0 ∧ TF h (h.wrt k .dead) := by
        rcases inv k with q | ⟨q, _⟩
        · exact ⟨_, q.trans e1, TF.wrt hk (q.trans e1) fun x => False.elim x⟩
        · exact ⟨_, q, TF.wrt hk q fun x => False.elim x⟩
      obtain ⟨t1, t2, t3, t4⟩ := frz_spec r (h.wrt k .dead) h3 hx fun j => by
        rw [SH.get_wrt .dead hk]
        by_cases e : j = k
        · subst e; rw [if_pos rfl]; exact .inr ⟨rfl, own0⟩
        · rw [if_neg e]; exact inv j
      refine ⟨tf.trans t1, t2, fun j hj => ?_, fun j hj => ?_⟩
      · rw [t3 j fun q => hj (List.mem_cons_of_mem _ q), SH.get_wrt .dead hk, if_neg fun q => hj (by subst q; exact List.mem_cons_self ..)]
      · by_cases hr : j ∈ r
        · exact t4 j hr
        · rcases List.mem_cons.1 hj with rfl | hj
          · refine ⟨?_, t1.lg _ (List.mem_cons_self ..), t1.wr _ (List.mem_cons_self ..), c, ty, e1⟩
            rw [t3 _ hr, SH.get_wrt .dead hk, if_pos rfl]
          · exact absurd hj hr
    · cases hx
section
variable {P : Program} {ρ : Cx} {B : Nat} {D : Nat → Prop} {σ : Emb} {h h3 h' : SH} {w w' : World}
noncomputable def memWith (σ : Emb) (w : World) (V : List Nat) : Mem := by
  classical
  exact fun b => if ∃ k y, k ∈ V ∧ σ k = some y ∧ y.1 = b then memOf w b else σ.mem b
theorem memWith_le (hr : HR ρ B D σ h w) (V : List Nat) : σ.mem.le (memWith σ w V) := by
  classical
  intro b c e
  unfold memWith
  by_cases q : ∃ k y, k ∈ V ∧ σ k = some y ∧ y.1 = b
  · rw [if_pos q]; exact mem_le hr _ _ e
  · rw [if_neg q]; exact e
theorem memWith_ok (hr : HR ρ B D σ h w) (V : List Nat) : MemOk (memWith σ w V) w := by
  classical
  intro b c e
  unfold memWith at e
  by_cases q : ∃ k y, k ∈ V ∧ σ k = some y ∧ y.1 = b
  · rw [if_pos q] at e; exact memOf_ok w b c e
  · rw [if_neg q] at e; exact (hr.mem b c e).1
theorem memWith_or {V : List Nat} {b : Nat} {c : Array Value} (e : memWith σ w V b = some c) : σ.mem b = some c ∨ ∃ k y, k ∈ V ∧ σ k = some y ∧ y.1 = b := by
  classical
  unfold memWith at e
  by_cases q : ∃ k y, k ∈ V ∧ σ k = some y ∧ y.1 = b
  · exact .inr q
  · rw [if_neg q] at e; exact .inl e
theorem memWith_at {V : List Nat} {k : Nat} {y : Nat × Nat × Nat} (hk : k ∈ V) (hy : σ k = some y) {c : Array Value} {ty : Nat} {fz : Nat × Nat} (e : w.heap[y.1]? = some (.cells c ty fz)) : memWith σ w V y.1 = some c := by
  classical
  unfold memWith
  rw [if_pos ⟨k, y, hk, hy, rfl⟩]
  exact memOf_at e
theorem told_with (hr : HR ρ B D σ h w) (V : List Nat) : ToldM ρ.tl (memWith σ w V) := fun p hp => by
  obtain ⟨c, e1, e2⟩ := hr.tl p hp
  exact ⟨c, memWith_le hr V _ _ e1, e2⟩
theorem tr_fresh {V : List Nat} (hr : HR ρ B D σ h w) (hfz : frz h V h = some h3) (e : h'.tr = h3.tr) (en : h'.nx = h3.nx) (hd : ∀ k, k ∈ V → D k) {M' : Mem} (hle : (memWith σ w V).le M')
    (hM : ∀ b c, M' b = some c → memWith σ w V b = some c ∨ w.heap.size ≤ b) (hok : MemOk M' w') (hb : Below w.heap.size w w') : Tr ρ B D σ h w ⟨σ.at', M'⟩ h' w' := by
  obtain ⟨tf, nx, g1, g2⟩ := frz_spec V h h3 hfz fun k => .inl rfl
  have hget : ∀ k, h'.get k = h3.get k := fun k => by unfold SH.get; rw [e]
  have own' : ∀ k, Own h' k → Own h k ∧ k ∉ V := fun k ⟨b, b1, b2⟩ => by
    rw [hget] at b1
    by_cases hk : k ∈ V
    · rw [(g2 k hk).1] at b1; cases b1; exact b2.elim
    · rw [g1 k hk] at b1; exact ⟨⟨b, b1, b2⟩, hk⟩
  have ownV : ∀ k, k ∈ V → Own h k := fun k hk => by obtain ⟨_, _, _, c, ty, q⟩ := g2 k hk; exact ⟨_, q, rfl⟩
  have up : σ.le ⟨σ.at', M'⟩ := ⟨fun _ _ x => x, fun b c q => hle b c (memWith_le hr V b c q)⟩
  have nxe : h'.nx = h.nx := en.trans nx
  have dd : ∀ k, (D k ∨ (h.nx ≤ k ∧ k < h'.nx)) → D k := fun k x => x.resolve_right fun x => by omega
  refine ⟨up, fun k x _ => x, fun k y x z => (by rw [show σ k = some y from z] at x; cases x), fun b c q => ?_, ⟨hb.os, hb.tape, hb.output⟩, hb.size, fun b hlt _ => hb.block b hlt, ?_⟩
  · rcases hM b c q with q | q
    · rcases memWith_or q with q | ⟨k, y, q1, q2, q3⟩
      · exact .inl q
      · exact .inr (.inr ⟨k, y, hd k q1, ownV k q1, q2, q3⟩)
    · exact .inr (.inl q)
  · refine ⟨Nat.le_trans hr.base hb.size, fun k b q => ?_, fun k b hdk q => ?_, fun k k' hdk hdk' ho ho' hne y y' hy hy' => ?_, fun b c q => ⟨hok b c q, fun k y hdk ho hy => ?_⟩, fun p hp => ?_⟩
    · rw [hget] at q
      rw [nxe]
      by_cases hk : k ∈ V
      · obtain ⟨_, _, _, c, ty, q'⟩ := g2 k hk; exact hr.wf k _ q'
      · rw [g1 k hk] at q; exact hr.wf k b q
    · rw [hget] at q
      by_cases hk : k ∈ V
      · rw [(g2 k hk).1] at q; cases q; trivial
      · rw [g1 k hk] at q
        exact BR_mono (hr.blk k b (dd k hdk) q) up fun y _ hlt => hb.block _ hlt
    · exact hr.inj k k' (dd k hdk) (dd k' hdk') (own' k ho).1 (own' k' ho').1 hne y y' hy hy'
    · obtain ⟨o1, o2⟩ := own' k ho
      rcases hM b c q with q | q
      · rcases memWith_or q with q | ⟨k0, y0, q1, q2, q3⟩
        · exact (hr.mem b c q).2 k y (dd k hdk) o1 hy
        · rw [← q3]
          exact hr.inj k k0 (dd k hdk) (hd k0 q1) o1 (ownV k0 q1) (fun q => o2 (q ▸ q1)) y y0 hy q2
      · obtain ⟨bb, b1, b2⟩ := o1
        obtain ⟨y', e1, e2, _⟩ := BR_block (hr.blk k bb (dd k hdk) b1) b2
        rw [show σ k = some y from hy] at e1; cases e1
        omega
    · obtain ⟨c, e1, e2⟩ := hr.tl p hp
      exact ⟨c, up.mem _ _ e1, e2⟩
end
end Go.Proofs.YtgjfdbbghefdbaaGreatDoor.Sx
namespace Go.Proofs.YtgjfdbbghefdbaaGreatDoor.Sx
open Go.RowKit
def FW (r : Option Nat) : Fence := { Fence.wide with round := r }
theorem callsIn_fw {r : Option Nat} {n : Nat} {P : Program} {f : FuncId} {args : Array Value} {w : World} {R : Ending → World → Prop} (h : Calls P f args w R) : CallsIn (FW r) n P f args w R := (callsIn_wide (n := n)).2 h
theorem roundIn_fw {r q : Option Nat} {n m l : Nat} {P : Program} {f : FuncId} {tmps : Array Value} {as bd : Code} {w : World} {R : Ending → World → Prop} (h : RoundIn (FW q) n P l f tmps as bd w R) : RoundIn (FW r) m P l f tmps as bd w R :=
  ⟨trivial, fun c cs _ => h.2 c cs (fun _ e => by cases e)⟩
structure CallOk (P : Program) (ρ : Cx) (B : Nat) (call : CallT) : Prop where
  fn : ∀ (f : Nat) (args : List TV) (h : SH) (v : TV) (h' : SH), call (.fn f) args h = some (v, h') → TF h h' ∧ (AllOb P ρ h'.ob → (∀ (vs : Array Value) (w : World), (callFunc f vs).run P w = .ok (.enter f vs) w) ∧
    ∀ (D : Nat → Prop) (σ : Emb) (w : World) (vs : Array Value), HR ρ B D σ h w → GlobR P σ → Free σ h.nx h'.nx → Hand D h h' → VRs ρ σ args vs.toList →
      Calls P f vs w fun e w' => ∃ σ' x, e = .returned x ∧ VR ρ σ' v x ∧ Tr ρ B D σ h w σ' h' w')
  yd : ∀ (k : Nat) (args : List TV) (h : SH) (v : TV) (h' : SH), call (.yd k) args h = some (v, h') → TF h h' ∧ (AllOb P ρ h'.ob →
    ∀ (D : Nat → Prop) (σ : Emb) (w : World) (vs : Array Value) (y : Nat × Nat × Nat), HR ρ B D σ h w → GlobR P σ → Free σ h.nx h'.nx → Hand D h h' → VRs ρ σ args vs.toList → σ k = some y →
      YieldAt (FW none) 0 P y.1 vs w fun e w' => ∃ σ' x, e = .returned x ∧ VR ρ σ' v x ∧ Tr ρ B D σ h w σ' h' w')
def MethOk (P : Program) (ρ : Cx) (meth : Meth) : Prop :=
  (∀ t name g, meth.m t name = some g → ∀ (v : Value) (w : World), (method (P.types.size + Made.depth) t v name).run P w = .ok (g, v) w) ∧
  (∀ t asserted b, meth.i t asserted = some b → ∀ want, P.underlying asserted = some (.interface want) → ∃ i, P.info? t = some i ∧ (Instr.missingMethod want i.methods).isNone = b) ∧ meth.lay = ρ.lay ∧ ρ.prog = P
theorem getE_put {e : Trie TV} {d : Nat} (hd : d < 4000) (v : TV) (t : Nat) : getE (e.set 12 d v) t = if t = d then v else getE e t := by
  unfold getE
  rw [Trie.get_set 12 e d v t (by omega)]
  by_cases h : t = d
  · rw [if_pos h, if_pos h]
  · rw [if_neg h, if_neg h]
theorem EnvR.put {ρ : Cx} {σ : Emb} {e : Trie TV} {a : Act} (he : EnvR ρ σ e a.tmps) {d : Option Nat} {v : TV} {x : Value} (hv : VR ρ σ v x) (hd : ∀ k, d = some k → k < a.tmps.size ∧ k < 4000) : EnvR ρ σ (putE e d v) (a.put d x).tmps := by
  cases d with
  | none => exact he
  | some k =>
    intro t
    obtain ⟨h1, h2⟩ := hd k rfl
    show VR ρ σ (getE (e.set 12 k v) t) ((a.tmps.setIfInBounds k x).getD t undef)
    rw [getE_put h2]
    by_cases h : t = k
    · subst h
      rw [if_pos rfl]
      have : (a.tmps.setIfInBounds t x).getD t undef = x := by simp [Array.getD_eq_getD_getElem?, h1]
      rw [this]; exact hv
    · rw [if_neg h]
      have : (a.tmps.setIfInBounds k x).getD t undef = a.tmps.getD t undef := by
        rw [Array.getD_eq_getD_getElem?, Array.getD_eq_getD_getElem?, Array.getElem?_setIfInBounds_ne (Ne.symm h)]
      rw [this]; exact he t
theorem put_size (a : Act) (d : Option Nat) (x : Value) : (a.put d x).tmps.size = a.tmps.size := by
  cases d with
  | none => rfl
  | some k => show (a.tmps.setIfInBounds k x).size = _; simp
theorem put_defers (a : Act) (d : Option Nat) (x : Value) : (a.put d x).defers = a.defers := by cases d <;> rfl
theorem tf_callO {P : Program} {ρ : Cx} {B : Nat} {call : CallT} (hcall : CallOk P ρ B call) {lay : Nat → List Kd} {f : Nat} {args : List TV} {h h' : SH} {v : TV} (hx : callO lay call f args h = some (v, h')) : TF h h' := by
  unfold callO at hx
  split at hx
  · obtain ⟨_, hx⟩ := cond_none hx
    split at hx
    · rename_i e1
      cases hx
      have l := ((res_ok (P := P) (ρ := ⟨fun _ => undef, lay, [], P⟩) (D := fun _ => True) (B := 0) (σ := ⟨fun _ => none, fun _ => none⟩) (w := default) (M := fun _ => none) (fun _ _ q => q) 100).b _ _ _ _ _ e1).1
      exact (l.tf.trans (TF.told _ _)).trans (TF.owe _ _)
    · cases hx
  · obtain ⟨_, hx⟩ := cond_none hx
    split at hx
    · rename_i l0 h2 e1
      split at hx
      · rename_i h3 e2
        cases hx
        have l := ((res_ok (P := P) (ρ := ⟨fun _ => undef, lay, [], P⟩) (D := fun _ => True) (B := 0) (σ := ⟨fun _ => none, fun _ => none⟩) (w := default) (M := fun _ => none) (fun _ _ q => q) 100).b _ _ _ _ _ e1).1
        have t := (frz_spec _ _ _ e2 fun k => .inl rfl).1
        exact ⟨t.nx, t.lg, t.wr, t.wl, t.nl, t.same, t.own, fun o ho => List.mem_cons_of_mem _ (l.tf.ob o ho), t.wf⟩
      · cases hx
    · cases hx
  · exact (TF.told _ _).trans (hcall.fn _ _ _ _ _ hx).1
  · split at hx
    · rename_i v2 h2 e1
      cases hx
      have t := (hcall.fn _ _ _ _ _ e1).1
      exact ⟨t.nx, t.lg, t.wr, t.wl, t.nl, t.same, t.own, t.ob, t.wf⟩
    · cases hx
  · cases hx
theorem tf_opC {P : Program} {ρ : Cx} {B : Nat} {meth : Meth} {call : CallT} (hcall : CallOk P ρ B call) {o : XO} {e : Trie TV} {h h' : SH} {v : TV} (hx : opC meth call o e h = some (v, h')) : TF h h' := by
  unfold opC at hx
  split at hx
  · exact (hcall.fn _ _ _ _ _ hx).1
  · split at hx
    · exact (hcall.fn _ _ _ _ _ hx).1
    · exact (hcall.yd _ _ _ _ _ hx).1
    · cases hx
  · split at hx
    · split at hx
      · exact (hcall.fn _ _ _ _ _ hx).1
      · cases hx
    · cases hx
  · split at hx
    · split at hx
      · cases hx; exact TF.refl _
      · obtain ⟨_, hx⟩ := cond_none hx; cases hx; exact TF.refl _
      · cases hx
    · obtain ⟨_, hx⟩ := cond_none hx; cases hx; exact TF.refl _
    · cases hx
  · exact tf_xo hx
theorem tf_opO {P : Program} {ρ : Cx} {B : Nat} {meth : Meth} {call : CallT} (hcall : CallOk P ρ B call) {o : XO} {e : Trie TV} {h h' : SH} {v : TV} (hx : opO meth call o e h = some (v, h')) : TF h h' := by
  unfold opO at hx
  split at hx
  · split at hx
    · exact (ldE_like hx).tf
    · exact tf_xo hx
  · split at hx
    · cases hx; exact TF.refl _
    · exact tf_xo hx
  · split at hx
    · cases hx; exact TF.refl _
    · exact tf_xo hx
  · split at hx
    · obtain ⟨_, hx⟩ := cond_none hx; cases hx; exact TF.owe _ _
    · exact tf_xo hx
  · split at hx
    · obtain ⟨_, hx⟩ := cond_none hx; cases hx; exact TF.refl _
    · exact tf_xo hx
  · split at hx
    · split at hx
      · exact (iopO_like hx).tf
      · cases hx
    · exact (sopO_like hx).tf
    · cases hx
  · split at hx
    · exact (decB_like hx).tf
    · cases hx
  · split at hx
    · obtain ⟨_, hx⟩ := cond_none hx
      obtain ⟨_, hx⟩ := cond_none hx
      split at hx
      · exact (decB_like hx).tf
      · cases hx
    · cases hx
  · split at hx
    · obtain ⟨_, hx⟩ := cond_none hx
      split at hx
      · split at hx
        · cases hx; exact (TF.owe _ _).trans (TF.owe _ _)
        · cases hx
      · cases hx
    · exact tf_xo hx
  · split at hx
    · cases hx; exact TF.owe _ _
    · cases hx
  · split at hx
    · split at hx
      · cases hx; exact TF.owe _ _
      · cases hx
    · cases hx
  · split at hx
    · cases hx; exact TF.owe _ _
    · cases hx
  · split at hx
    · split at hx
      · split at hx
        · rename_i e1
          obtain ⟨p, rfl⟩ := findM_like e1
          cases hx
          exact ((TF.told _ _).trans (TF.owe _ _)).trans (TF.see _ _)
        · rename_i e1
          obtain ⟨p, rfl⟩ := findM_like e1
          cases hx
          exact ((TF.told _ _).trans (TF.owe _ _)).trans (TF.see _ _)
        · split at hx
          · rename_i e1
            cases hx
            exact (findO_like e1).tf.trans (TF.see _ _)
          · rename_i e1
            cases hx
            exact (findO_like e1).tf.trans (TF.see _ _)
          · cases hx
      · cases hx
    · exact tf_xo hx
  · split at hx
    · split at hx
      · rename_i e0
        split at hx
        · rename_i e1
          obtain ⟨p, rfl⟩ := findM_like e1
          obtain ⟨c, hx⟩ := cond_none hx
          cases hx
          exact ((TF.told _ _).trans (TF.owe _ _)).trans (TF.wrt (blt_lt c) e0 fun _ => trivial)
        · rename_i e1
          obtain ⟨p, rfl⟩ := findM_like e1
          obtain ⟨c, hx⟩ := cond_none hx
          cases hx
          exact ((TF.told _ _).trans (TF.owe _ _)).trans (TF.wrt (blt_lt c) e0 fun _ => trivial)
        · exact tf_xo hx
      · cases hx
    · cases hx
  · exact tf_callO hcall hx
  · split at hx
    · exact tf_callO hcall hx
    · cases hx
  · split at hx
    · split at hx
      · exact tf_callO hcall hx
      · cases hx
    · cases hx
  · exact tf_opC hcall hx
theorem tf_op1 {P : Program} {ρ : Cx} {B : Nat} {meth : Meth} {call : CallT} (hcall : CallOk P ρ B call) {o : XO} {e : Trie TV} {h h' : SH} {v : TV} (hx : op1 meth call o e h = some (v, h')) : TF h h' := by
  unfold op1 at hx
  split at hx
  · exact tf_opC hcall hx
  · exact tf_opO hcall hx
theorem inv_call {P : Program} {op : Op} {f : Nat} {l : List Opd} (hc : cOp? P op = some (.call f l)) : ∃ ar types, op = .call ⟨.value (.func f), ar, types⟩ ∧ cOpds P ar.toList = some l := by
  unfold cOp? at hc
  repeat' (split at hc)
  all_goals first
    | (cases hc; done)
    | (rw [Option.map_eq_some_iff] at hc; obtain ⟨_, h1, q⟩ := hc; first | (cases q; done) | (cases q; exact ⟨_, _, rfl, h1⟩))
theorem inv_callv {P : Program} {op : Op} {f : Opd} {l : List Opd} (hc : cOp? P op = some (.callv f l)) : ∃ g ar types, op = .call ⟨.value g, ar, types⟩ ∧ cOpd P g = some f ∧ cOpds P ar.toList = some l := by
  unfold cOp? at hc
  repeat' (split at hc)
  all_goals first
    | (cases hc; done)
    | (rw [Option.map_eq_some_iff] at hc; obtain ⟨_, h1, q⟩ := hc; cases q; done)
    | (rename_i h1 h2; cases hc; exact ⟨_, _, _, rfl, h1, h2⟩)
theorem inv_inv {P : Program} {op : Op} {f : Opd} {n : String} {l : List Opd} (hc : cOp? P op = some (.inv f n l)) : ∃ g ar types, op = .call ⟨.invoke g n, ar, types⟩ ∧ cOpd P g = some f ∧ cOpds P ar.toList = some l := by
  unfold cOp? at hc
  repeat' (split at hc)
  all_goals first
    | (cases hc; done)
    | (rw [Option.map_eq_some_iff] at hc; obtain ⟨_, h1, q⟩ := hc; cases q; done)
    | (rename_i h1 h2; cases hc; exact ⟨_, _, _, rfl, h1, h2⟩)
theorem inv_taI {P : Program} {op : Op} {ok : Bool} {t : Nat} {z : TV} {x : Opd} (hc : cOp? P op = some (.taI ok t z x)) : ∃ y xt ms, op = .typeAssert y xt t ok ∧ P.underlying t = some (.interface ms) ∧ zeroOf P t = some z ∧ cOpd P y = some x := by
  unfold cOp? at hc
  repeat' (split at hc)
  all_goals first
    | (cases hc; done)
    | (rw [Option.map_eq_some_iff] at hc; obtain ⟨_, h1, q⟩ := hc; cases q; done)
    | (rename_i h1 h2 h3; cases hc; exact ⟨_, _, _, rfl, h1, h2, h3⟩)
section
variable {P : Program} {ρ : Cx} {B : Nat} {meth : Meth} {call : CallT} (hρ : ∀ j, scalV (ρ j)) (hcall : CallOk P ρ B call) (hmeth : MethOk P ρ meth)
include hρ hcall hmeth
theorem opC_ok {D : Nat → Prop} {σ : Emb} {h h' : SH} {w : World} {v : TV} (hr : HR ρ B D σ h w) {e : Trie TV} {a : Act} (he : EnvR ρ σ e a.tmps) (hg : GlobR P σ) (hf : Free σ h.nx h'.nx) (hd : Hand D h h')
    {o : Oper} (hx : opC meth call (cOp P o.op) e h = some (v, h')) (ho : AllOb P ρ h'.ob) {K : Act → World → Prop} {Q : Exit → Act → World → Prop} (hK : ∀ σ' w' x, Tr ρ B D σ h w σ' h' w' → VR ρ σ' v x → K (a.put o.dst x) w') (rr : Option Nat) : o.wpIn (FW rr) 0 P a w K Q := by
  obtain ⟨dst, op, type, pos, after, guard⟩ := o
  simp only [] at hx
  have hnd : ∀ c, op ≠ .defer c := fun c q => by
    subst q
    have : (none : Option (TV × SH)) = some (v, h') := hx
    cases this
  have plain : Yl ρ B D σ h w v h' ((execOp a.eval ⟨dst, op, type, pos, after, guard⟩).run P w) → (⟨dst, op, type, pos, after, guard⟩ : Oper).wpIn (FW rr) 0 P a w K Q := by
    rintro ⟨σ', w', x, t1, t2, t3⟩
    refine ⟨fun _ _ => trivial, ?_⟩
    rw [Oper.semAt_eq _ _ _ hnd]
    rcases t3 with t3 | ⟨t3, rfl⟩
    · rw [t3]; exact hK σ' w' x t1 t2
    · rw [t3]; exact hK σ' w' undef t1 t2
  have called : ∀ {f : Nat} {args : List TV} {vs : Array Value}, call (.fn f) args h = some (v, h') → VRs ρ σ args vs.toList → (execOp a.eval ⟨dst, op, type, pos, after, guard⟩).run P w = (callFunc f vs).run P w → (⟨dst, op, type, pos, after, guard⟩ : Oper).wpIn (FW rr) 0 P a w K Q := by
    intro f args vs hc hvs hrun
    obtain ⟨q1, q2⟩ := (hcall.fn f args h v h' hc).2 ho
    refine ⟨fun _ _ => trivial, ?_⟩
    rw [Oper.semAt_eq _ _ _ hnd, hrun, q1]
    refine ⟨fun q => (by cases q), callsIn_fw ?_⟩
    show Calls P f vs w _
    refine (q2 D σ w vs hr hg hf hd hvs).mono ?_
    rintro en w' ⟨σ', x, rfl, hv, ht⟩
    exact hK σ' w' x ht hv
  unfold cOp at hx
  cases hc : cOp? P op with
  | none => rw [hc] at hx; cases hx
  | some x =>
    rw [hc] at hx
    simp only [Option.getD_some] at hx
    have gen : xo x e h = some (v, h') → (⟨dst, op, type, pos, after, guard⟩ : Oper).wpIn (FW rr) 0 P a w K Q := fun hx => plain (cop_ok hρ hr he hg hf hd hc hx dst type pos after guard)
    unfold opC at hx
    split at hx
    · rename_i f args
      obtain ⟨ar, types, rfl, h1⟩ := inv_call hc
      refine called (vs := ar.map a.eval) hx (by rw [Array.toList_map]; exact opds_ok he hg h1) ?_
      simp only [execOp, resolve]
      show ((Deferred.ofValue (.func (.func f) #[] #[]) (ar.map a.eval) >>= fun d => invoke d.target d.args) : Sem Next).run P w = _
      rw [run_bind]
      simp only [Deferred.ofValue, run_pure, invoke, Array.empty_append, Array.append_empty]
    · rename_i f args
      obtain ⟨g, ar, types, rfl, h1, h2⟩ := inv_callv hc
      split at hx
      · rename_i k first cap e1
        have g1 := opd_ok he hg h1
        rw [e1] at g1
        obtain ⟨fa, ca, q1, q2, q3⟩ := g1
        refine called (vs := fa ++ ar.map a.eval ++ ca) hx ?_ ?_
        · rw [Array.toList_append, Array.toList_append, Array.toList_map, List.append_assoc]
          exact VRs_append q2 (VRs_append (opds_ok he hg h2) q3)
        · simp only [execOp, resolve]
          rw [q1]
          show ((Deferred.ofValue (.func (.func k) fa ca) (ar.map a.eval) >>= fun d => invoke d.target d.args) : Sem Next).run P w = _
          rw [run_bind]
          simp only [Deferred.ofValue, run_pure, invoke]
      · rename_i k e1
        have g1 := opd_ok he hg h1
        rw [e1] at g1
        obtain ⟨y, q1, q2⟩ := g1
        obtain ⟨fn, tm, as, bd, z1, z2⟩ := (hcall.yd k _ h v h' hx).2 ho D σ w (ar.map a.eval) y hr hg hf hd (by rw [Array.toList_map]; exact opds_ok he hg h2) q1
        refine ⟨fun _ _ => trivial, ?_⟩
        rw [Oper.semAt_eq _ _ _ hnd]
        have hrun : (execOp a.eval ⟨dst, .call ⟨.value g, ar, types⟩, type, pos, after, guard⟩).run P w = (Instr.yield y.1 (ar.map a.eval)).run P w := by
          simp only [execOp, resolve]
          rw [q2]
          show ((Deferred.ofValue (.func (.yield y.1) #[] #[]) (ar.map a.eval) >>= fun d => invoke d.target d.args) : Sem Next).run P w = _
          rw [run_bind]
          simp only [Deferred.ofValue, run_pure, invoke, Array.empty_append]
        rw [hrun, z1]
        refine ⟨fun q => (by cases q), roundIn_fw (z2.mono ?_)⟩
        rintro en w' ⟨σ', x, rfl, hv, ht⟩
        exact hK σ' w' x ht hv
      · cases hx
    · rename_i y name args
      obtain ⟨g, ar, types, rfl, h1, h2⟩ := inv_inv hc
      split at hx
      · rename_i t u e1
        split at hx
        · rename_i k e2
          have g1 := opd_ok he hg h1
          rw [e1] at g1
          obtain ⟨z, q1, q2⟩ := g1
          refine called (vs := #[z] ++ ar.map a.eval) hx ?_ ?_
          · rw [Array.toList_append, Array.toList_map]
            exact ⟨z, _, rfl, q2, opds_ok he hg h2⟩
          · simp only [execOp, resolve]
            rw [run_bind, run_pure]
            simp only [invoke]
            rw [q1]
            have e3 : (#[Value.iface t z] ++ ar.map a.eval)[0]? = some (Value.iface t z) := by rw [Array.getElem?_append_left (by simp)]; rfl
            have e4 : (#[Value.iface t z] ++ ar.map a.eval).extract 1 (#[Value.iface t z] ++ ar.map a.eval).size = ar.map a.eval := by
              apply Array.ext'
              have e5 : (#[Value.iface t z] ++ ar.map a.eval).toList = Value.iface t z :: (ar.map a.eval).toList := by rw [Array.toList_append]; rfl
              rw [Array.toList_extract, List.extract_eq_take_drop, e5, Array.size_append, List.drop_one, List.tail_cons]
              exact List.take_of_length_le (by simp)
            simp only [e3, e4]
            unfold callMethod
            simp only []
            rw [run_bind, run_program]
            simp only []
            rw [run_bind, hmeth.1 t name k e2]
        · cases hx
      · cases hx
    · rename_i ok t z y
      obtain ⟨y0, xt, ms, rfl, h1, h2, h3⟩ := inv_taI hc
      have g1 := opd_ok he hg h3
      obtain ⟨zi, zv, z1, z2, z3⟩ := zero_some h2
      have gz : VR ρ σ z zv := ofVal_ok z3
      split at hx
      · rename_i tt u e1
        rw [e1] at g1
        obtain ⟨q, g2, g3⟩ := g1
        split at hx
        · rename_i e2
          cases hx
          obtain ⟨i, i1, i2⟩ := hmeth.2.1 _ _ _ e2 ms h1
          refine plain (yl_pure hr rfl rfl (x := if ok then .tuple #[.iface tt q, .bool true] else .iface tt q) ?_ ?_)
          · cases ok with
            | true => exact ⟨_, rfl, .iface tt q, _, rfl, ⟨q, rfl, g3⟩, _, _, rfl, rfl, rfl⟩
            | false => exact ⟨q, rfl, g3⟩
          · simp only [execOp]
            rw [g2]
            refine run_val ?_
            unfold Instr.typeAssert
            rw [run_bind, run_und h1]
            simp only []
            rw [run_bind, run_info i1]
            simp only []
            have : Instr.missingMethod ms i.methods = none := by simpa using i2
            rw [this]
            rfl
        · rename_i e2
          have hq := cond_none hx; clear hx; obtain ⟨rfl, hx⟩ := hq
          cases hx
          obtain ⟨i, i1, i2⟩ := hmeth.2.1 _ _ _ e2 ms h1
          refine plain (yl_pure hr rfl rfl (x := .tuple #[zv, .bool false]) ⟨_, rfl, zv, _, rfl, gz, _, _, rfl, rfl, rfl⟩ ?_)
          simp only [execOp]
          rw [g2]
          refine run_val ?_
          unfold Instr.typeAssert
          rw [run_bind, run_und h1]
          simp only []
          rw [run_bind, run_info i1]
          simp only []
          cases hm : Instr.missingMethod ms i.methods with
          | none => rw [hm] at i2; cases i2
          | some m =>
            simp only [if_true, run_bind, run_zero z1 z2]
            rfl
        · cases hx
      · rename_i e1
        rw [e1] at g1
        have hq := cond_none hx; clear hx; obtain ⟨rfl, hx⟩ := hq
        cases hx
        refine plain (yl_pure hr rfl rfl (x := .tuple #[zv, .bool false]) ⟨_, rfl, zv, _, rfl, gz, _, _, rfl, rfl, rfl⟩ ?_)
        simp only [execOp]
        rw [show a.eval y0 = _ from g1]
        refine run_val ?_
        unfold Instr.typeAssert
        rw [run_bind, run_und h1]
        simp only [if_true, run_bind, run_zero z1 z2]
        rfl
      · cases hx
    · exact gen hx
theorem opO_ok {D : Nat → Prop} {σ : Emb} {h h' : SH} {w : World} {v : TV} (hr : HR ρ B D σ h w) {e : Trie TV} {a : Act} (he : EnvR ρ σ e a.tmps) (hg : GlobR P σ) (hf : Free σ h.nx h'.nx) (hd : Hand D h h')
    {o : Oper} (hx : opO meth call (cOp P o.op) e h = some (v, h')) (ho : AllOb P ρ h'.ob) {K : Act → World → Prop} {Q : Exit → Act → World → Prop} (hK : ∀ σ' w' x, Tr ρ B D σ h w σ' h' w' → VR ρ σ' v x → K (a.put o.dst x) w') (rr : Option Nat) : o.wpIn (FW rr) 0 P a w K Q := by
  cases hc : cOp? P o.op with
  | none => unfold cOp at hx; rw [hc] at hx; cases hx
  | some x =>
    have hxc : cOp P o.op = x := by unfold cOp; rw [hc]; rfl
    have other : opC meth call (cOp P o.op) e h = some (v, h') → o.wpIn (FW rr) 0 P a w K Q := fun q => opC_ok hρ hcall hmeth hr he hg hf hd q ho hK rr
    rw [hxc] at hx other
    obtain ⟨dst, op, type, pos, after, guard⟩ := o
    simp only [] at hc hxc
    have hnd : ∀ c, op ≠ .defer c := fun c q => by
      subst q
      have : (none : Option XO) = some x := hc
      cases this
    have plain : OpOk P ρ B D σ h w a v h' op → (⟨dst, op, type, pos, after, guard⟩ : Oper).wpIn (FW rr) 0 P a w K Q := by
      intro q
      obtain ⟨σ', w', x, t1, t2, t3⟩ := q dst type pos after guard
      refine ⟨fun _ _ => trivial, ?_⟩
      rw [Oper.semAt_eq _ _ _ hnd]
      rcases t3 with t3 | ⟨t3, rfl⟩
      · rw [t3]; exact hK σ' w' x t1 t2
      · rw [t3]; exact hK σ' w' undef t1 t2
    -- an operation that is as it would be if all were known
    have same : ∀ {v0 : TV} {h0 : SH}, xo x e h = some (v0, h0) → v = v0 → Like h0 h' → (⟨dst, op, type, pos, after, guard⟩ : Oper).wpIn (FW rr) 0 P a w K Q := by
      rintro v0 h0 q rfl l
      refine plain (OpOk.like (h0 := h0) (cop_ok hρ hr he hg (fun k p r => hf k p (by rw [l.nx]; exact r)) (fun k p r => hd k (l.tf.lg k p) r) hc q) l)
    have called : ∀ {f : Nat} {args : List TV} {vs : Array Value}, callO meth.lay call f args h = some (v, h') → VRs ρ σ args vs.toList → (execOp a.eval ⟨dst, op, type, pos, after, guard⟩).run P w = (callFunc f vs).run P w → (⟨dst, op, type, pos, after, guard⟩ : Oper).wpIn (FW rr) 0 P a w K Q := by
      intro f args vs hq hvs hrun
      unfold callO at hq
      split at hq
      · rename_i ks u r hpa
        obtain ⟨hfl, hq⟩ := cond_none hq
        split at hq
        · rename_i l h2 e1
          cases hq
          rw [hmeth.2.2.1] at e1
          obtain ⟨l1, l2⟩ := (res_ok (P := P) (ρ := ρ) (D := D) (B := B) (σ := σ) (w := w) (mem_le hr) 100).b _ _ _ _ _ e1
          have hpc : PureC P ρ f l v := ho.head
          have hvl := l2 ho.tail hr (HandL.all fun k p r => hd k p r) _ hvs
          refine ⟨fun _ _ => trivial, ?_⟩
          rw [Oper.semAt_eq _ _ _ hnd, hrun, hpc.1]
          refine ⟨fun q => (by cases q), callsIn_fw ?_⟩
          show Calls P f vs w _
          refine (hpc.2 w (memOf w) vs (memOf_ok w) (told_of hr) hvl).mono ?_
          rintro en w' ⟨x, M', rfl, _, _, _, hv, hb⟩
          exact hK σ w' x (tr_below hr hb l1.tr l1.nx) (VR_flat hfl hv)
        · cases hq
      · rename_i ks u r hpa
        obtain ⟨hfr, hq⟩ := cond_none hq
        split at hq
        · rename_i l h2 e1
          split at hq
          · rename_i h3 e2
            cases hq
            rw [hmeth.2.2.1] at e1
            obtain ⟨tf, nx, g1, g2⟩ := frz_spec _ _ _ e2 fun k => .inl rfl
            have hD : ∀ k, k ∈ h2.lg → D k := fun k hk => by
              obtain ⟨_, q1, _, c, ty, q2⟩ := g2 k hk
              exact hd k q1 (hr.wf k _ q2)
            obtain ⟨l1, l2⟩ := (res_ok (P := P) (ρ := ρ) (D := D) (B := B) (σ := σ) (w := w) (memWith_le hr h2.lg) 100).b _ _ _ _ _ e1
            have hpc : PureC P ρ f l v := ho.head
            have hvl := l2 ho.tail (hr.of_tr rfl rfl) (fun k p _ => ⟨hD k p, fun y c ty fz hy q => memWith_at p hy q⟩) _ hvs
            refine ⟨fun _ _ => trivial, ?_⟩
            rw [Oper.semAt_eq _ _ _ hnd, hrun, hpc.1]
            refine ⟨fun q => (by cases q), callsIn_fw ?_⟩
            show Calls P f vs w _
            refine (hpc.2 w _ vs (memWith_ok hr _) (told_with hr _) hvl).mono ?_
            rintro en w' ⟨x, M', rfl, m1, m2, m3, hv, hb⟩
            exact hK ⟨σ.at', M'⟩ w' x (tr_fresh (h' := (h3.out r h2.ob).owe (.call f l v)) hr e2 rfl rfl hD m1 m2 m3 hb) (VR_mono (σ := bare M') (σ' := ⟨σ.at', M'⟩) ⟨fun _ _ (q : none = some _) => (by cases q), fun _ _ q => q⟩ _ _ hv)
          · cases hq
        · cases hq
      · rename_i r hpa
        obtain ⟨q1, q2⟩ := (hcall.fn f args (h.told r) v h' hq).2 ho
        refine ⟨fun _ _ => trivial, ?_⟩
        rw [Oper.semAt_eq _ _ _ hnd, hrun, q1]
        refine ⟨fun q => (by cases q), callsIn_fw ?_⟩
        show Calls P f vs w _
        refine (q2 D σ w vs (hr.of_tr rfl rfl) hg hf hd hvs).mono ?_
        rintro en w' ⟨σ', x, rfl, hv, ht⟩
        exact hK σ' w' x (Tr.of_tr ht rfl rfl) hv
      · rename_i r hpa
        split at hq
        · rename_i v2 h2 e1
          cases hq
          obtain ⟨q1, q2⟩ := (hcall.fn f args h.shut v h2 e1).2 ho
          refine ⟨fun _ _ => trivial, ?_⟩
          rw [Oper.semAt_eq _ _ _ hnd, hrun, q1]
          refine ⟨fun q => (by cases q), callsIn_fw ?_⟩
          refine (q2 D σ w vs (hr.of_tr rfl rfl) hg hf hd hvs).mono ?_
          rintro en w' ⟨σ', x, rfl, hv, ht⟩
          exact hK σ' w' x (Tr.to_like (h' := h2.unshut r) (Tr.of_tr (h := h) ht rfl rfl) rfl rfl) hv
        · cases hq
      · cases hq
    unfold opO at hx
    split at hx
    · split at hx
      · rename_i e1
        rw [hmeth.2.2.1] at hx
        exact plain (o_ld hr he hg hc e1 hx ho)
      · exact other hx
    · split at hx
      · rename_i e1
        cases hx
        exact plain (o_fa hr he hg hc e1)
      · exact other hx
    · split at hx
      · rename_i e1
        cases hx
        exact plain (o_nck hr he hg hc e1)
      · exact other hx
    · split at hx
      · rename_i e1 e2
        obtain ⟨c1, hx⟩ := cond_none hx
        cases hx
        rw [hmeth.2.2.1] at c1
        exact plain ((o_ia hr he hg hc e1 e2 (Nat.eq_of_beq_eq_true c1) ho.head).like (Like.owe _ _))
      · exact other hx
    · split at hx
      · rename_i e1
        obtain ⟨c1, hx⟩ := cond_none hx
        cases hx
        obtain rfl := Nat.eq_of_beq_eq_true c1
        exact plain (o_len hr he hg hc e1)
      · exact other hx
    · rename_i p px py
      split at hx
      · rename_i k i1 k' i2 e1 e2
        split at hx
        · rename_i hk
          subst hk
          have q1 := iopO_ok hx ho
          refine same (v0 := v) (h0 := h) ?_ rfl (iopO_like hx)
          simp only [xo, e1, e2, bop]
          have n1 : p ≠ .shl := fun q => by subst q; simp [iop] at q1
          have n2 : p ≠ .shr := fun q => by subst q; simp [iop] at q1
          cases p <;> first | exact absurd rfl n1 | exact absurd rfl n2 | (simp only [if_true]; rw [q1])
        · cases hx
      · rename_i l1 l2 e1 e2
        have q1 := sopO_ok hx ho
        refine same (v0 := v) (h0 := h) ?_ rfl (sopO_like hx)
        simp only [xo, e1, e2, bop]
        rw [q1]
      · cases hx
    · rename_i neg px py
      split at hx
      · rename_i b1 b2 e1 e2
        have hl := decB_like hx
        obtain ⟨rfl, _⟩ := decB_ok (P := P) (ρ := ρ) hx ho
        refine same (h0 := h) (by simp only [xo, e1, e2]; rfl) ?_ hl
        cases neg <;> cases b1 <;> cases b2 <;> rfl
      · cases hx
    · rename_i neg ks px py
      split at hx
      · rename_i a1 a2 e1 e2
        obtain ⟨c1, hx⟩ := cond_none hx
        obtain ⟨c2, hx⟩ := cond_none hx
        split at hx
        · rename_i r e3
          have hl := decB_like hx
          obtain ⟨rfl, _⟩ := decB_ok (P := P) (ρ := ρ) hx ho
          exact same (h0 := h) (by simp only [xo, e1, e2, c1, c2, e3, cond_true]) rfl hl
        · cases hx
      · cases hx
    · split at hx
      · rename_i e1
        obtain ⟨c1, hx⟩ := cond_none hx
        split at hx
        · rename_i b1 b2
          split at hx
          · rename_i b3
            cases hx
            rw [hmeth.2.2.1] at c1
            exact plain ((o_slc hr he hg hc e1 (Nat.eq_of_beq_eq_true c1) b1 b2 b3 ho.tail.head ho.head).like ((Like.owe _ _).trans (Like.owe _ _)))
          · cases hx
        · cases hx
      · exact other hx
    · split at hx
      · rename_i l k j e1 e2
        cases hx
        obtain ⟨j0, j1⟩ := inB_of (show inB j l.length = true from ho.head)
        obtain ⟨j, rfl⟩ : ∃ q : Nat, j = Int.ofNat q := ⟨j.toNat, (Int.toNat_of_nonneg j0).symm⟩
        have j1 : j < l.length := by have j1 : (j : Int) < (l.length : Int) := j1; omega
        refine same (v0 := .i .u8 (Int.ofNat l[j])) (h0 := h) ?_ ?_ (Like.owe _ _)
        · simp only [xo, e1, e2]
          rw [List.drop_eq_getElem_cons j1]
        · rw [show (Int.ofNat j).toNat = j from rfl, List.getD_eq_getElem?_getD, List.getElem?_eq_getElem j1]
          rfl
      · cases hx
    · split at hx
      · rename_i l e1
        split at hx
        · rename_i p q b1 b2
          cases hx
          obtain ⟨p0, p1, p2⟩ := inS_of (show inS p q l.length = true from ho.head)
          have k2 := bdO_bound (nd := l.length) (most := l.length) b2 (fun _ => rfl) (by omega) p2
          have k1 := bdO_bound (nd := 0) (most := q.toNat) b1 (fun _ => rfl) p0 (by omega)
          refine same (h0 := h) (by simp only [xo, e1, k2, k1]; rfl) ?_ (Like.owe _ _)
          rw [show (q - p).toNat = q.toNat - p.toNat from by omega]
        · cases hx
      · cases hx
    · split at hx
      · rename_i k n e1
        cases hx
        refine same (h0 := h) (by simp only [xo, e1]; rfl) ?_ (Like.owe _ _)
        rw [inK_of ho.head]
      · cases hx
    · rename_i str ok zero m k
      split at hx
      · rename_i b e1
        split at hx
        · rename_i es cl e2
          split at hx
          · rename_i i1 v1 h1 e3
            obtain ⟨p, rfl⟩ := findM_like e3
            cases hx
            have q3 : findK str (k.ev e) es 0 = some (some (i1, v1)) := ho.head
            exact same (v0 := cond ok (.tu [v1, .b true]) v1) (h0 := h.see b) (by simp only [xo, e1, e2, q3]) rfl ((Like.told _ p).trans (Like.owe _ _))
          · rename_i h1 e3
            obtain ⟨p, rfl⟩ := findM_like e3
            cases hx
            have q3 : findK str (k.ev e) es 0 = some none := ho.head
            exact same (v0 := cond ok (.tu [zero, .b false]) zero) (h0 := h.see b) (by simp only [xo, e1, e2, q3]) rfl ((Like.told _ p).trans (Like.owe _ _))
          split at hx
          · rename_i v1 h1 e3
            cases hx
            obtain ⟨_, q2⟩ := findO_ok (P := P) (ρ := ρ) 0 e3 ho
            obtain ⟨j, q3⟩ := q2 v1 rfl
            have l := findO_like e3
            exact same (v0 := cond ok (.tu [v1, .b true]) v1) (h0 := h.see b) (by simp only [xo, e1, e2, q3]) rfl ⟨by
              refine ⟨Nat.le_of_eq l.nx.symm, fun k p => ?_, fun k p => l.tf.wr k p, fun k p => (l.tf.wl k p).imp id (List.mem_cons_of_mem _), l.tf.nl, l.tf.same, l.tf.own, l.tf.ob, l.tf.wf⟩
              rcases List.mem_cons.1 p with rfl | p
              · exact List.mem_cons_self ..
              · exact List.mem_cons_of_mem _ (l.tf.lg k p), l.tr, l.nx⟩
          · rename_i h1 e3
            cases hx
            obtain ⟨q1, _⟩ := findO_ok (P := P) (ρ := ρ) 0 e3 ho
            have q3 := q1 rfl
            have l := findO_like e3
            exact same (v0 := cond ok (.tu [zero, .b false]) zero) (h0 := h.see b) (by simp only [xo, e1, e2, q3]) rfl ⟨by
              refine ⟨Nat.le_of_eq l.nx.symm, fun k p => ?_, fun k p => l.tf.wr k p, fun k p => (l.tf.wl k p).imp id (List.mem_cons_of_mem _), l.tf.nl, l.tf.same, l.tf.own, l.tf.ob, l.tf.wf⟩
              rcases List.mem_cons.1 p with rfl | p
              · exact List.mem_cons_self ..
              · exact List.mem_cons_of_mem _ (l.tf.lg k p), l.tr, l.nx⟩
          · cases hx
        · cases hx
      · exact other hx
    · rename_i str m k v1
      split at hx
      · rename_i b e1
        split at hx
        · rename_i es cl e2
          split at hx
          · rename_i i1 u1 h1 e3
            obtain ⟨p, rfl⟩ := findM_like e3
            obtain ⟨c4, hx⟩ := cond_none hx
            cases hx
            have q3 : findK str (k.ev e) es 0 = some (some (i1, u1)) := ho.head
            exact same (v0 := .tu []) (h0 := h.wrt b (.mp (updK (k.ev e) (v1.ev e) es i1) cl)) (by simp only [xo, e1, e2, q3, c4, cond]) rfl ((Like.told _ p).trans (Like.owe _ _))
          · rename_i h1 e3
            obtain ⟨p, rfl⟩ := findM_like e3
            obtain ⟨c4, hx⟩ := cond_none hx
            cases hx
            have q3 : findK str (k.ev e) es 0 = some none := ho.head
            exact same (v0 := .tu []) (h0 := h.wrt b (.mp (es ++ [(k.ev e, v1.ev e, cl)]) (cl + 1))) (by simp only [xo, e1, e2, q3, c4, cond]) rfl ((Like.told _ p).trans (Like.owe _ _))
          · exact other hx
        · cases hx
      · cases hx
    · rename_i f args
      obtain ⟨ar, types, rfl, h1⟩ := inv_call hc
      refine called (vs := ar.map a.eval) hx (by rw [Array.toList_map]; exact opds_ok he hg h1) ?_
      simp only [execOp, resolve]
      show ((Deferred.ofValue (.func (.func f) #[] #[]) (ar.map a.eval) >>= fun d => invoke d.target d.args) : Sem Next).run P w = _
      rw [run_bind]
      simp only [Deferred.ofValue, run_pure, invoke, Array.empty_append, Array.append_empty]
    · rename_i f args
      obtain ⟨g, ar, types, rfl, h1, h2⟩ := inv_callv hc
      split at hx
      · rename_i k first cap e1
        have g1 := opd_ok he hg h1
        rw [e1] at g1
        obtain ⟨fa, ca, q1, q2, q3⟩ := g1
        refine called (vs := fa ++ ar.map a.eval ++ ca) hx ?_ ?_
        · rw [Array.toList_append, Array.toList_append, Array.toList_map, List.append_assoc]
          exact VRs_append q2 (VRs_append (opds_ok he hg h2) q3)
        · simp only [execOp, resolve]
          rw [q1]
          show ((Deferred.ofValue (.func (.func k) fa ca) (ar.map a.eval) >>= fun d => invoke d.target d.args) : Sem Next).run P w = _
          rw [run_bind]
          simp only [Deferred.ofValue, run_pure, invoke]
      · cases hx
    · rename_i y name args
      obtain ⟨g, ar, types, rfl, h1, h2⟩ := inv_inv hc
      split at hx
      · rename_i t u e1
        split at hx
        · rename_i k e2
          have g1 := opd_ok he hg h1
          rw [e1] at g1
          obtain ⟨z, q1, q2⟩ := g1
          refine called (vs := #[z] ++ ar.map a.eval) hx ?_ ?_
          · rw [Array.toList_append, Array.toList_map]
            exact ⟨z, _, rfl, q2, opds_ok he hg h2⟩
          · simp only [execOp, resolve]
            rw [run_bind, run_pure]
            simp only [invoke]
            rw [q1]
            have e3 : (#[Value.iface t z] ++ ar.map a.eval)[0]? = some (Value.iface t z) := by rw [Array.getElem?_append_left (by simp)]; rfl
            have e4 : (#[Value.iface t z] ++ ar.map a.eval).extract 1 (#[Value.iface t z] ++ ar.map a.eval).size = ar.map a.eval := by
              apply Array.ext'
              have e5 : (#[Value.iface t z] ++ ar.map a.eval).toList = Value.iface t z :: (ar.map a.eval).toList := by rw [Array.toList_append]; rfl
              rw [Array.toList_extract, List.extract_eq_take_drop, e5, Array.size_append, List.drop_one, List.tail_cons]
              exact List.take_of_length_le (by simp)
            simp only [e3, e4]
            unfold callMethod
            simp only []
            rw [run_bind, run_program]
            simp only []
            rw [run_bind, hmeth.1 t name k e2]
        · cases hx
      · cases hx
    · exact other hx
theorem op1_ok {D : Nat → Prop} {σ : Emb} {h h' : SH} {w : World} {v : TV} (hr : HR ρ B D σ h w) {e : Trie TV} {a : Act} (he : EnvR ρ σ e a.tmps) (hg : GlobR P σ) (hf : Free σ h.nx h'.nx) (hd : Hand D h h')
    {o : Oper} (hx : op1 meth call (cOp P o.op) e h = some (v, h')) (ho : AllOb P ρ h'.ob) {K : Act → World → Prop} {Q : Exit → Act → World → Prop} (hK : ∀ σ' w' x, Tr ρ B D σ h w σ' h' w' → VR ρ σ' v x → K (a.put o.dst x) w') (rr : Option Nat) : o.wpIn (FW rr) 0 P a w K Q := by
  unfold op1 at hx
  split at hx
  · exact opC_ok hρ hcall hmeth hr he hg hf hd hx ho hK rr
  · exact opO_ok hρ hcall hmeth hr he hg hf hd hx ho hK rr
omit hρ hcall hmeth in
theorem VR_bool {σ : Emb} {t : TV} {c : Bool} (h : VR ρ σ t (.bool c)) : t = .b c ∨ (∃ j, t = .x j) ∨ t = .any := by
  cases t with
  | b x => cases h; exact .inl rfl
  | x j => exact .inr (.inl ⟨j, rfl⟩)
  | any => exact .inr (.inr rfl)
  | es T d => cases h
  | ne => obtain ⟨_, _, h⟩ := h; cases h
  | ep T off row => obtain ⟨_, _, h, _⟩ := h; cases h
  | i k n => cases h
  | s l => obtain ⟨h, _⟩ := h; cases h
  | p k off => obtain ⟨_, _, h⟩ := h; cases h
  | pn => cases h
  | sl k off esz len cap rest => obtain ⟨_, _, _, h, _⟩ := h; cases h
  | sln => cases h
  | m k => obtain ⟨_, _, h⟩ := h; cases h
  | mn => cases h
  | f g a c => obtain ⟨_, _, h, _⟩ := h; cases h
  | fn => cases h
  | ifc t u => obtain ⟨_, h, _⟩ := h; cases h
  | ifn => cases h
  | ag l => obtain ⟨_, h, _⟩ := h; cases h
  | tu l => obtain ⟨_, h, _⟩ := h; cases h
  | y k => obtain ⟨_, _, h⟩ := h; cases h
omit hρ hcall hmeth in
theorem cRO_some {N : Nat} {ops : List Oper} {o : Oper} {r : RO} (hc : cRO P N ops o = some r) : r.dst = o.dst ∧ r.op = cOp P o.op ∧ (∀ k, o.dst = some k → k < N) ∧
    ((o.guard = none ∧ r.guard = none) ∨ ∃ j b s, o.guard = some (j, b) ∧ slotOf ops j = some s ∧ r.guard = some (s, b)) := by
  unfold cRO at hc
  simp only [] at hc
  split at hc
  · rename_i hd
    have hd' : ∀ k, o.dst = some k → k < N := fun k hk => by
      rw [hk] at hd
      exact blt_lt hd
    split at hc
    · rename_i hg
      cases hc
      exact ⟨rfl, rfl, hd', .inl ⟨hg, rfl⟩⟩
    · rename_i j b hg
      split at hc
      · rename_i s hs
        cases hc
        exact ⟨rfl, rfl, hd', .inr ⟨j, b, s, hg, hs, rfl⟩⟩
      · cases hc
  · cases hc
omit hρ hcall hmeth in
theorem want_ok {σ : Emb} {e : Trie TV} {tmps : Array Value} (he : EnvR ρ σ e tmps) {N : Nat} {arr : Array Oper} {o : Oper} {r : RO} (hc : cRO P N arr.toList o = some r) {b : Bool} (hw : want r.guard e = some b) :
    Region.wanted o (yielded arr tmps) = b := by
  obtain ⟨_, _, _, hg⟩ := cRO_some hc
  unfold Region.wanted
  rcases hg with ⟨g1, g2⟩ | ⟨j, c, s, g1, g2, g3⟩
  · rw [g2] at hw
    cases hw
    rw [g1]
  · rw [g3] at hw
    rw [g1]
    simp only []
    have hy : yielded arr tmps j = match tmps[s]? with | some (.bool b) => some b | _ => none := by
      unfold yielded slotOf at *
      rw [Array.getElem?_toList] at g2
      cases ho : arr[j]? with
      | none => rw [ho] at g2; cases g2
      | some o' =>
        rw [ho] at g2
        simp only [] at g2
        simp only [Option.bind_some, g2]
        rfl
    unfold want at hw
    simp only [] at hw
    have hs := he s
    split at hw
    · rename_i x e1
      cases hw
      rw [e1] at hs
      have hs : tmps.getD s undef = .bool x := hs
      have : tmps[s]? = some (.bool x) := by
        rw [Array.getD_eq_getD_getElem?] at hs
        cases ht : tmps[s]? with
        | none => rw [ht] at hs; cases hs
        | some q => rw [ht] at hs; simp only [Option.getD_some] at hs; rw [hs]
      rw [hy, this]
      cases x <;> cases c <;> rfl
    · cases hw
    · cases hw
    · rename_i n1 n2 n3
      cases hw
      rw [hy]
      cases ht : tmps[s]? with
      | none => rfl
      | some q =>
        rw [Array.getD_eq_getD_getElem?, ht] at hs
        simp only [Option.getD_some] at hs
        cases q with
        | bool y =>
          rcases VR_bool hs with q | ⟨k, q⟩ | q
          · exact absurd q (n1 y)
          · exact absurd q (n2 k)
          · exact absurd q n3
        | _ => rfl
def After (ρ : Cx) (B : Nat) (D : Nat → Prop) (σ : Emb) (h : SH) (w : World) (a : Act) (e' : Trie TV) (h' : SH) (a' : Act) (w' : World) : Prop :=
  ∃ σ', Tr ρ B D σ h w σ' h' w' ∧ EnvR ρ σ' e' a'.tmps ∧ a'.tmps.size = a.tmps.size ∧ a'.defers = a.defers
omit hρ hmeth in
theorem tf_evR : ∀ {l : List RO} {e e' : Trie TV} {h h' : SH}, evR meth call l e h = some (e', h') → TF h h'
  | [], e, e', h, h', hx => by cases hx; exact TF.refl _
  | r :: q, e, e', h, h', hx => by
    unfold evR at hx
    split at hx
    · cases hx
    · exact tf_evR hx
    · split at hx
      · rename_i e1
        exact (tf_op1 hcall e1).trans (tf_evR hx)
      · cases hx
theorem evR_ok (rr : Option Nat) {N : Nat} (hN : N ≤ 4000) {arr : Array Oper} {Q : Exit → Act → World → Prop} : ∀ {l : List Oper} {rl : List RO} {e e' : Trie TV} {h h' : SH} {D : Nat → Prop} {σ : Emb} {w : World} {a : Act}, cROs P N arr.toList l = some rl → evR meth call rl e h = some (e', h') → AllOb P ρ h'.ob →
    HR ρ B D σ h w → GlobR P σ → Free σ h.nx h'.nx → Hand D h h' → EnvR ρ σ e a.tmps → N ≤ a.tmps.size → (∀ a' w', After ρ B D σ h w a e' h' a' w' → Q .normal a' w') → wpListIn (FW rr) 0 P arr Q l a w
  | [], rl, e, e', h, h', D, σ, w, a, hc, hx, ho, hr, hg, hf, hd, he, hs, hQ => by
    cases hc; cases hx
    exact hQ a w ⟨σ, tr_same hr rfl rfl, he, rfl, rfl⟩
  | o :: q, rl, e, e', h, h', D, σ, w, a, hc, hx, ho, hr, hg, hf, hd, he, hs, hQ => by
    unfold cROs at hc
    split at hc
    · rename_i r rl' c1 c2
      cases hc
      obtain ⟨k1, k2, k3, _⟩ := cRO_some c1
      have hdst : ∀ k, o.dst = some k → k < a.tmps.size ∧ k < 4000 := fun k hk => ⟨Nat.lt_of_lt_of_le (k3 k hk) hs, Nat.lt_of_lt_of_le (k3 k hk) hN⟩
      unfold evR at hx
      unfold wpListIn
      split at hx
      · cases hx
      · rename_i hw
        have := want_ok he c1 hw
        rw [this]
        simp only [Bool.false_eq_true, if_false]
        refine ⟨fun _ _ => trivial, evR_ok rr hN c2 hx ho hr hg hf hd ?_ (by rw [put_size]; exact hs) ?_⟩
        · rw [k1]; exact he.put ⟨#[], rfl, rfl⟩ hdst
        · rintro a' w' ⟨σ', t1, t2, t3, t4⟩
          exact hQ a' w' ⟨σ', t1, t2, by rw [t3, put_size], by rw [t4, put_defers]⟩
      · rename_i hw
        have := want_ok he c1 hw
        rw [this]
        simp only [if_true]
        split at hx
        · rename_i v h1 e1
          have tf1 := tf_op1 hcall e1
          have tf2 := tf_evR hcall hx
          rw [k2] at e1
          refine op1_ok hρ hcall hmeth hr he hg (fun k x y => hf k x (Nat.lt_of_lt_of_le y tf2.nx)) (fun k x y => hd k (tf2.lg k x) y) e1 (AllOb.of_tf tf2 ho) ?_ rr
          intro σ1 w1 x t1 hv
          refine evR_ok rr hN c2 hx ho t1.hr (hg.mono t1.up) (fun k x y => ?_) (fun k x y => ?_) ?_ (by rw [put_size]; exact hs) ?_
          · exact t1.no k (hf k (Nat.le_trans tf1.nx x) y) (.inr x)
          · by_cases hk : k < h.nx
            · exact .inl (hd k x hk)
            · exact .inr ⟨by omega, y⟩
          · rw [k1]; exact (he.mono t1.up).put hv hdst
          · rintro a' w' ⟨σ', s1, s2, s3, s4⟩
            exact hQ a' w' ⟨σ', t1.trans tf1 tf2 s1 hf, s2, by rw [s3, put_size], by rw [s4, put_defers]⟩
        · cases hx
    · cases hc
end
end Go.Proofs.YtgjfdbbghefdbaaGreatDoor.Sx
