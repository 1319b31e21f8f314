/-
  Calls, regions of open order, code, functions, loops.
-/
import Derived.Test.YtgjfdbbghefdbaaGreatDoorOx4
import Derived.RangeFuncNested
import Derived.Below
import Derived.RangeFuncLeaves
namespace Go.Proofs.YtgjfdbbghefdbaaGreatDoor.Sx
theorem evs_congr {e e' : Trie TV} : ∀ {l : List Opd}, (∀ t, t ∈ slotsL l → getE e t = getE e' t) → evs e l = evs e' l
  | [], _ => rfl
  | o :: r, h => by
    unfold evs
    have h1 : o.ev e = o.ev e' := by
      cases o with
      | t n => exact h n (by simp [slotsL, Opd.slots])
      | c v => rfl
    rw [h1, evs_congr fun t ht => h t (by unfold slotsL; exact List.mem_append_right _ ht)]
theorem ev_congr {e e' : Trie TV} {o : Opd} (h : ∀ t, t ∈ o.slots → getE e t = getE e' t) : o.ev e = o.ev e' := by
  cases o with
  | t n => exact h n (by simp [Opd.slots])
  | c v => rfl
theorem fill_congr {e e' : Trie TV} : ∀ {l : List (Nat × Nat × Opd)} {cells : List TV}, (∀ t, t ∈ slotsP l → getE e t = getE e' t) → fillTV e cells l = fillTV e' cells l
  | [], _, _ => rfl
  | (off, size, o) :: r, cells, h => by
    unfold fillTV
    have h1 : o.ev e = o.ev e' := ev_congr fun t ht => h t (by unfold slotsP; exact List.mem_append_left _ ht)
    rw [h1, fill_congr fun t ht => h t (by unfold slotsP; exact List.mem_append_right _ ht)]
theorem bound_congr {e e' : Trie TV} {o : Option Opd} (h : ∀ t, t ∈ slotsO o → getE e t = getE e' t) (d m : Nat) : bound e o d m = bound e' o d m := by
  cases o with
  | none => rfl
  | some o =>
    have h1 : o.ev e = o.ev e' := ev_congr fun t ht => h t ht
    simp only [bound, h1]
theorem bdO_congr {e e' : Trie TV} {o : Option Opd} (h : ∀ t, t ∈ slotsO o → getE e t = getE e' t) (d : Int) : bdO e o d = bdO e' o d := by
  cases o with
  | none => rfl
  | some o =>
    unfold bdO
    simp only []
    rw [ev_congr h]
theorem op1_congr {meth : Meth} {call : CallT} {o : XO} {e e' : Trie TV} (h : ∀ t, t ∈ o.uses → getE e t = getE e' t) (s : SH) : op1 meth call o e s = op1 meth call o e' s := by
  cases o
  case mkm | bad => rfl
  case mv x | nck x | un _ x | cvi _ x | cvs x | cvb x | mki _ x | fa _ x | fld _ _ _ x | ta _ _ _ x | ex x _ | len _ x | box _ _ x | ld _ _ x | taI _ _ _ x | rgS x | nxS x | boxB _ _ x =>
    have h1 : x.ev e = x.ev e' := ev_congr fun t ht => h t ht
    simp only [op1, opC, opO, xo, h1]
  case pick c a b =>
    have h1 : c.ev e = c.ev e' := ev_congr fun t ht => h t (List.mem_append_left _ ht)
    have h2 : a.ev e = a.ev e' := ev_congr fun t ht => h t (List.mem_append_right _ (List.mem_append_left _ ht))
    have h3 : b.ev e = b.ev e' := ev_congr fun t ht => h t (List.mem_append_right _ (List.mem_append_right _ ht))
    simp only [op1, opC, opO, xo, h1, h2, h3]
  case bld z ps => simp only [op1, opC, opO, xo, fill_congr (e := e) (e' := e') (l := ps) h]
  case bls t s n z ps => simp only [op1, opC, opO, xo, fill_congr (e := e) (e' := e') (l := ps) h]
  case st n a x =>
    have h1 : a.ev e = a.ev e' := ev_congr fun t ht => h t (List.mem_append_left _ ht)
    have h2 : x.ev e = x.ev e' := ev_congr fun t ht => h t (List.mem_append_right _ ht)
    simp only [op1, opC, opO, xo, h1, h2]
  case bop _ x y | eq _ _ _ x y | beq _ x y | eqw _ _ x y | ia _ x y | iaA _ _ x y | ixS x y | ixA _ _ _ x y | app _ _ x y | mm _ x y | del _ x y | mks _ _ _ x y | lk _ _ _ x y =>
    have h1 : x.ev e = x.ev e' := ev_congr fun t ht => h t (List.mem_append_left _ ht)
    have h2 : y.ev e = y.ev e' := ev_congr fun t ht => h t (List.mem_append_right _ ht)
    simp only [op1, opC, opO, xo, h1, h2]
  case mkf g a b =>
    have h1 : evs e a = evs e' a := evs_congr fun t ht => h t (List.mem_append_left _ ht)
    have h2 : evs e b = evs e' b := evs_congr fun t ht => h t (List.mem_append_right _ ht)
    simp only [op1, opC, opO, xo, h1, h2]
  case slcS x lo hi =>
    have h1 : x.ev e = x.ev e' := ev_congr fun t ht => h t (List.mem_append_left _ ht)
    have h2 := fun d m => bound_congr (e := e) (e' := e') (o := lo) (fun t ht => h t (List.mem_append_right _ (List.mem_append_left _ ht))) d m
    have i2 := fun d => bdO_congr (e := e) (e' := e') (o := lo) (fun t ht => h t (List.mem_append_right _ (List.mem_append_left _ ht))) d
    have h3 := fun d m => bound_congr (e := e) (e' := e') (o := hi) (fun t ht => h t (List.mem_append_right _ (List.mem_append_right _ ht))) d m
    have i3 := fun d => bdO_congr (e := e) (e' := e') (o := hi) (fun t ht => h t (List.mem_append_right _ (List.mem_append_right _ ht))) d
    simp only [op1, opC, opO, xo, h1, h2, h3, i2, i3]
  case slc n x lo hi mx =>
    have h1 : x.ev e = x.ev e' := ev_congr fun t ht => h t (List.mem_append_left _ ht)
    have h2 := fun d m => bound_congr (e := e) (e' := e') (o := lo) (fun t ht => h t (List.mem_append_right _ (List.mem_append_left _ ht))) d m
    have i2 := fun d => bdO_congr (e := e) (e' := e') (o := lo) (fun t ht => h t (List.mem_append_right _ (List.mem_append_left _ ht))) d
    have h3 := fun d m => bound_congr (e := e) (e' := e') (o := hi) (fun t ht => h t (List.mem_append_right _ (List.mem_append_right _ (List.mem_append_left _ ht)))) d m
    have i3 := fun d => bdO_congr (e := e) (e' := e') (o := hi) (fun t ht => h t (List.mem_append_right _ (List.mem_append_right _ (List.mem_append_left _ ht)))) d
    have h4 := fun d m => bound_congr (e := e) (e' := e') (o := mx) (fun t ht => h t (List.mem_append_right _ (List.mem_append_right _ (List.mem_append_right _ ht)))) d m
    have i4 := fun d => bdO_congr (e := e) (e' := e') (o := mx) (fun t ht => h t (List.mem_append_right _ (List.mem_append_right _ (List.mem_append_right _ ht)))) d
    simp only [op1, opC, opO, xo, h1, h2, h3, h4, i2, i3, i4]
  case slcA n s x lo hi mx =>
    have h1 : x.ev e = x.ev e' := ev_congr fun t ht => h t (List.mem_append_left _ ht)
    have h2 := fun d m => bound_congr (e := e) (e' := e') (o := lo) (fun t ht => h t (List.mem_append_right _ (List.mem_append_left _ ht))) d m
    have h3 := fun d m => bound_congr (e := e) (e' := e') (o := hi) (fun t ht => h t (List.mem_append_right _ (List.mem_append_right _ (List.mem_append_left _ ht)))) d m
    have h4 := fun d m => bound_congr (e := e) (e' := e') (o := mx) (fun t ht => h t (List.mem_append_right _ (List.mem_append_right _ (List.mem_append_right _ ht)))) d m
    simp only [op1, opC, opO, xo, h1, h2, h3, h4]
  case call f l =>
    have h1 : evs e l = evs e' l := evs_congr h
    simp only [op1, opC, opO, h1]
  case callv f l =>
    have h1 : f.ev e = f.ev e' := ev_congr fun t ht => h t (List.mem_append_left _ ht)
    have h2 : evs e l = evs e' l := evs_congr fun t ht => h t (List.mem_append_right _ ht)
    simp only [op1, opC, opO, h1, h2]
  case inv f n l =>
    have h1 : f.ev e = f.ev e' := ev_congr fun t ht => h t (List.mem_append_left _ ht)
    have h2 : evs e l = evs e' l := evs_congr fun t ht => h t (List.mem_append_right _ ht)
    simp only [op1, opC, opO, h1, h2]
  case ins b m k v =>
    have h1 : m.ev e = m.ev e' := ev_congr fun t ht => h t (List.mem_append_left _ ht)
    have h2 : k.ev e = k.ev e' := ev_congr fun t ht => h t (List.mem_append_right _ (List.mem_append_left _ ht))
    have h3 : v.ev e = v.ev e' := ev_congr fun t ht => h t (List.mem_append_right _ (List.mem_append_right _ ht))
    simp only [op1, opC, opO, xo, h1, h2, h3]
theorem want_congr {r : RO} {e e' : Trie TV} (h : ∀ t, t ∈ r.uses → getE e t = getE e' t) : want r.guard e = want r.guard e' := by
  unfold RO.uses at h
  cases hg : r.guard with
  | none => rfl
  | some p =>
    rw [hg] at h
    unfold want
    simp only [h p.1 (List.mem_cons_self ..)]
theorem uses_op {r : RO} {t : Nat} (h : t ∈ r.op.uses) : t ∈ r.uses := by
  unfold RO.uses
  cases r.guard with
  | none => exact h
  | some p => exact List.mem_cons_of_mem _ h
structure Canon (meth : Meth) (call : CallT) (n : Nat) (R : Nat → Option RO) (E : Nat → Trie TV) (H : Nat → SH) (V : Nat → TV) (L : Nat → List Nat × List Nat) (M : Nat → Nat → Prop) : Prop where
  step : ∀ i r, R i = some r → (want r.guard (E i) = some false ∧ V i = .tu [] ∧ H (i + 1) = H i ∧ L i = ([], [])) ∨
    (want r.guard (E i) = some true ∧ op1 meth call r.op (E i) (H i).fresh = some (V i, H (i + 1)) ∧ L i = ((H (i + 1)).lg, (H (i + 1)).wr))
  env : ∀ i r, R i = some r → E (i + 1) = putE (E i) r.dst (V i)
  any : ∀ i, i < n → ∃ r, R i = some r
  small : ∀ i r d, R i = some r → r.dst = some d → d < 4000
  conf : ∀ i j, i < j → j < n → ((∃ k, k ∈ (L i).2 ∧ k ∈ (L j).1) ∨ (∃ k, k ∈ (L j).2 ∧ k ∈ (L i).1)) → M j i
  stat : ∀ i j ri rj, i < j → j < n → R i = some ri → R j = some rj → (∀ d, ri.dst = some d → rj.dst ≠ some d) ∧ (M j i ∨ ((∀ d, ri.dst = some d → d ∉ rj.uses) ∧ (∀ d, rj.dst = some d → d ∉ ri.uses)))
def curN (H : Nat → SH) (L : Nat → List Nat × List Nat) (X : Nat → Prop) [DecidablePred X] : Nat → Nat → Option TB
  | 0, k => (H 0).get k
  | m + 1, k => if X m ∧ k ∈ (L m).2 then (H (m + 1)).get k else curN H L X m k
def envN (E : Nat → Trie TV) (R : Nat → Option RO) (V : Nat → TV) (X : Nat → Prop) [DecidablePred X] : Nat → Trie TV
  | 0 => E 0
  | m + 1 => if X m then (match R m with | some r => putE (envN E R V X m) r.dst (V m) | none => envN E R V X m) else envN E R V X m
section
variable {P : Program} {ρ : Cx} {B : Nat} {meth : Meth} {call : CallT} (hcall : CallOk P ρ B call) {n : Nat} {R : Nat → Option RO} {E : Nat → Trie TV} {H : Nat → SH} {V : Nat → TV} {L : Nat → List Nat × List Nat} {M : Nat → Nat → Prop}
  (C : Canon meth call n R E H V L M)
include hcall C
theorem canon_tf {i : Nat} (hi : i < n) : TF (H i).fresh ⟨(H (i + 1)).tr, (H (i + 1)).nx, (L i).1, (L i).2, (H (i + 1)).md, (H (i + 1)).pa, (H (i + 1)).ob⟩ := by
  obtain ⟨r, hr⟩ := C.any i hi
  rcases C.step i r hr with ⟨_, _, h3, h4⟩ | ⟨_, h2, h3⟩
  · rw [h3, h4]; exact TF.refl _
  · rw [h3]; exact tf_op1 hcall h2
theorem canon_same {i : Nat} (hi : i < n) {k : Nat} (hk : k ∉ (L i).2) : (H (i + 1)).get k = (H i).get k := (canon_tf hcall C hi).same k hk
theorem canon_wl {i : Nat} (hi : i < n) {k : Nat} (hk : k ∈ (L i).2) : k ∈ (L i).1 := ((canon_tf hcall C hi).wl k hk).resolve_left (by show k ∉ []; simp)
theorem canon_nx {i : Nat} (hi : i < n) : (H i).nx ≤ (H (i + 1)).nx := (canon_tf hcall C hi).nx
theorem canon_nx_le : ∀ {i j : Nat}, i ≤ j → j ≤ n → (H i).nx ≤ (H j).nx := by
  intro i j hij
  induction hij with
  | refl => exact fun _ => Nat.le_refl _
  | step h ih => exact fun hj => Nat.le_trans (ih (by omega)) (canon_nx hcall C (by omega))
theorem canon_ob : ∀ {i j : Nat}, i ≤ j → j ≤ n → ∀ o, o ∈ (H i).ob → o ∈ (H j).ob := by
  intro i j hij
  induction hij with
  | refl => exact fun _ _ h => h
  | @step m h ih =>
    intro hj o ho
    exact (canon_tf hcall C (show m < n by omega)).ob o (ih (by omega) o ho)
theorem canon_own : ∀ {i j : Nat}, i ≤ j → j ≤ n → ∀ {k : Nat}, k < (H i).nx → Own (H j) k → Own (H i) k := by
  intro i j hij
  induction hij with
  | refl => exact fun _ _ _ h => h
  | @step m h ih =>
    intro hj k hk ho
    refine ih (by omega) hk ?_
    have := (canon_tf hcall C (show m < n by omega)).own k (Nat.lt_of_lt_of_le hk (canon_nx_le hcall C h (by omega)))
    exact this ho
end
section
variable {P : Program} {ρ : Cx} {B : Nat} {meth : Meth} {call : CallT} (hcall : CallOk P ρ B call) {n : Nat} {R : Nat → Option RO} {E : Nat → Trie TV} {H : Nat → SH} {V : Nat → TV} {L : Nat → List Nat × List Nat} {M : Nat → Nat → Prop}
  (C : Canon meth call n R E H V L M) (X : Nat → Prop) [DecidablePred X] (hcl : ∀ j, X j → j < n ∧ ∀ i, M j i → X i) {i : Nat} (hi : i < n) (hX : ¬ X i) (hmask : ∀ j, M i j → X j)
include hcall C hcl hi hX hmask
theorem cur_at {k : Nat} (hk : k ∈ (L i).1) : curN H L X n k = (H i).get k := by
  have lo : ∀ m, m ≤ i → curN H L X m k = (H m).get k := by
    intro m
    induction m with
    | zero => exact fun _ => rfl
    | succ m ih =>
      intro hm
      unfold curN
      by_cases hw : k ∈ (L m).2
      · have hXm : X m := hmask m (C.conf m i (by omega) hi (.inl ⟨k, hw, hk⟩))
        rw [if_pos ⟨hXm, hw⟩]
      · rw [if_neg (fun q => hw q.2), ih (by omega), canon_same hcall C (by omega) hw]
  have hi2 : ∀ m, i ≤ m → m ≤ n → curN H L X m k = (H i).get k := by
    intro m hm
    induction hm with
    | refl => exact fun _ => lo i (Nat.le_refl _)
    | @step m h ih =>
      intro hm2
      unfold curN
      rw [if_neg, ih (by omega)]
      rintro ⟨hXm, hw⟩
      by_cases e : m = i
      · subst e; exact hX hXm
      · exact hX ((hcl m hXm).2 i (C.conf i m (by have : i ≤ m := h; omega) (by omega) (.inr ⟨k, hw, hk⟩)))
  exact hi2 n (by omega) (Nat.le_refl _)
omit hcall in
theorem env_at {r : RO} (hr : R i = some r) {t : Nat} (ht : t ∈ r.uses) : getE (envN E R V X n) t = getE (E i) t := by
  have lo : ∀ m, m ≤ i → getE (envN E R V X m) t = getE (E m) t := by
    intro m
    induction m with
    | zero => exact fun _ => rfl
    | succ m ih =>
      intro hm
      obtain ⟨rm, hrm⟩ := C.any m (by omega)
      rw [C.env m rm hrm]
      unfold envN
      simp only [hrm]
      by_cases hd : rm.dst = some t
      · have hXm : X m := by
          rcases (C.stat m i rm r (by omega) hi hrm hr).2 with q | ⟨q, _⟩
          · exact hmask m q
          · exact absurd ht (q t hd)
        rw [if_pos hXm, hd]
        have hs := C.small m rm t hrm hd
        show getE (Trie.set 12 _ t _) t = getE (Trie.set 12 _ t _) t
        rw [getE_put hs, getE_put hs, if_pos rfl, if_pos rfl]
      · have put_ne : ∀ q : Trie TV, getE (putE q rm.dst (V m)) t = getE q t := by
          intro q
          cases hdd : rm.dst with
          | none => rfl
          | some d =>
            show getE (Trie.set 12 q d (V m)) t = _
            rw [getE_put (C.small m rm d hrm hdd), if_neg (fun e => hd (by rw [hdd, e]))]
        rw [put_ne]
        split
        · rw [put_ne]; exact ih (by omega)
        · exact ih (by omega)
  have hi2 : ∀ m, i ≤ m → m ≤ n → getE (envN E R V X m) t = getE (E i) t := by
    intro m hm
    induction hm with
    | refl => exact fun _ => lo i (Nat.le_refl _)
    | @step m h ih =>
      intro hm2
      obtain ⟨rm, hrm⟩ := C.any m (by omega)
      unfold envN
      simp only [hrm]
      split
      · rename_i hXm
        have hne : m ≠ i := fun e => hX (e ▸ hXm)
        have hlt : i < m := by have : i ≤ m := h; omega
        cases hdd : rm.dst with
        | none => exact ih (by omega)
        | some d =>
          show getE (Trie.set 12 _ d (V m)) t = _
          rw [getE_put (C.small m rm d hrm hdd)]
          by_cases e : t = d
          · subst e
            rcases (C.stat i m r rm hlt (by omega) hr hrm).2 with q | ⟨_, q⟩
            · exact absurd ((hcl m hXm).2 i q) hX
            · exact absurd ht (q t hdd)
          · rw [if_neg e]; exact ih (by omega)
      · exact ih (by omega)
  exact hi2 n (by omega) (Nat.le_refl _)
omit hmask in
theorem cur_next {k : Nat} : curN H L (fun j => X j ∨ j = i) n k = if k ∈ (L i).2 then (H (i + 1)).get k else curN H L X n k := by
  have lo : ∀ m, m ≤ i → curN H L (fun j => X j ∨ j = i) m k = curN H L X m k := by
    intro m
    induction m with
    | zero => exact fun _ => rfl
    | succ m ih =>
      intro hm
      unfold curN
      by_cases hw : X m ∧ k ∈ (L m).2
      · rw [if_pos hw, if_pos ⟨.inl hw.1, hw.2⟩]
      · rw [if_neg hw, if_neg (fun q => hw ⟨q.1.resolve_right (by omega), q.2⟩)]
        exact ih (by omega)
  have hi2 : ∀ m, i < m → m ≤ n → curN H L (fun j => X j ∨ j = i) m k = if k ∈ (L i).2 then (H (i + 1)).get k else curN H L X m k := by
    intro m hm
    induction hm with
    | refl =>
      intro _
      show (if (X i ∨ i = i) ∧ k ∈ (L i).2 then (H (i + 1)).get k else curN H L (fun j => X j ∨ j = i) i k) = if k ∈ (L i).2 then (H (i + 1)).get k else (if X i ∧ k ∈ (L i).2 then (H (i + 1)).get k else curN H L X i k)
      by_cases hw : k ∈ (L i).2
      · rw [if_pos ⟨.inr rfl, hw⟩, if_pos hw]
      · rw [if_neg (fun q => hw q.2), if_neg hw, if_neg (fun q => hw q.2), lo i (Nat.le_refl _)]
    | @step m h ih =>
      intro hm2
      have hlt : i < m := h
      have ih := ih (by omega)
      show (if (X m ∨ m = i) ∧ k ∈ (L m).2 then (H (m + 1)).get k else curN H L (fun j => X j ∨ j = i) m k) = if k ∈ (L i).2 then (H (i + 1)).get k else (if X m ∧ k ∈ (L m).2 then (H (m + 1)).get k else curN H L X m k)
      by_cases hw : X m ∧ k ∈ (L m).2
      · rw [if_pos ⟨.inl hw.1, hw.2⟩, if_pos hw, if_neg]
        intro hwi
        exact hX ((hcl m hw.1).2 i (C.conf i m hlt (by omega) (.inl ⟨k, hwi, canon_wl hcall C (by omega) hw.2⟩)))
      · rw [if_neg (fun q => hw ⟨q.1.resolve_right (by omega), q.2⟩), if_neg hw, ih]
  exact hi2 n hi (Nat.le_refl _)
omit hcall hmask hcl in
theorem env_next {r : RO} (hr : R i = some r) (t : Nat) : getE (envN E R V (fun j => X j ∨ j = i) n) t = getE (putE (envN E R V X n) r.dst (V i)) t := by
  have lo : ∀ m, m ≤ i → envN E R V (fun j => X j ∨ j = i) m = envN E R V X m := by
    intro m
    induction m with
    | zero => exact fun _ => rfl
    | succ m ih =>
      intro hm
      have ih := ih (by omega)
      show (if X m ∨ m = i then _ else _) = (if X m then _ else _)
      rw [ih]
      by_cases hw : X m
      · rw [if_pos hw, if_pos (.inl hw)]
      · rw [if_neg hw, if_neg (fun q => hw (q.resolve_right (by omega)))]
  have hi2 : ∀ m, i < m → m ≤ n → getE (envN E R V (fun j => X j ∨ j = i) m) t = getE (putE (envN E R V X m) r.dst (V i)) t := by
    intro m hm
    induction hm with
    | refl =>
      intro _
      show getE (if X i ∨ i = i then (match R i with | some r => putE (envN E R V (fun j => X j ∨ j = i) i) r.dst (V i) | none => _) else _) t = getE (putE (if X i then _ else envN E R V X i) r.dst (V i)) t
      rw [if_pos (.inr rfl), if_neg hX, hr, lo i (Nat.le_refl _)]
    | @step m h ih =>
      intro hm2
      have hlt : i < m := h
      have ih := ih (by omega)
      obtain ⟨rm, hrm⟩ := C.any m (by omega)
      show getE (if X m ∨ m = i then (match R m with | some r => putE (envN E R V (fun j => X j ∨ j = i) m) r.dst (V m) | none => envN E R V (fun j => X j ∨ j = i) m) else envN E R V (fun j => X j ∨ j = i) m) t = getE (putE (if X m then (match R m with | some r => putE (envN E R V X m) r.dst (V m) | none => envN E R V X m) else envN E R V X m) r.dst (V i)) t
      simp only [hrm]
      by_cases hw : X m
      · rw [if_pos hw, if_pos (.inl hw)]
        have dif := (C.stat i m r rm hlt (by omega) hr hrm).1
        have pe : ∀ (q : Trie TV) (rr : RO) (j : Nat) (u : TV), R j = some rr → getE (putE q rr.dst u) t = if rr.dst = some t then u else getE q t := by
          intro q rr j u hj
          cases hdd : rr.dst with
          | none => rw [if_neg (by simp)]; rfl
          | some d =>
            show getE (Trie.set 12 q d u) t = _
            rw [getE_put (C.small j rr d hj hdd)]
            by_cases e : t = d
            · subst e; rw [if_pos rfl, if_pos rfl]
            · rw [if_neg e, if_neg (fun q => e (Option.some.inj q).symm)]
        rw [pe _ rm m _ hrm, ih, pe _ r i _ hr, pe _ r i _ hr, pe _ rm m _ hrm]
        by_cases e1 : rm.dst = some t
        · by_cases e2 : r.dst = some t
          · exact absurd e1 (dif t e2)
          · rw [if_pos e1, if_neg e2, if_pos e1]
        · rw [if_neg e1, if_neg e1]
      · rw [if_neg hw, if_neg (fun q => hw (q.resolve_right (by omega))), ih]
  exact hi2 n hi (Nat.le_refl _)
end
end Go.Proofs.YtgjfdbbghefdbaaGreatDoor.Sx
namespace Go.Proofs.YtgjfdbbghefdbaaGreatDoor.Sx
structure Inv (ρ : Cx) (B : Nat) (n : Nat) (R : Nat → Option RO) (E : Nat → Trie TV) (H : Nat → SH) (V : Nat → TV) (L : Nat → List Nat × List Nat) (D : Nat → Prop) (σ0 : Emb) (w0 : World) (a0 : Act) (X : Nat → Prop) [DecidablePred X] (σ : Emb) (a : Act) (w : World) : Prop where
  up : σ0.le σ
  no : ∀ k, σ0 k = none → (k < (H 0).nx ∨ (H n).nx ≤ k) → σ k = none
  nw : ∀ k y, σ0 k = none → σ k = some y → w0.heap.size ≤ y.1 ∨ ∃ k0 y0, D k0 ∧ Own (H 0) k0 ∧ σ0 k0 = some y0 ∧ y0.1 = y.1
  nm : ∀ b c, σ.mem b = some c → σ0.mem b = some c ∨ w0.heap.size ≤ b ∨ ∃ k0 y0, D k0 ∧ Own (H 0) k0 ∧ σ0 k0 = some y0 ∧ y0.1 = b
  mem : ∀ b c, σ.mem b = some c → (∃ ty fz, w.heap[b]? = some (.cells c ty fz)) ∧ ∀ k bb y, (D k ∨ ((H 0).nx ≤ k ∧ k < (H n).nx)) → curN H L X n k = some bb → bb.own → σ k = some y → y.1 ≠ b
  tl : ∀ p, p ∈ ρ.tl → ∃ c, σ.mem p.1 = some c ∧ (∀ (j : Nat) (v : Value), p.2[j]? = some v → c[j]? = some v) ∧ c.size = p.2.length
  out : Out w0 w
  sz : w0.heap.size ≤ w.heap.size
  fr : ∀ b, b < w0.heap.size → (∀ k y, D k → Own (H 0) k → σ0 k = some y → y.1 ≠ b) → w.heap[b]? = w0.heap[b]?
  base : B ≤ w.heap.size
  blk : ∀ k b, (D k ∨ ((H 0).nx ≤ k ∧ k < (H n).nx)) → curN H L X n k = some b → BR ρ B σ w k b
  inj : ∀ k k' b b', (D k ∨ ((H 0).nx ≤ k ∧ k < (H n).nx)) → (D k' ∨ ((H 0).nx ≤ k' ∧ k' < (H n).nx)) → curN H L X n k = some b → curN H L X n k' = some b' → b.own → b'.own → k ≠ k' → ∀ y y', σ k = some y → σ k' = some y' → y.1 ≠ y'.1
  free : ∀ i, i < n → ¬ X i → ∀ k, (H i).nx ≤ k → k < (H (i + 1)).nx → σ k = none
  env : EnvR ρ σ (envN E R V X n) a.tmps
  size : a.tmps.size = a0.tmps.size
  defers : a.defers = a0.defers
section
variable {P : Program} {ρ : Cx} {B : Nat} {meth : Meth} {call : CallT} (hρ : ∀ j, scalV (ρ j)) (hcall : CallOk P ρ B call) (hmeth : MethOk P ρ meth) {n : Nat} {R : Nat → Option RO} {E : Nat → Trie TV} {H : Nat → SH} {V : Nat → TV} {L : Nat → List Nat × List Nat} {M : Nat → Nat → Prop}
  (C : Canon meth call n R E H V L M) {D : Nat → Prop} {σ0 : Emb} {w0 : World} {a0 : Act} (hwf : ∀ k b, (H 0).get k = some b → k < (H 0).nx) (hfree : Free σ0 (H 0).nx (H n).nx) (hhand : ∀ i, i < n → ∀ k, k ∈ (L i).1 → k < (H 0).nx → D k) (hg : GlobR P σ0) (hob : AllOb P ρ (H n).ob)
include hcall C hwf in
theorem wf_at : ∀ {i : Nat}, i ≤ n → ∀ k b, (H i).get k = some b → k < (H i).nx := by
  intro i
  induction i with
  | zero => exact fun _ => hwf
  | succ i ih => exact fun hi => (canon_tf hcall C (show i < n by omega)).wf (ih (by omega))
theorem envR_congr {σ : Emb} {e e' : Trie TV} {tmps : Array Value} (h : EnvR ρ σ e tmps) (hh : ∀ t, getE e' t = getE e t) : EnvR ρ σ e' tmps := fun t => by rw [hh]; exact h t
include hρ hcall hmeth C hwf hfree hhand hg hob
theorem inv_step {X : Nat → Prop} [DecidablePred X] (hcl : ∀ j, X j → j < n ∧ ∀ i, M j i → X i) {i : Nat} (hi : i < n) (hX : ¬ X i) (hmask : ∀ j, M i j → X j) {σ : Emb} {a : Act} {w : World} (I : Inv ρ B n R E H V L D σ0 w0 a0 X σ a w)
    {r : RO} (hr : R i = some r) {o : Oper} (hop : r.op = cOp P o.op) (hdst : r.dst = o.dst) (hsz : ∀ k, o.dst = some k → k < a0.tmps.size) (hw : want r.guard (E i) = some true) {K : Act → World → Prop} {Q : Exit → Act → World → Prop} (rr : Option Nat)
    (hK : ∀ σ' w' a', Inv ρ B n R E H V L D σ0 w0 a0 (fun j => X j ∨ j = i) σ' a' w' → K a' w') : o.wpIn (FW rr) 0 P a w K Q := by
  rcases C.step i r hr with ⟨q, _⟩ | ⟨_, h2, h3⟩
  · rw [q] at hw; cases hw
  have l1 : (L i).1 = (H (i + 1)).lg := by rw [h3]
  have l2 : (L i).2 = (H (i + 1)).wr := by rw [h3]
  have tf := tf_op1 hcall h2
  have tfc := canon_tf hcall C hi
  have n0i := canon_nx_le hcall C (Nat.zero_le i) (by omega)
  have nii := canon_nx hcall C hi
  have nin := canon_nx_le hcall C (show i + 1 ≤ n by omega) (Nat.le_refl _)
  have wfi := wf_at hcall C hwf (show i ≤ n by omega)
  have hcur := fun {k : Nat} (hk : k ∈ (L i).1) => cur_at hcall C X hcl hi hX hmask hk
  -- the operation, on the slots as they are
  have he : op1 meth call r.op (envN E R V X n) (H i).fresh = some (V i, H (i + 1)) := by
    rw [← h2]
    exact op1_congr (fun t ht => env_at C X hcl hi hX hmask hr (uses_op ht)) _
  rw [hop] at he
  -- what it looks at
  have hDD : ∀ k, k ∈ (L i).1 → k < (H i).nx → D k ∨ ((H 0).nx ≤ k ∧ k < (H n).nx) := fun k hk hl => by
    by_cases h0 : k < (H 0).nx
    · exact .inl (hhand i hi k hk h0)
    · exact .inr ⟨by omega, by omega⟩
  have hrD : HR ρ B (fun k => k ∈ (L i).1 ∧ k < (H i).nx) σ (H i).fresh w := by
    refine ⟨I.base, wfi, fun k b hd hb => ?_, fun k k' hd hd' ho ho' hne y y' hy hy' => ?_, fun b c e => ⟨(I.mem b c e).1, fun k y hd ho hy => ?_⟩, I.tl⟩
    · exact I.blk k b (hDD k hd.1 hd.2) (by rw [hcur hd.1]; exact hb)
    · obtain ⟨b, b1, b2⟩ := ho
      obtain ⟨b', b3, b4⟩ := ho'
      exact I.inj k k' b b' (hDD k hd.1 hd.2) (hDD k' hd'.1 hd'.2) (by rw [hcur hd.1]; exact b1) (by rw [hcur hd'.1]; exact b3) b2 b4 hne y y' hy hy'
    · obtain ⟨bb, b1, b2⟩ := ho
      exact (I.mem b c e).2 k bb y (hDD k hd.1 hd.2) (by rw [hcur hd.1]; exact b1) b2 hy
  refine op1_ok hρ hcall hmeth hrD I.env (hg.mono I.up) (fun k x y => I.free i hi hX k x y) (fun k x y => ⟨by rw [l1]; exact x, y⟩) he (fun o ho => hob o (canon_ob hcall C (show i + 1 ≤ n by omega) (Nat.le_refl _) o ho)) ?_ rr
  intro σ' w' x t1 hv
  refine hK σ' w' _ ?_
  have cn := fun {k : Nat} => cur_next hcall C X hcl hi hX (k := k)
  have own0 : ∀ {k}, k < (H 0).nx → Own (H i) k → Own (H 0) k := fun {k} hk ho => canon_own hcall C (Nat.zero_le i) (by omega) hk ho
  -- an own block that is looked at, by the first names
  have back : ∀ k0 y0, (k0 ∈ (L i).1 ∧ k0 < (H i).nx) → Own (H i) k0 → σ k0 = some y0 → w0.heap.size ≤ y0.1 ∨ ∃ k1 y1, D k1 ∧ Own (H 0) k1 ∧ σ0 k1 = some y1 ∧ y1.1 = y0.1 := by
    intro k0 y0 hd ho hy
    cases hs : σ0 k0 with
    | none => exact I.nw k0 y0 hs hy
    | some y1 =>
      have hlt : k0 < (H 0).nx := by
        rcases Nat.lt_or_ge k0 (H 0).nx with q | q
        · exact q
        · rw [hfree k0 q (by omega)] at hs; cases hs
      have e := I.up.at' k0 y1 hs
      rw [hy] at e; cases e
      exact .inr ⟨k0, y0, hhand i hi k0 hd.1 hlt, own0 hlt ho, hs, rfl⟩
  have keep : ∀ k b, (D k ∨ ((H 0).nx ≤ k ∧ k < (H n).nx)) → k ∉ (L i).1 → curN H L X n k = some b → ∀ y, σ k = some y → y.1 < w.heap.size → (b.own ∨ y.1 < B) → w'.heap[y.1]? = w.heap[y.1]? := by
    intro k b hd hk hc y hy hlt hb
    refine t1.fr y.1 hlt fun k0 y0 hd0 ho0 hy0 e => ?_
    obtain ⟨b0, e1, e2⟩ := ho0
    have hc0 : curN H L X n k0 = some b0 := by rw [hcur hd0.1]; exact e1
    rcases hb with hb | hb
    · exact I.inj k0 k b0 b (hDD k0 hd0.1 hd0.2) hd hc0 hc e2 hb (fun q => hk (q ▸ hd0.1)) y0 y hy0 hy e
    · obtain ⟨yy, q1, _, q3⟩ := BR_block (I.blk k0 b0 (hDD k0 hd0.1 hd0.2) hc0) e2
      rw [hy0] at q1; cases q1
      omega
  refine
    { up := I.up.trans t1.up
      no := fun k e c => t1.no k (I.no k e c) (by rcases c with c | c; exact .inl (show k < (H i).nx by omega); exact .inr (by omega))
      nw := fun k y e c => ?_
      nm := fun b c e => ?_
      mem := fun b c e => ⟨(t1.hr.mem b c e).1, fun k bb y hd hc ho hy => ?_⟩
      tl := t1.hr.tl
      out := I.out.trans t1.out
      sz := Nat.le_trans I.sz t1.sz
      fr := fun b hb hn => ?_
      base := t1.hr.base
      blk := fun k b hd hc => ?_
      inj := fun k k' b b' hd hd' hc hc' ho ho' hne y y' hy hy' => ?_
      free := fun j hj hXj k x y => ?_
      env := ?_
      size := by rw [put_size]; exact I.size
      defers := by rw [put_defers]; exact I.defers }
  · -- nw
    cases hs : σ k with
    | some y1 =>
      have q := t1.up.at' k y1 hs
      rw [c] at q; cases q
      exact I.nw k y e hs
    | none =>
      rcases t1.nw k y hs c with q | ⟨k0, y0, q1, q2, q3, q4⟩
      · exact .inl (Nat.le_trans I.sz q)
      · rcases back k0 y0 q1 q2 q3 with z | ⟨k1, y1, z1, z2, z3, z4⟩
        · exact .inl (by omega)
        · exact .inr ⟨k1, y1, z1, z2, z3, z4.trans q4⟩
  · -- nm
    rcases t1.nm b c e with q | q | ⟨k0, y0, q1, q2, q3, q4⟩
    · exact I.nm b c q
    · exact .inr (.inl (Nat.le_trans I.sz q))
    · rcases back k0 y0 q1 q2 q3 with z | ⟨k1, y1, z1, z2, z3, z4⟩
      · exact .inr (.inl (by omega))
      · exact .inr (.inr ⟨k1, y1, z1, z2, z3, z4.trans q4⟩)
  · -- mem
    rw [cn] at hc
    by_cases hk : k ∈ (L i).1
    · have hc2 : (H (i + 1)).get k = some bb := by
        by_cases hwk : k ∈ (L i).2
        · rw [if_pos hwk] at hc; exact hc
        · rw [if_neg hwk, hcur hk] at hc
          rw [canon_same hcall C hi hwk]; exact hc
      have hlt := wf_at hcall C hwf (show i + 1 ≤ n by omega) k bb hc2
      refine (t1.hr.mem b c e).2 k y ?_ ⟨bb, hc2, ho⟩ hy
      by_cases h1 : k < (H i).nx
      · exact .inl ⟨hk, h1⟩
      · exact .inr ⟨by show (H i).nx ≤ k; omega, hlt⟩
    · rw [if_neg (fun q => hk (canon_wl hcall C hi q))] at hc
      obtain ⟨z, z1, z2, _⟩ := BR_block (I.blk k bb hd hc) ho
      have := t1.up.at' k z z1
      rw [hy] at this; cases this
      rcases t1.nm b c e with q | q | ⟨k0, y0, q1, q2, q3, q4⟩
      · exact (I.mem b c q).2 k bb y hd hc ho z1
      · omega
      · obtain ⟨b0, e1, e2⟩ := q2
        have hc0 : curN H L X n k0 = some b0 := by rw [hcur q1.1]; exact e1
        have := I.inj k0 k b0 bb (hDD k0 q1.1 q1.2) hd hc0 hc e2 ho (fun q => hk (q ▸ q1.1)) y0 y q3 z1
        omega
  · -- fr
    rw [t1.fr b (Nat.lt_of_lt_of_le hb I.sz) ?_, I.fr b hb hn]
    intro k0 y0 q1 q2 q3 e
    subst e
    rcases back k0 y0 q1 q2 q3 with z | ⟨k1, y1, z1, z2, z3, z4⟩
    · omega
    · exact hn k1 y1 z1 z2 z3 z4
  · -- blk
    rw [cn] at hc
    by_cases hk : k ∈ (L i).1
    · have hc2 : (H (i + 1)).get k = some b := by
        by_cases hwk : k ∈ (L i).2
        · rw [if_pos hwk] at hc; exact hc
        · rw [if_neg hwk, hcur hk] at hc
          rw [canon_same hcall C hi hwk]; exact hc
      have hlt := wf_at hcall C hwf (show i + 1 ≤ n by omega) k b hc2
      refine t1.hr.blk k b ?_ hc2
      by_cases h1 : k < (H i).nx
      · exact .inl ⟨hk, h1⟩
      · exact .inr ⟨by show (H i).nx ≤ k; omega, hlt⟩
    · rw [if_neg (fun q => hk (canon_wl hcall C hi q))] at hc
      have hB := I.blk k b hd hc
      cases b with
      | dead => trivial
      | cells l ty ro =>
        refine BR_mono hB t1.up fun y hy hlt => keep k _ hd hk hc y hy hlt ?_
        obtain ⟨y', c', fz, g1, _, _, g3, _⟩ := hB
        rw [hy] at g1; cases g1
        cases ro with
        | true => exact .inr (g3 rfl)
        | false => exact .inl rfl
      | mp es cl => exact BR_mono hB t1.up fun y hy hlt => keep k _ hd hk hc y hy hlt (.inl trivial)
      | lp n ps as bd e st pd => exact BR_mono hB t1.up fun y hy hlt => keep k _ hd hk hc y hy hlt (.inl trivial)
      | df => exact BR_mono hB t1.up fun y hy hlt => keep k _ hd hk hc y hy hlt (.inl trivial)
      | bd l ty => exact BR_mono hB t1.up fun y hy hlt => keep k _ hd hk hc y hy hlt (.inl trivial)
      | it l pos => exact BR_mono hB t1.up fun y hy hlt => keep k _ hd hk hc y hy hlt (.inl trivial)
  · -- inj
    rw [cn] at hc hc'
    have inside : ∀ {k b}, k ∈ (L i).1 → (if k ∈ (L i).2 then (H (i + 1)).get k else curN H L X n k) = some b → (H (i + 1)).get k = some b := by
      intro k b hk hc
      by_cases hwk : k ∈ (L i).2
      · rw [if_pos hwk] at hc; exact hc
      · rw [if_neg hwk, hcur hk] at hc
        rw [canon_same hcall C hi hwk]; exact hc
    have inD : ∀ {k b}, k ∈ (L i).1 → (H (i + 1)).get k = some b → ((k ∈ (L i).1 ∧ k < (H i).nx) ∨ ((H i).nx ≤ k ∧ k < (H (i + 1)).nx)) := by
      intro k b hk hb
      have hlt := wf_at hcall C hwf (show i + 1 ≤ n by omega) k b hb
      by_cases h1 : k < (H i).nx
      · exact .inl ⟨hk, h1⟩
      · exact .inr ⟨by omega, hlt⟩
    -- one inside, one outside
    have mixed : ∀ {k k' b b' y y'}, (D k' ∨ ((H 0).nx ≤ k' ∧ k' < (H n).nx)) → k ∈ (L i).1 → k' ∉ (L i).1 → (H (i + 1)).get k = some b → curN H L X n k' = some b' → b.own → b'.own → σ' k = some y → σ' k' = some y' → y.1 ≠ y'.1 := by
      intro k k' b b' y y' hd' hk hk' hb hb' ho ho' hy hy'
      obtain ⟨z', z1, z2, _⟩ := BR_block (I.blk k' b' hd' hb') ho'
      have := t1.up.at' k' z' z1
      rw [hy'] at this; cases this
      have hkk : k ≠ k' := fun q => hk' (q ▸ hk)
      cases hs : σ k with
      | some y1 =>
        have q := t1.up.at' k y1 hs
        rw [hy] at q; cases q
        have hlt : k < (H i).nx := by
          rcases inD hk hb with q | q
          · exact q.2
          · rw [I.free i hi hX k q.1 q.2] at hs; cases hs
        obtain ⟨b0, o1, o2⟩ := tfc.own k hlt ⟨b, hb, ho⟩
        exact I.inj k k' b0 b' (hDD k hk hlt) hd' (by rw [hcur hk]; exact o1) hb' o2 ho' hkk y y' hs z1
      | none =>
        rcases t1.nw k y hs hy with q | ⟨k0, y0, q1, q2, q3, q4⟩
        · omega
        · obtain ⟨b0, o1, o2⟩ := q2
          have := I.inj k0 k' b0 b' (hDD k0 q1.1 q1.2) hd' (by rw [hcur q1.1]; exact o1) hb' o2 ho' (fun q => hk' (q ▸ q1.1)) y0 y' q3 z1
          rw [← q4]; exact this
    by_cases hk : k ∈ (L i).1
    · have hb := inside hk hc
      by_cases hk' : k' ∈ (L i).1
      · have hb' := inside hk' hc'
        exact t1.hr.inj k k' (inD hk hb) (inD hk' hb') ⟨b, hb, ho⟩ ⟨b', hb', ho'⟩ hne y y' hy hy'
      · rw [if_neg (fun q => hk' (canon_wl hcall C hi q))] at hc'
        exact mixed hd' hk hk' hb hc' ho ho' hy hy'
    · rw [if_neg (fun q => hk (canon_wl hcall C hi q))] at hc
      by_cases hk' : k' ∈ (L i).1
      · have hb' := inside hk' hc'
        exact (mixed hd hk' hk hb' hc ho' ho hy' hy).symm
      · rw [if_neg (fun q => hk' (canon_wl hcall C hi q))] at hc'
        obtain ⟨z, z1, _⟩ := BR_block (I.blk k b hd hc) ho
        obtain ⟨z', z1', _⟩ := BR_block (I.blk k' b' hd' hc') ho'
        have e1 := t1.up.at' k z z1
        have e2 := t1.up.at' k' z' z1'
        rw [hy] at e1; rw [hy'] at e2
        cases e1; cases e2
        exact I.inj k k' b b' hd hd' hc hc' ho ho' hne y y' z1 z1'
  · -- free
    have hji : j ≠ i := fun q => hXj (.inr q)
    refine t1.no k (I.free j hj (fun q => hXj (.inl q)) k x y) ?_
    rcases Nat.lt_or_ge j i with q | q
    · have := canon_nx_le hcall C (show j + 1 ≤ i by omega) (by omega)
      exact .inl (show k < (H i).nx by omega)
    · have := canon_nx_le hcall C (show i + 1 ≤ j by omega) (by omega)
      exact .inr (by omega)
  · -- env
    refine envR_congr ((I.env.mono t1.up).put hv (d := o.dst) fun k hk => ⟨by rw [I.size]; exact hsz k hk, C.small i r k hr (by rw [hdst]; exact hk)⟩) fun t => ?_
    rw [env_next C X hi hX hr t, hdst]
omit hρ hmeth hwf hfree hhand hg hob in
theorem inv_skip {X : Nat → Prop} [DecidablePred X] (hcl : ∀ j, X j → j < n ∧ ∀ i, M j i → X i) {i : Nat} (hi : i < n) (hX : ¬ X i) {σ : Emb} {a : Act} {w : World} (I : Inv ρ B n R E H V L D σ0 w0 a0 X σ a w)
    {r : RO} (hr : R i = some r) {o : Oper} (hdst : r.dst = o.dst) (hsz : ∀ k, o.dst = some k → k < a0.tmps.size) (hw : want r.guard (E i) = some false) : Inv ρ B n R E H V L D σ0 w0 a0 (fun j => X j ∨ j = i) σ (a.put o.dst undef) w := by
  rcases C.step i r hr with ⟨_, h2, h3, h4⟩ | ⟨q, _⟩
  · have hcn : ∀ k, curN H L (fun j => X j ∨ j = i) n k = curN H L X n k := fun k => by
      rw [cur_next hcall C X hcl hi hX, h4, if_neg (by simp)]
    refine
      { up := I.up, no := I.no, nw := I.nw, nm := I.nm, mem := fun b c e => ⟨(I.mem b c e).1, fun k bb y hd hc => (I.mem b c e).2 k bb y hd (by rw [← hcn]; exact hc)⟩, tl := I.tl, out := I.out, sz := I.sz, fr := I.fr, base := I.base
        blk := fun k b hd hc => I.blk k b hd (by rw [← hcn]; exact hc)
        inj := fun k k' b b' hd hd' hc hc' => I.inj k k' b b' hd hd' (by rw [← hcn]; exact hc) (by rw [← hcn]; exact hc')
        free := fun j hj hXj => I.free j hj (fun q => hXj (.inl q))
        env := envR_congr (I.env.put (v := .tu []) (x := undef) ⟨#[], rfl, rfl⟩ (d := o.dst) fun k hk => ⟨by rw [I.size]; exact hsz k hk, C.small i r k hr (by rw [hdst]; exact hk)⟩) fun t => by
          rw [env_next C X hi hX hr t, hdst, h2]
        size := by rw [put_size]; exact I.size
        defers := by rw [put_defers]; exact I.defers }
  · rw [q] at hw; cases hw
end
end Go.Proofs.YtgjfdbbghefdbaaGreatDoor.Sx
namespace Go.Proofs.YtgjfdbbghefdbaaGreatDoor.Sx
theorem mem_iff {k : Nat} : ∀ {l : List Nat}, mem k l = true ↔ k ∈ l
  | [] => by simp [mem]
  | j :: r => by
    unfold mem
    by_cases h : k = j
    · subst h; simp
    · rw [show Nat.beq k j = false from Bool.eq_false_iff.2 fun q => h (Nat.eq_of_beq_eq_true q)]
      rw [cond_false, mem_iff]
      simp [h]
theorem meets_iff : ∀ {l m : List Nat}, meets l m = true ↔ ∃ k, k ∈ l ∧ k ∈ m
  | [], m => by simp [meets]
  | k :: r, m => by
    unfold meets
    cases h : mem k m with
    | true =>
      rw [cond_true]
      exact ⟨fun _ => ⟨k, by simp, mem_iff.1 h⟩, fun _ => rfl⟩
    | false =>
      rw [cond_false, meets_iff]
      have hk : k ∉ m := fun q => by rw [mem_iff.2 q] at h; cases h
      constructor
      · rintro ⟨j, h1, h2⟩; exact ⟨j, List.mem_cons_of_mem _ h1, h2⟩
      · rintro ⟨j, h1, h2⟩
        rcases List.mem_cons.1 h1 with rfl | h1
        · exact absurd h2 hk
        · exact ⟨j, h1, h2⟩
theorem conf_of {x y : List Nat × List Nat} (h : (∃ k, k ∈ x.2 ∧ k ∈ y.1) ∨ (∃ k, k ∈ y.2 ∧ k ∈ x.1)) : conf x y = true := by
  unfold conf
  rcases h with h | h
  · rw [meets_iff.2 h]; rfl
  · rw [meets_iff.2 h]; cases meets x.2 y.1 <;> rfl
theorem okOne_spec {i : Nat} {x : List Nat × List Nat} : ∀ {anc : List Nat} {logs : List (List Nat × List Nat)}, okOne i x anc logs = true → ∀ (q a : Nat) (y : List Nat × List Nat), anc[q]? = some a → logs[q]? = some y → conf x y = true → Nat.testBit a i = true
  | [], _, _, q, a, y, h1, _, _ => by simp at h1
  | _ :: _, [], _, q, a, y, _, h2, _ => by simp at h2
  | a0 :: anc, y0 :: logs, h, q, a, y, h1, h2, h3 => by
    unfold okOne at h
    cases q with
    | zero =>
      simp only [List.getElem?_cons_zero, Option.some.injEq] at h1 h2
      subst h1; subst h2
      rw [h3, cond_true] at h
      cases ht : Nat.testBit a0 i with
      | true => rfl
      | false => rw [ht] at h; cases h
    | succ q =>
      simp only [List.getElem?_cons_succ] at h1 h2
      have : okOne i x anc logs = true := by
        cases hc : conf x y0 with
        | true =>
          rw [hc, cond_true] at h
          cases ht : Nat.testBit a0 i with
          | true => rw [ht] at h; exact h
          | false => rw [ht] at h; cases h
        | false => rw [hc] at h; exact h
      exact okOne_spec this q a y h1 h2 h3
theorem okPar_spec : ∀ {i : Nat} {anc : List Nat} {logs : List (List Nat × List Nat)}, okPar i anc logs = true → ∀ (p q a : Nat) (x y : List Nat × List Nat), p < q → anc[q]? = some a → logs[p]? = some x → logs[q]? = some y → conf x y = true → Nat.testBit a (i + p) = true
  | i, [], _, _, p, q, a, x, y, _, h1, _, _, _ => by simp at h1
  | i, _ :: _, [], _, p, q, a, x, y, _, _, h2, _, _ => by simp at h2
  | i, a0 :: anc, x0 :: logs, h, p, q, a, x, y, hpq, h1, h2, h3, h4 => by
    unfold okPar at h
    have ho : okOne i x0 anc logs = true ∧ okPar (i + 1) anc logs = true := by
      cases hc : okOne i x0 anc logs with
      | true => rw [hc] at h; exact ⟨rfl, h⟩
      | false => rw [hc] at h; cases h
    obtain ⟨q, rfl⟩ : ∃ q', q = q' + 1 := ⟨q - 1, by omega⟩
    simp only [List.getElem?_cons_succ] at h1 h3
    cases p with
    | zero =>
      simp only [List.getElem?_cons_zero, Option.some.injEq] at h2
      subst h2
      exact okOne_spec ho.1 q a y h1 h3 h4
    | succ p =>
      simp only [List.getElem?_cons_succ] at h2
      have := okPar_spec ho.2 p q a x y (by omega) h1 h2 h3 h4
      rw [show i + (p + 1) = i + 1 + p from by omega]; exact this
theorem notIn_spec {d : Option Nat} {l : List Nat} (h : notIn d l = true) : ∀ k, d = some k → k ∉ l := by
  rintro k rfl hk
  unfold notIn at h
  simp only [mem_iff.2 hk] at h
  cases h
theorem okStatOne_spec {i : Nat} {x : RO} : ∀ {anc : List Nat} {l : List RO}, okStatOne i x anc l = true → ∀ (q a : Nat) (y : RO), anc[q]? = some a → l[q]? = some y → (∀ d, x.dst = some d → y.dst ≠ some d) ∧ (Nat.testBit a i = true ∨ ((∀ d, x.dst = some d → d ∉ y.uses) ∧ (∀ d, y.dst = some d → d ∉ x.uses)))
  | [], _, _, q, a, y, h1, _ => by simp at h1
  | _ :: _, [], _, q, a, y, _, h2 => by simp at h2
  | a0 :: anc, y0 :: l, h, q, a, y, h1, h2 => by
    unfold okStatOne at h
    cases c1 : unlike x.dst y0.dst with
    | false => rw [c1] at h; cases h
    | true =>
    rw [c1, cond_true] at h
    cases c2 : cond (Nat.testBit a0 i) true (apartR x y0) with
    | false => rw [c2] at h; cases h
    | true =>
    rw [c2, cond_true] at h
    cases q with
    | zero =>
      simp only [List.getElem?_cons_zero, Option.some.injEq] at h1 h2
      subst h1; subst h2
      refine ⟨?_, ?_⟩
      · intro d hd hd'
        unfold unlike at c1
        rw [hd, hd'] at c1
        simp at c1
      · cases ht : Nat.testBit a0 i with
        | true => exact .inl rfl
        | false =>
          rw [ht, cond_false] at c2
          unfold apartR at c2
          cases c3 : notIn x.dst y0.uses with
          | false => rw [c3] at c2; cases c2
          | true =>
            rw [c3, cond_true] at c2
            exact .inr ⟨notIn_spec c3, notIn_spec c2⟩
    | succ q =>
      simp only [List.getElem?_cons_succ] at h1 h2
      exact okStatOne_spec h q a y h1 h2
theorem okStat_spec : ∀ {i : Nat} {anc : List Nat} {l : List RO}, okStat i anc l = true → ∀ (p q a : Nat) (x y : RO), p < q → anc[q]? = some a → l[p]? = some x → l[q]? = some y → (∀ d, x.dst = some d → y.dst ≠ some d) ∧ (Nat.testBit a (i + p) = true ∨ ((∀ d, x.dst = some d → d ∉ y.uses) ∧ (∀ d, y.dst = some d → d ∉ x.uses)))
  | i, [], _, _, p, q, a, x, y, _, h1, _, _ => by simp at h1
  | i, _ :: _, [], _, p, q, a, x, y, _, _, h2, _ => by simp at h2
  | i, a0 :: anc, x0 :: l, h, p, q, a, x, y, hpq, h1, h2, h3 => by
    unfold okStat at h
    have ho : okStatOne i x0 anc l = true ∧ okStat (i + 1) anc l = true := by
      cases hc : okStatOne i x0 anc l with
      | true => rw [hc] at h; exact ⟨rfl, h⟩
      | false => rw [hc] at h; cases h
    obtain ⟨q, rfl⟩ : ∃ q', q = q' + 1 := ⟨q - 1, by omega⟩
    simp only [List.getElem?_cons_succ] at h1 h3
    cases p with
    | zero =>
      simp only [List.getElem?_cons_zero, Option.some.injEq] at h2
      subst h2
      exact okStatOne_spec ho.1 q a y h1 h3
    | succ p =>
      simp only [List.getElem?_cons_succ] at h2
      have := okStat_spec ho.2 p q a x y (by omega) h1 h2 h3
      rw [show i + (p + 1) = i + 1 + p from by omega]; exact this
theorem maskOf_spec {i : Nat} {ms : List Nat} : ∀ {es : List Edge} {m : Nat}, maskOf i ms es = some m → (∀ e, e ∈ es → Region.binds .any e = true → e.on < i) ∧
    ∀ (q : Nat), Nat.testBit m q = true → ∃ e, e ∈ es ∧ Region.binds .any e = true ∧ (q = e.on ∨ ∃ mm, ms[e.on]? = some mm ∧ Nat.testBit mm q = true)
  | [], m, h => by cases h; exact ⟨fun e he => by simp at he, fun q hq => by simp at hq⟩
  | e :: r, m, h => by
    unfold maskOf at h
    split at h
    · cases h
    · rename_i m0 h0
      obtain ⟨i1, i2⟩ := maskOf_spec h0
      split at h
      · rename_i hb
        split at h
        · rename_i mm h1
          split at h
          · rename_i h2
            cases h
            refine ⟨fun x hx hxb => ?_, fun q hq => ?_⟩
            · rcases List.mem_cons.1 hx with rfl | hx
              · exact h2
              · exact i1 x hx hxb
            · rw [Nat.testBit_or, Nat.testBit_or, Nat.testBit_two_pow] at hq
              simp only [Bool.or_eq_true, decide_eq_true_eq] at hq
              rcases hq with hq | hq | hq
              · obtain ⟨x, x1, x2, x3⟩ := i2 q hq
                exact ⟨x, List.mem_cons_of_mem _ x1, x2, x3⟩
              · exact ⟨e, List.mem_cons_self .., hb, .inl hq.symm⟩
              · exact ⟨e, List.mem_cons_self .., hb, .inr ⟨mm, h1, hq⟩⟩
          · cases h
        · cases h
      · rename_i hb
        cases h
        refine ⟨fun x hx hxb => ?_, fun q hq => ?_⟩
        · rcases List.mem_cons.1 hx with rfl | hx
          · exact absurd hxb hb
          · exact i1 x hx hxb
        · obtain ⟨x, x1, x2, x3⟩ := i2 q hq
          exact ⟨x, List.mem_cons_of_mem _ x1, x2, x3⟩
theorem masksOf_spec : ∀ {ops : List Oper} {i : Nat} {ms out : List Nat}, masksOf i ms ops = some out → ms.length = i → out.length = i + ops.length ∧ (∀ j, j < i → out[j]? = ms[j]?) ∧
    ∀ j o, ops[j]? = some o → ∃ m, out[i + j]? = some m ∧ (∀ e, e ∈ o.after → Region.binds .any e = true → e.on < i + j) ∧ ∀ (q : Nat), Nat.testBit m q = true → ∃ e, e ∈ o.after ∧ Region.binds .any e = true ∧ (q = e.on ∨ ∃ mm, out[e.on]? = some mm ∧ Nat.testBit mm q = true)
  | [], i, ms, out, h, hl => by cases h; exact ⟨by simp [hl], fun _ _ => rfl, fun j o ho => by simp at ho⟩
  | o :: r, i, ms, out, h, hl => by
    unfold masksOf at h
    split at h
    · rename_i m h1
      obtain ⟨g1, g2, g3⟩ := masksOf_spec h (by simp [hl])
      have keep : ∀ j, j < i → out[j]? = ms[j]? := fun j hj => by
        rw [g2 j (by omega), List.getElem?_append_left (by omega)]
      refine ⟨by rw [g1]; simp; omega, keep, fun j o' ho => ?_⟩
      cases j with
      | zero =>
        simp only [List.getElem?_cons_zero, Option.some.injEq] at ho
        subst ho
        obtain ⟨s1, s2⟩ := maskOf_spec h1
        refine ⟨m, ?_, fun e he hb => s1 e (by simpa using he) hb, fun q hq => ?_⟩
        · rw [Nat.add_zero, g2 i (by omega), List.getElem?_append_right (by omega), hl]; simp
        · obtain ⟨e, e1, e2, e3⟩ := s2 q hq
          refine ⟨e, by simpa using e1, e2, ?_⟩
          have hlt := s1 e e1 e2
          rcases e3 with e3 | ⟨mm, e3, e4⟩
          · exact .inl e3
          · exact .inr ⟨mm, by rw [keep _ hlt]; exact e3, e4⟩
      | succ j =>
        simp only [List.getElem?_cons_succ] at ho
        obtain ⟨m', q1, q2, q3⟩ := g3 j o' ho
        exact ⟨m', by rw [show i + (j + 1) = i + 1 + j from by omega]; exact q1, fun e he hb => by have := q2 e he hb; omega, q3⟩
    · cases h
theorem evP_canon {meth : Meth} {call : CallT} : ∀ {rl : List RO} {e e' : Trie TV} {h h' : SH} {acc acc' : List (List Nat × List Nat)}, evP meth call rl e h acc = some (e', h', acc') → ∃ (E : Nat → Trie TV) (H : Nat → SH) (V : Nat → TV) (L : Nat → List Nat × List Nat),
    E 0 = e ∧ H 0 = h ∧ E rl.length = e' ∧ H rl.length = h' ∧ acc' = ((List.range rl.length).map L).reverse ++ acc ∧
    ∀ i r, rl[i]? = some r → ((want r.guard (E i) = some false ∧ V i = .tu [] ∧ H (i + 1) = H i ∧ L i = ([], [])) ∨
      (want r.guard (E i) = some true ∧ op1 meth call r.op (E i) (H i).fresh = some (V i, H (i + 1)) ∧ L i = ((H (i + 1)).lg, (H (i + 1)).wr))) ∧ E (i + 1) = putE (E i) r.dst (V i)
  | [], e, e', h, h', acc, acc', hx => by
    cases hx
    exact ⟨fun _ => e, fun _ => h, fun _ => .tu [], fun _ => ([], []), rfl, rfl, rfl, rfl, by simp, fun i r hr => by simp at hr⟩
  | r :: q, e, e', h, h', acc, acc', hx => by
    have build : ∀ (v : TV) (h1 : SH) (l : List Nat × List Nat), evP meth call q (putE e r.dst v) h1 (l :: acc) = some (e', h', acc') →
        ((want r.guard e = some false ∧ v = .tu [] ∧ h1 = h ∧ l = ([], [])) ∨ (want r.guard e = some true ∧ op1 meth call r.op e h.fresh = some (v, h1) ∧ l = (h1.lg, h1.wr))) →
        ∃ (E : Nat → Trie TV) (H : Nat → SH) (V : Nat → TV) (L : Nat → List Nat × List Nat),
        E 0 = e ∧ H 0 = h ∧ E (r :: q).length = e' ∧ H (r :: q).length = h' ∧ acc' = ((List.range (r :: q).length).map L).reverse ++ acc ∧
        ∀ i r', (r :: q)[i]? = some r' → ((want r'.guard (E i) = some false ∧ V i = .tu [] ∧ H (i + 1) = H i ∧ L i = ([], [])) ∨
          (want r'.guard (E i) = some true ∧ op1 meth call r'.op (E i) (H i).fresh = some (V i, H (i + 1)) ∧ L i = ((H (i + 1)).lg, (H (i + 1)).wr))) ∧ E (i + 1) = putE (E i) r'.dst (V i) := by
      intro v h1 l hq hs
      obtain ⟨E, H, V, L, a1, a2, a3, a4, a5, a6⟩ := evP_canon hq
      refine ⟨fun i => match i with | 0 => e | i + 1 => E i, fun i => match i with | 0 => h | i + 1 => H i, fun i => match i with | 0 => v | i + 1 => V i, fun i => match i with | 0 => l | i + 1 => L i, rfl, rfl, a3, a4, ?_, ?_⟩
      · rw [a5, List.length_cons, List.range_succ_eq_map, List.map_cons, List.map_map, List.reverse_cons, List.append_assoc]
        rfl
      · intro i r' hr
        cases i with
        | zero =>
          simp only [List.getElem?_cons_zero, Option.some.injEq] at hr
          subst hr
          refine ⟨?_, ?_⟩
          · rcases hs with ⟨s1, s2, s3, s4⟩ | ⟨s1, s2, s3⟩
            · exact .inl ⟨s1, s2, by show H 0 = h; rw [a2, s3], s4⟩
            · refine .inr ⟨s1, ?_, ?_⟩
              · show op1 meth call r.op e h.fresh = some (v, H 0)
                rw [a2]; exact s2
              · show l = ((H 0).lg, (H 0).wr)
                rw [a2]; exact s3
          · exact a1
        | succ i =>
          simp only [List.getElem?_cons_succ] at hr
          exact a6 i r' hr
    unfold evP at hx
    split at hx
    · cases hx
    · rename_i hw
      exact build _ _ _ hx (.inl ⟨hw, rfl, rfl, rfl⟩)
    · rename_i hw
      split at hx
      · rename_i v h1 e1
        exact build v h1 _ hx (.inr ⟨hw, e1, rfl⟩)
      · cases hx
end Go.Proofs.YtgjfdbbghefdbaaGreatDoor.Sx
namespace Go.Proofs.YtgjfdbbghefdbaaGreatDoor.Sx
theorem cROs_get {P : Program} {N : Nat} {ops : List Oper} : ∀ {l : List Oper} {rl : List RO}, cROs P N ops l = some rl → rl.length = l.length ∧ ∀ (i : Nat) (o : Oper), l[i]? = some o → ∃ r, rl[i]? = some r ∧ cRO P N ops o = some r
  | [], rl, h => by cases h; exact ⟨rfl, fun i o ho => by simp at ho⟩
  | o :: q, rl, h => by
    unfold cROs at h
    split at h
    · rename_i r rl' c1 c2
      cases h
      obtain ⟨g1, g2⟩ := cROs_get c2
      refine ⟨by simp [g1], fun i o' ho => ?_⟩
      cases i with
      | zero => simp only [List.getElem?_cons_zero, Option.some.injEq] at ho; subst ho; exact ⟨r, rfl, c1⟩
      | succ i => simp only [List.getElem?_cons_succ] at ho; simpa using g2 i o' ho
    · cases h
def done (n : Nat) (listed : Array Bool) (j : Nat) : Prop := j < n ∧ listed.getD j false = true
instance (n : Nat) (listed : Array Bool) : DecidablePred (done n listed) := fun j => by unfold done; exact inferInstance
theorem Inv.congr {ρ : Cx} {B : Nat} {n : Nat} {R : Nat → Option RO} {E : Nat → Trie TV} {H : Nat → SH} {V : Nat → TV} {L : Nat → List Nat × List Nat} {D : Nat → Prop} {σ0 : Emb} {w0 : World} {a0 : Act} {X Y : Nat → Prop} {i1 : DecidablePred X} {i2 : DecidablePred Y} {σ : Emb} {a : Act} {w : World}
    (I : Inv ρ B n R E H V L D σ0 w0 a0 X σ a w) (h : ∀ j, X j ↔ Y j) : Inv ρ B n R E H V L D σ0 w0 a0 Y σ a w := by
  obtain rfl : X = Y := funext fun j => propext (h j)
  obtain rfl : i1 = i2 := Subsingleton.elim _ _
  exact I
def left : List Bool → Nat
  | [] => 0
  | b :: r => (if b then 0 else 1) + left r
theorem left_zero : ∀ {l : List Bool}, left l = 0 → ∀ j : Nat, j < l.length → l[j]? = some true
  | [], _, j, h => by simp at h
  | b :: r, h, j, hj => by
    unfold left at h
    cases b with
    | false => simp at h
    | true =>
      cases j with
      | zero => rfl
      | succ j => simpa using left_zero (by simpa using h) j (by simpa using hj)
theorem left_set : ∀ {l : List Bool} {i : Nat}, l[i]? = some false → left (l.set i true) + 1 = left l
  | [], i, h => by simp at h
  | b :: r, 0, h => by
    simp only [List.getElem?_cons_zero, Option.some.injEq] at h
    subst h
    simp [left]; omega
  | b :: r, i + 1, h => by
    simp only [List.getElem?_cons_succ] at h
    have := left_set h
    simp only [List.set_cons_succ, left]
    omega
theorem left_least : ∀ {l : List Bool}, 0 < left l → ∃ i : Nat, l[i]? = some false ∧ ∀ j : Nat, j < i → l[j]? = some true
  | [], h => by simp [left] at h
  | false :: r, _ => ⟨0, rfl, fun j hj => absurd hj (by omega)⟩
  | true :: r, h => by
    obtain ⟨i, h1, h2⟩ := left_least (l := r) (by simpa [left] using h)
    refine ⟨i + 1, by simpa using h1, fun j hj => ?_⟩
    cases j with
    | zero => rfl
    | succ j => simpa using h2 j (by omega)
section
variable {P : Program} {ρ : Cx} {B : Nat} {meth : Meth} {call : CallT} (hρ : ∀ j, scalV (ρ j)) (hcall : CallOk P ρ B call) (hmeth : MethOk P ρ meth) {N : Nat} (hN : N ≤ 4000) {arr : Array Oper} {rl : List RO} (hc : cROs P N arr.toList arr.toList = some rl)
  {ms : List Nat} (hms : masksOf 0 [] arr.toList = some ms)
  {E : Nat → Trie TV} {H : Nat → SH} {V : Nat → TV} {L : Nat → List Nat × List Nat} (C : Canon meth call arr.size (fun i => rl[i]?) E H V L (fun j i => ∃ m, ms[j]? = some m ∧ Nat.testBit m i = true)) {D : Nat → Prop} {σ0 : Emb} {w0 : World} {a0 : Act} (hwf : ∀ k b, (H 0).get k = some b → k < (H 0).nx) (hfree : Free σ0 (H 0).nx (H arr.size).nx)
  (hhand : ∀ i, i < arr.size → ∀ k, k ∈ (L i).1 → k < (H 0).nx → D k) (hg : GlobR P σ0) (hob : AllOb P ρ (H arr.size).ob) (hs : N ≤ a0.tmps.size)
include hρ hcall hmeth hN hc hms C hwf hfree hhand hg hob hs
omit hN in
theorem any_ok (rr : Option Nat) {Q : Exit → Act → World → Prop} (hQ : ∀ σ a w, (∀ j, j < arr.size → True) → Inv ρ B arr.size (fun i => rl[i]?) E H V L D σ0 w0 a0 (fun j => j < arr.size) σ a w → Q .normal a w) :
    ∀ (fuel : Nat) (listed : Array Bool) (σ : Emb) (a : Act) (w : World), listed.size = arr.size → left listed.toList ≤ fuel → (∀ j, done arr.size listed j → ∀ i, (∃ m, ms[j]? = some m ∧ Nat.testBit m i = true) → done arr.size listed i) →
    Inv ρ B arr.size (fun i => rl[i]?) E H V L D σ0 w0 a0 (done arr.size listed) σ a w → wpAnyIn (FW rr) 0 P .any arr Q fuel listed a w := by
  obtain ⟨ml, _, mspec⟩ := masksOf_spec hms rfl
  obtain ⟨rlen, rget⟩ := cROs_get hc
  simp only [Array.length_toList, Nat.zero_add] at ml rlen mspec
  -- nothing may come: all is done
  have fin : ∀ {listed : Array Bool} {σ : Emb} {a : Act} {w : World}, listed.size = arr.size → Region.ready .any arr listed = [] → Inv ρ B arr.size (fun i => rl[i]?) E H V L D σ0 w0 a0 (done arr.size listed) σ a w → Q .normal a w := by
    intro listed σ a w hl hr I
    have all : left listed.toList = 0 := by
      rcases Nat.eq_zero_or_pos (left listed.toList) with q | q
      · exact q
      · obtain ⟨i, h1, h2⟩ := left_least q
        have hi : i < arr.size := by
          rcases Nat.lt_or_ge i arr.size with z | z
          · exact z
          · rw [List.getElem?_eq_none (by simpa [hl] using z)] at h1; cases h1
        have : i ∈ Region.ready .any arr listed := by
          rw [mem_ready]
          obtain ⟨m, q1, q2, q3⟩ := mspec i arr[i] (by simp [hi])
          rw [Array.getElem?_toList] at h1
          refine ⟨by rw [Array.getD_eq_getD_getElem?, h1]; rfl, arr[i], by simp [hi], fun e he hb => ?_⟩
          have := h2 e.on (q2 e he hb)
          rw [Array.getElem?_toList] at this
          rw [Array.getD_eq_getD_getElem?, this]; rfl
        rw [hr] at this
        cases this
    refine hQ σ a w (fun _ _ => trivial) (I.congr fun j => ?_)
    constructor
    · exact fun q => q.1
    · intro hj
      have := left_zero all j (by simpa [hl] using hj)
      rw [Array.getElem?_toList] at this
      exact ⟨hj, by rw [Array.getD_eq_getD_getElem?, this]; rfl⟩
  intro fuel
  induction fuel with
  | zero =>
    intro listed σ a w hl hleft hcl I
    have hr : Region.ready .any arr listed = [] := by
      have all := left_zero (show left listed.toList = 0 by omega)
      rw [List.eq_nil_iff_forall_not_mem]
      intro i hi
      rw [mem_ready] at hi
      obtain ⟨h1, o, h2, _⟩ := hi
      have hlt : i < arr.size := (Array.getElem?_eq_some_iff.1 h2).1
      have := all i (by simpa [hl] using hlt)
      rw [Array.getElem?_toList] at this
      rw [Array.getD_eq_getD_getElem?, this] at h1
      cases h1
    exact ⟨hr, fin hl hr I⟩
  | succ fuel ih =>
    intro listed σ a w hl hleft hcl I
    refine ⟨fun hr => fin hl hr I, fun i hi => ?_⟩
    rw [mem_ready] at hi
    obtain ⟨h1, o, h2, h3⟩ := hi
    have hlt : i < arr.size := (Array.getElem?_eq_some_iff.1 h2).1
    have hli : listed[i]? = some false := by
      rw [Array.getD_eq_getD_getElem?] at h1
      cases hq : listed[i]? with
      | none => rw [hq] at h1; cases h1
      | some b => rw [hq] at h1; simp only [Option.getD_some] at h1; rw [h1]
    have hXi : ¬ done arr.size listed i := fun q => by
      have := q.2
      rw [Array.getD_eq_getD_getElem?, hli] at this
      cases this
    obtain ⟨m, q1, q2, q3⟩ := mspec i o (by rw [Array.getElem?_toList]; exact h2)
    have hmask : ∀ j, (∃ m, ms[i]? = some m ∧ Nat.testBit m j = true) → done arr.size listed j := by
      rintro j ⟨m', z1, z2⟩
      rw [q1] at z1; cases z1
      obtain ⟨e, e1, e2, e3⟩ := q3 j z2
      have hon : done arr.size listed e.on := ⟨by have := q2 e e1 e2; omega, h3 e e1 e2⟩
      rcases e3 with rfl | ⟨mm, e3, e4⟩
      · exact hon
      · exact hcl e.on hon j ⟨mm, e3, e4⟩
    obtain ⟨r, hr, hcr⟩ := rget i o (by rw [Array.getElem?_toList]; exact h2)
    obtain ⟨k1, k2, k3, _⟩ := cRO_some hcr
    have hdst : ∀ k, o.dst = some k → k < a0.tmps.size := fun k hk => Nat.lt_of_lt_of_le (k3 k hk) hs
    have hsz' : (listed.setIfInBounds i true).size = arr.size := by simpa using hl
    have hleft' : left (listed.setIfInBounds i true).toList ≤ fuel := by
      have := left_set (l := listed.toList) (i := i) (by rw [Array.getElem?_toList]; exact hli)
      rw [Array.toList_setIfInBounds]
      omega
    have hnew : ∀ j, (done arr.size listed j ∨ j = i) ↔ done arr.size (listed.setIfInBounds i true) j := by
      intro j
      unfold done
      by_cases e : j = i
      · subst e
        have : (listed.setIfInBounds j true).getD j false = true := by
          rw [Array.getD_eq_getD_getElem?, Array.getElem?_setIfInBounds_self_of_lt (by omega)]; rfl
        exact ⟨fun _ => ⟨hlt, this⟩, fun _ => .inr rfl⟩
      · have : (listed.setIfInBounds i true).getD j false = listed.getD j false := by
          rw [Array.getD_eq_getD_getElem?, Array.getD_eq_getD_getElem?, Array.getElem?_setIfInBounds_ne (Ne.symm e)]
        rw [this]
        exact ⟨fun q => q.resolve_right e, fun q => .inl q⟩
    have hcl' : ∀ j, done arr.size (listed.setIfInBounds i true) j → ∀ i', (∃ m, ms[j]? = some m ∧ Nat.testBit m i' = true) → done arr.size (listed.setIfInBounds i true) i' := by
      intro j hj i' hm
      rw [← hnew] at hj
      rw [← hnew]
      rcases hj with hj | rfl
      · exact .inl (hcl j hj i' hm)
      · exact .inl (hmask i' hm)
    have hclX : ∀ j, done arr.size listed j → j < arr.size ∧ ∀ i, (∃ m, ms[j]? = some m ∧ Nat.testBit m i = true) → done arr.size listed i := fun j hj => ⟨hj.1, hcl j hj⟩
    unfold wpOpIn
    simp only [h2]
    have hE : ∀ b, want r.guard (E i) = some b → Region.wanted o (yielded arr a.tmps) = b := by
      intro b hb
      refine want_ok I.env hcr ?_
      rw [← hb]
      exact want_congr fun t ht => env_at C _ hclX hlt hXi hmask hr ht
    rcases C.step i r hr with ⟨z, _⟩ | ⟨z, _⟩
    · rw [hE false z]
      simp only [Bool.false_eq_true, if_false]
      exact ⟨fun _ _ => trivial, ih _ σ _ w hsz' hleft' hcl' ((inv_skip hcall C hclX hlt hXi I hr k1 hdst z).congr hnew)⟩
    · rw [hE true z]
      simp only [if_true]
      exact inv_step hρ hcall hmeth C hwf hfree hhand hg hob hclX hlt hXi hmask I hr k2 k1 hdst z rr fun σ' w' a' I' => ih _ σ' a' w' hsz' hleft' hcl' (I'.congr hnew)
end
end Go.Proofs.YtgjfdbbghefdbaaGreatDoor.Sx
namespace Go.Proofs.YtgjfdbbghefdbaaGreatDoor.Sx
theorem allLogs_1 {k : Nat} : ∀ {acc : List (List Nat × List Nat)}, k ∈ (allLogs acc).1 ↔ ∃ x, x ∈ acc ∧ k ∈ x.1
  | [] => by simp [allLogs]
  | x :: r => by
    unfold allLogs
    simp only [List.mem_append, List.mem_cons, allLogs_1]
    constructor
    · rintro (h | ⟨y, h1, h2⟩)
      · exact ⟨x, .inl rfl, h⟩
      · exact ⟨y, .inr h1, h2⟩
    · rintro ⟨y, rfl | h1, h2⟩
      · exact .inl h2
      · exact .inr ⟨y, h1, h2⟩
theorem allLogs_2 {k : Nat} : ∀ {acc : List (List Nat × List Nat)}, k ∈ (allLogs acc).2 ↔ ∃ x, x ∈ acc ∧ k ∈ x.2
  | [] => by simp [allLogs]
  | x :: r => by
    unfold allLogs
    simp only [List.mem_append, List.mem_cons, allLogs_2]
    constructor
    · rintro (h | ⟨y, h1, h2⟩)
      · exact ⟨x, .inl rfl, h⟩
      · exact ⟨y, .inr h1, h2⟩
    · rintro ⟨y, rfl | h1, h2⟩
      · exact .inl h2
      · exact .inr ⟨y, h1, h2⟩
section
variable {P : Program} {ρ : Cx} {B : Nat} {meth : Meth} {call : CallT} (hρ : ∀ j, scalV (ρ j)) (hcall : CallOk P ρ B call) (hmeth : MethOk P ρ meth) {N : Nat} (hN : N ≤ 4000)
include hN in
theorem par_canon {arr : Array Oper} {rl : List RO} (hc : cROs P N arr.toList arr.toList = some rl) {ms : List Nat} (hms : masksOf 0 [] arr.toList = some ms) (hst : okStat 0 ms rl = true) {e e' : Trie TV} {h h' : SH} {acc : List (List Nat × List Nat)}
    (hx : evP meth call rl e h [] = some (e', h', acc)) (hok : okPar 0 ms acc.reverse = true) : ∃ (E : Nat → Trie TV) (H : Nat → SH) (V : Nat → TV) (L : Nat → List Nat × List Nat),
    Canon meth call arr.size (fun i => rl[i]?) E H V L (fun j i => ∃ m, ms[j]? = some m ∧ Nat.testBit m i = true) ∧ E 0 = e ∧ H 0 = h ∧ E arr.size = e' ∧ H arr.size = h' ∧
    (∀ k, k ∈ (allLogs acc).1 ↔ ∃ i, i < arr.size ∧ k ∈ (L i).1) ∧ (∀ k, k ∈ (allLogs acc).2 ↔ ∃ i, i < arr.size ∧ k ∈ (L i).2) := by
  obtain ⟨ml, _, mspec⟩ := masksOf_spec hms rfl
  obtain ⟨rlen, rget⟩ := cROs_get hc
  simp only [Array.length_toList, Nat.zero_add] at ml rlen mspec
  obtain ⟨E, H, V, L, a1, a2, a3, a4, a5, a6⟩ := evP_canon hx
  rw [List.append_nil] at a5
  rw [rlen] at a3 a4 a5
  have hlog : ∀ i, i < arr.size → acc.reverse[i]? = some (L i) := fun i hi => by
    rw [a5, List.reverse_reverse, List.getElem?_map, List.getElem?_range hi]; rfl
  have hmem : ∀ x, x ∈ acc ↔ ∃ i, i < arr.size ∧ x = L i := fun x => by
    rw [a5, List.mem_reverse, List.mem_map]
    constructor
    · rintro ⟨i, h1, rfl⟩; exact ⟨i, List.mem_range.1 h1, rfl⟩
    · rintro ⟨i, h1, rfl⟩; exact ⟨i, List.mem_range.2 h1, rfl⟩
  have hmask : ∀ j, j < arr.size → ∃ m, ms[j]? = some m := fun j hj => ⟨ms[j], List.getElem?_eq_getElem (by omega)⟩
  refine ⟨E, H, V, L, ?_, a1, a2, a3, a4, fun k => ?_, fun k => ?_⟩
  · refine
      { step := fun i r hr => (a6 i r hr).1
        env := fun i r hr => (a6 i r hr).2
        any := fun i hi => ⟨rl[i], List.getElem?_eq_getElem (by omega)⟩
        small := fun i r d hr hd => ?_
        conf := fun i j hij hj hcf => ?_
        stat := fun i j ri rj hij hj hi' hj' => ?_ }
    · have hi : i < arr.size := by
        rcases Nat.lt_or_ge i arr.size with q | q
        · exact q
        · rw [List.getElem?_eq_none (by omega)] at hr; cases hr
      obtain ⟨r', h1, h2⟩ := rget i arr[i] (by simp [hi])
      rw [hr] at h1; cases h1
      obtain ⟨k1, _, k3, _⟩ := cRO_some h2
      exact Nat.lt_of_lt_of_le (k3 d (by rw [← k1]; exact hd)) hN
    · obtain ⟨m, hm⟩ := hmask j hj
      refine ⟨m, hm, ?_⟩
      have := okPar_spec hok i j m (L i) (L j) hij hm (hlog i (by omega)) (hlog j hj) (conf_of hcf)
      rwa [Nat.zero_add] at this
    · obtain ⟨m, hm⟩ := hmask j hj
      obtain ⟨s1, s2⟩ := okStat_spec hst i j m ri rj hij hm hi' hj'
      rw [Nat.zero_add] at s2
      exact ⟨s1, s2.imp (fun q => ⟨m, hm, q⟩) id⟩
  · rw [allLogs_1]
    constructor
    · rintro ⟨x, h1, h2⟩
      obtain ⟨i, h3, rfl⟩ := (hmem x).1 h1
      exact ⟨i, h3, h2⟩
    · rintro ⟨i, h1, h2⟩
      exact ⟨L i, (hmem _).2 ⟨i, h1, rfl⟩, h2⟩
  · rw [allLogs_2]
    constructor
    · rintro ⟨x, h1, h2⟩
      obtain ⟨i, h3, rfl⟩ := (hmem x).1 h1
      exact ⟨i, h3, h2⟩
    · rintro ⟨i, h1, h2⟩
      exact ⟨L i, (hmem _).2 ⟨i, h1, rfl⟩, h2⟩
include hcall in
theorem canon_whole {n : Nat} {R : Nat → Option RO} {E : Nat → Trie TV} {H : Nat → SH} {V : Nat → TV} {L : Nat → List Nat × List Nat} {M : Nat → Nat → Prop} (C : Canon meth call n R E H V L M) {lg wr : List Nat}
    (h1 : ∀ k, k ∈ lg ↔ ∃ i, i < n ∧ k ∈ (L i).1) (h2 : ∀ k, k ∈ wr ↔ ∃ i, i < n ∧ k ∈ (L i).2) : TF (H 0) ⟨(H n).tr, (H n).nx, lg ++ (H 0).lg, wr ++ (H 0).wr, (H n).md, (H n).pa, (H n).ob⟩ where
  nx := canon_nx_le hcall C (Nat.zero_le n) (Nat.le_refl _)
  lg := fun k hk => List.mem_append_right _ hk
  wr := fun k hk => List.mem_append_right _ hk
  wl := fun k hk => by
    rcases List.mem_append.1 hk with q | q
    · obtain ⟨i, q1, q2⟩ := (h2 k).1 q
      exact .inr (List.mem_append_left _ ((h1 k).2 ⟨i, q1, canon_wl hcall C q1 q2⟩))
    · exact .inl q
  nl := fun k a b => by
    refine List.mem_append_left _ ((h2 k).2 ?_)
    have go : ∀ m, m ≤ n → k < (H m).nx → ∃ i, i < n ∧ k ∈ (L i).2 := by
      intro m
      induction m with
      | zero => intro _ q; omega
      | succ m ih =>
        intro hm q
        by_cases hk : k < (H m).nx
        · exact ih (by omega) hk
        · exact ⟨m, by omega, (canon_tf hcall C (show m < n by omega)).nl k (by show (H m).nx ≤ k; omega) q⟩
    exact go n (Nat.le_refl _) b
  same := fun k hk => by
    have go : ∀ m, m ≤ n → (H m).get k = (H 0).get k := by
      intro m
      induction m with
      | zero => exact fun _ => rfl
      | succ m ih =>
        intro hm
        rw [canon_same hcall C (show m < n by omega) (fun q => hk (List.mem_append_left _ ((h2 k).2 ⟨m, by omega, q⟩))), ih (by omega)]
    exact go n (Nat.le_refl _)
  own := fun k hk ho => canon_own hcall C (Nat.zero_le n) (Nat.le_refl _) hk ho
  ob := fun o ho => canon_ob hcall C (Nat.zero_le n) (Nat.le_refl _) o ho
  wf := fun hwf => wf_at hcall C hwf (Nat.le_refl n)
include hρ hcall hmeth hN in
theorem par_ok (hmix : P.follows .mixedOrders = true) {id : Nat} {arr : Array Oper} {rl : List RO} (hc : cROs P N arr.toList arr.toList = some rl) {ms : List Nat} (hms : masksOf 0 [] arr.toList = some ms) (hst : okStat 0 ms rl = true) {e e' : Trie TV} {h h' : SH} {acc : List (List Nat × List Nat)}
    (hx : evP meth call rl e h [] = some (e', h', acc)) (hok : okPar 0 ms acc.reverse = true) :
    TF h ⟨h'.tr, h'.nx, (allLogs acc).1 ++ h.lg, (allLogs acc).2 ++ h.wr, h'.md, h'.pa, h'.ob⟩ ∧ ∀ (rr : Option Nat) {D : Nat → Prop} {σ : Emb} {w : World} {a : Act} {Q : Exit → Act → World → Prop}, AllOb P ρ h'.ob → HR ρ B D σ h w → GlobR P σ → Free σ h.nx h'.nx → Hand D h ⟨h'.tr, h'.nx, (allLogs acc).1 ++ h.lg, (allLogs acc).2 ++ h.wr, h'.md, h'.pa, h'.ob⟩ →
      EnvR ρ σ e a.tmps → N ≤ a.tmps.size → (∀ a' w', After ρ B D σ h w a e' ⟨h'.tr, h'.nx, (allLogs acc).1 ++ h.lg, (allLogs acc).2 ++ h.wr, h'.md, h'.pa, h'.ob⟩ a' w' → Q .normal a' w') → (Code.region id arr true).wpIn (FW rr) 0 P Q a w := by
  obtain ⟨E, H, V, L, C, rfl, rfl, rfl, rfl, hl1, hl2⟩ := par_canon hN hc hms hst hx hok
  refine ⟨canon_whole hcall C hl1 hl2, fun rr {D σ w a Q} hob hr hg hf hd he hs hQ => wpIn_region_any hmix ?_⟩
  have hr1 : HR ρ B D σ (H 0) { w with drawn := w.drawn + 1 } := hr.of_heap rfl
  have hw1 : ({ w with drawn := w.drawn + 1 } : World).heap = w.heap := rfl
  have hhand : ∀ i, i < arr.size → ∀ k, k ∈ (L i).1 → k < (H 0).nx → D k := fun i hi k hk hlt => hd k (List.mem_append_left _ ((hl1 k).2 ⟨i, hi, hk⟩)) hlt
  -- nothing is done
  have none_done : ∀ j, ¬ done arr.size (Array.replicate arr.size false) j := by
    rintro j ⟨h1, h2⟩
    rw [Array.getD_eq_getD_getElem?, Array.getElem?_replicate, if_pos h1] at h2
    cases h2
  have cur0 : ∀ m k, curN H L (done arr.size (Array.replicate arr.size false)) m k = (H 0).get k := by
    intro m k
    induction m with
    | zero => rfl
    | succ m ih => unfold curN; rw [if_neg (fun q => none_done m q.1), ih]
  have env0 : ∀ m, envN E (fun i => rl[i]?) V (done arr.size (Array.replicate arr.size false)) m = E 0 := by
    intro m
    induction m with
    | zero => rfl
    | succ m ih => unfold envN; rw [if_neg (none_done m), ih]
  have I0 : Inv ρ B arr.size (fun i => rl[i]?) E H V L D σ { w with drawn := w.drawn + 1 } a (done arr.size (Array.replicate arr.size false)) σ a { w with drawn := w.drawn + 1 } :=
    { up := Emb.le.refl _
      no := fun _ x _ => x
      nw := fun k y x z => by rw [x] at z; cases z
      nm := fun b c e => .inl e
      mem := fun b c e => ⟨(hr1.mem b c e).1, fun k bb y hdk hb ho hy => by
        rw [cur0] at hb
        have hlt := hr1.wf k bb hb
        exact (hr1.mem b c e).2 k y (hdk.resolve_right fun q => by omega) ⟨bb, hb, ho⟩ hy⟩
      tl := hr1.tl
      out := Out.refl _
      sz := Nat.le_refl _
      fr := fun _ _ _ => rfl
      base := hr1.base
      blk := fun k b hdk hb => by
        rw [cur0] at hb
        have hlt := hr1.wf k b hb
        exact hr1.blk k b (hdk.resolve_right fun q => by omega) hb
      inj := fun k k' b b' hdk hdk' hb hb' ho ho' hne => by
        rw [cur0] at hb hb'
        have hlt := hr1.wf k b hb
        have hlt' := hr1.wf k' b' hb'
        exact hr1.inj k k' (hdk.resolve_right fun q => by omega) (hdk'.resolve_right fun q => by omega) ⟨b, hb, ho⟩ ⟨b', hb', ho'⟩ hne
      free := fun i hi _ k x y => hf k (Nat.le_trans (canon_nx_le hcall C (Nat.zero_le i) (by omega)) x) (Nat.lt_of_lt_of_le y (canon_nx_le hcall C (show i + 1 ≤ arr.size by omega) (Nat.le_refl _)))
      env := by rw [env0]; exact he
      size := rfl
      defers := rfl }
  have hleft : left (Array.replicate arr.size false).toList ≤ arr.size := by
    rw [Array.toList_replicate]
    have : ∀ m, left (List.replicate m false) = m := by
      intro m
      induction m with
      | zero => rfl
      | succ m ih => rw [List.replicate_succ, left, ih]; simp; omega
    rw [this]; exact Nat.le_refl _
  refine any_ok hρ hcall hmeth hc hms C hr1.wf hf hhand hg hob hs rr ?_ arr.size _ σ a _ (by simp) hleft (fun j hj => absurd hj (none_done j)) I0
  intro σ' a' w' _ I
  -- all is done
  have curA : ∀ m, m ≤ arr.size → ∀ k, curN H L (fun j => j < arr.size) m k = (H m).get k := by
    intro m
    induction m with
    | zero => exact fun _ _ => rfl
    | succ m ih =>
      intro hm k
      unfold curN
      by_cases hw : k ∈ (L m).2
      · rw [if_pos ⟨by omega, hw⟩]
      · rw [if_neg (fun q => hw q.2), ih (by omega), canon_same hcall C (show m < arr.size by omega) hw]
  have envA : ∀ m, m ≤ arr.size → envN E (fun i => rl[i]?) V (fun j => j < arr.size) m = E m := by
    intro m
    induction m with
    | zero => exact fun _ => rfl
    | succ m ih =>
      intro hm
      obtain ⟨r, hrm⟩ := C.any m (by omega)
      unfold envN
      rw [if_pos (show m < arr.size by omega)]
      simp only [hrm]
      rw [ih (by omega), C.env m r hrm]
  refine hQ a' w' ⟨σ', ?_, by have := I.env; rw [envA _ (Nat.le_refl _)] at this; exact this, I.size, I.defers⟩
  refine
    { up := I.up, no := I.no
      nw := fun k y x z => by rw [← hw1]; exact I.nw k y x z
      nm := fun b c e => I.nm b c e
      out := I.out
      sz := I.sz
      fr := fun b hb hn => I.fr b hb hn
      hr := ⟨I.base, wf_at hcall C hr1.wf (Nat.le_refl _), fun k b hdk hb => I.blk k b hdk (by rw [curA _ (Nat.le_refl _)]; exact hb), fun k k' hdk hdk' ho ho' hne => ?_, fun b c e => ⟨(I.mem b c e).1, fun k y hdk ho hy => ?_⟩, I.tl⟩ }
  · obtain ⟨b, b1, b2⟩ := ho
    obtain ⟨b', b3, b4⟩ := ho'
    exact I.inj k k' b b' hdk hdk' (by rw [curA _ (Nat.le_refl _)]; exact b1) (by rw [curA _ (Nat.le_refl _)]; exact b3) b2 b4 hne
  · obtain ⟨bb, b1, b2⟩ := ho
    exact (I.mem b c e).2 k bb y hdk (by rw [curA _ (Nat.le_refl _)]; exact b1) b2 hy
end
end Go.Proofs.YtgjfdbbghefdbaaGreatDoor.Sx
namespace Go.Proofs.YtgjfdbbghefdbaaGreatDoor.Sx
theorem wpIn_scope_straight {F : Fence} {n : Nat} {P : Program} {Q : Exit → Act → World → Prop} {a : Act} {w : World} {c : Code} (h : c.wpIn F n P (Exit.noGoto Q) a w) : (Code.scope c).wpIn F n P Q a w := by
  intro b k cs hro hb hr
  have h0 : (lone (b.atR a (.code (.scope c) :: k)) cs w).fenced P F := fenced_calm hb hr rfl
  obtain ⟨e, a₁, w₁, hq, harr⟩ := h b (.inScope c :: k) cs hro hb hr
  have hs : step P (lone (b.atR a (.code (.scope c) :: k)) cs w) = .next (lone (b.atR a (.code c :: .inScope c :: k)) cs w) := step_lone_go (by simp [stepG, stepG.exec, Frame.atR])
  have hi : ∀ a w, step P (lone (b.atR a (.inScope c :: k)) cs w) = .next (lone (b.atR a k) cs w) := fun a w => step_lone_go (by simp [stepG, stepG.exec, Frame.atR])
  cases e with
  | normal => exact ⟨.normal, a₁, w₁, hq, .head h0 hs (StepsIn.trans harr (.one (fenced_calm hb hr rfl) (hi _ _)))⟩
  | exit id =>
    have hx : exitTo id (.inScope c :: k) = exitTo id k := by simp [exitTo]
    exact ⟨.exit id, a₁, w₁, hq, fun k' hk => .head h0 hs (harr.1 k' (by rw [hx]; exact hk)), fun hr' hk => let ⟨k₁, h1, h2⟩ := harr.2 hr' (by rw [hx]; exact hk); ⟨k₁, h1, .head h0 hs h2⟩⟩
  | goto l => exact hq.elim
  | ret => exact ⟨_, a₁, w₁, hq, .of_steps (.one h0 hs) harr⟩
  | panic ch => exact ⟨_, a₁, w₁, hq, .of_steps (.one h0 hs) harr⟩
  | outgrown => exact ⟨_, a₁, w₁, hq, .of_steps (.one h0 hs) harr⟩
theorem Tr.monoD {ρ : Cx} {B : Nat} {D D' : Nat → Prop} {σ σ' : Emb} {h h' : SH} {w w' : World} (q : Tr ρ B D σ h w σ' h' w') (h1 : ∀ k, D k → D' k) (h2 : ∀ k, D' k → D k ∨ (h.nx ≤ k ∧ k < h'.nx)) : Tr ρ B D' σ h w σ' h' w' where
  up := q.up
  no := q.no
  nw := fun k y a b => (q.nw k y a b).imp id fun ⟨k0, y0, c1, c2⟩ => ⟨k0, y0, h1 k0 c1, c2⟩
  nm := fun b c e => (q.nm b c e).imp id fun x => x.imp id fun ⟨k0, y0, c1, c2⟩ => ⟨k0, y0, h1 k0 c1, c2⟩
  out := q.out
  sz := q.sz
  fr := fun b hb hn => q.fr b hb fun k y hd => hn k y (h1 k hd)
  hr := q.hr.mono fun k x => x.elim (h2 k) .inr
theorem TF.relog {h h1 : SH} (t : TF h.fresh h1) (lg wr : List Nat) : TF ⟨h.tr, h.nx, lg, wr, h.md, h.pa, h.ob⟩ ⟨h1.tr, h1.nx, h1.lg ++ lg, h1.wr ++ wr, h1.md, h1.pa, h1.ob⟩ where
  nx := t.nx
  lg := fun k hk => List.mem_append_right _ hk
  wr := fun k hk => List.mem_append_right _ hk
  wl := fun k hk => by
    rcases List.mem_append.1 hk with q | q
    · rcases t.wl k q with z | z
      · cases z
      · exact .inr (List.mem_append_left _ z)
    · exact .inl q
  nl := fun k a b => List.mem_append_left _ (t.nl k a b)
  same := fun k hk => t.same k fun q => hk (List.mem_append_left _ q)
  own := t.own
  ob := t.ob
  wf := t.wf
abbrev mkD (r : Nat) : Deferred := { target := .collected r, args := #[] }
def MarkR (σ : Emb) : List Nat → List Nat → Prop
  | [], rs => rs = []
  | d :: r, rs => ∃ y q, σ d = some y ∧ rs = y.1 :: q ∧ MarkR σ r q
theorem MarkR.mono {σ σ' : Emb} (h : σ.le σ') : ∀ {ms rs : List Nat}, MarkR σ ms rs → MarkR σ' ms rs
  | [], _, q => q
  | _ :: _, _, ⟨y, q, h1, h2, h3⟩ => ⟨y, q, h.at' _ _ h1, h2, h3.mono h⟩
theorem MarkR.append {σ : Emb} : ∀ {ms ns rs qs : List Nat}, MarkR σ ms rs → MarkR σ ns qs → MarkR σ (ms ++ ns) (rs ++ qs)
  | [], _, _, _, h, k => by cases h; exact k
  | _ :: _, _, _, _, ⟨y, q, h1, h2, h3⟩, k => by subst h2; exact ⟨y, q ++ _, h1, rfl, h3.append k⟩
def AfterM (ρ : Cx) (B : Nat) (D : Nat → Prop) (σ : Emb) (h : SH) (w : World) (a : Act) (e' : Trie TV) (h' : SH) (ms : List Nat) (a' : Act) (w' : World) : Prop :=
  ∃ σ', Tr ρ B D σ h w σ' h' w' ∧ EnvR ρ σ' e' a'.tmps ∧ a'.tmps.size = a.tmps.size ∧ ∃ rs, a'.defers = rs.map mkD ++ a.defers ∧ MarkR σ' ms rs
theorem After.toM {ρ : Cx} {B : Nat} {D : Nat → Prop} {σ : Emb} {h h' : SH} {w w' : World} {a a' : Act} {e' : Trie TV} (x : After ρ B D σ h w a e' h' a' w') : AfterM ρ B D σ h w a e' h' [] a' w' := by
  obtain ⟨σ', x1, x2, x3, x4⟩ := x
  exact ⟨σ', x1, x2, x3, [], x4, rfl⟩
theorem AfterM.trans {ρ : Cx} {B : Nat} {D : Nat → Prop} {σ σ1 : Emb} {h h1 h2 : SH} {w w1 w2 : World} {a a1 a2 : Act} {e2 : Trie TV} {m1 m2 : List Nat} {rs1 : List Nat} (f : TF h h1) (t : Tr ρ B D σ h w σ1 h1 w1) (g : TF h1 h2) (hf : Free σ h.nx h2.nx) (s : a1.tmps.size = a.tmps.size) (d : a1.defers = rs1.map mkD ++ a.defers) (dm : MarkR σ1 m1 rs1)
    (x : AfterM ρ B (fun k => D k ∨ (h.nx ≤ k ∧ k < h1.nx)) σ1 h1 w1 a1 e2 h2 m2 a2 w2) : AfterM ρ B D σ h w a e2 h2 (m2 ++ m1) a2 w2 := by
  obtain ⟨σ2, x1, x2, x3, rs, x4, x5⟩ := x
  exact ⟨σ2, t.trans f g x1 hf, x2, x3.trans s, rs ++ rs1, by rw [x4, d, List.map_append, List.append_assoc], x5.append (dm.mono x1.up)⟩
def RdR (σ : Emb) (rd : Option Nat) (rr : Option Nat) : Prop :=
  match rd with
  | none => rr = none
  | some k => ∃ y, σ k = some y ∧ rr = some y.1
theorem RdR.mono {σ σ' : Emb} (h : σ.le σ') {rd rr : Option Nat} (x : RdR σ rd rr) : RdR σ' rd rr := by
  cases rd with
  | none => exact x
  | some k => obtain ⟨y, h1, h2⟩ := x; exact ⟨y, h.at' _ _ h1, h2⟩
section
variable {P : Program} {ρ : Cx} {B : Nat} {meth : Meth} {call : CallT} (hρ : ∀ j, scalV (ρ j)) (hcall : CallOk P ρ B call) (hmeth : MethOk P ρ meth) (hmix : P.follows .mixedOrders = true) {N : Nat} (hN : N ≤ 4000)
def CodeOk (P : Program) (ρ : Cx) (B : Nat) (N : Nat) (rd : Option Nat) (h : SH) (e' : Trie TV) (h' : SH) (e : Trie TV) (ex : EX) (ms : List Nat) (p : Option Nat → (Exit → Act → World → Prop) → Act → World → Prop) : Prop :=
  ∀ (D : Nat → Prop) (σ : Emb) (w : World) (a : Act) (Q : Exit → Act → World → Prop) (rr : Option Nat), RdR σ rd rr → AllOb P ρ h'.ob → HR ρ B D σ h w → GlobR P σ → Free σ h.nx h'.nx → Hand D h h' → EnvR ρ σ e a.tmps → N ≤ a.tmps.size →
    (∀ a' w', AfterM ρ B D σ h w a e' h' ms a' w' → Q (exOf ex) a' w') → p rr Q a w
theorem lpNew_tf {rd : Option Nat} {N : Nat} {ps : List Nat} {as bd : IC} {e : Trie TV} {h h1 : SH} {l : Nat} {ms : List Nat} (hx : evC.lpNew rd N ps as bd e h = some (l, ms, h1)) : TF h h1 := by
  unfold evC.lpNew at hx
  split at hx
  · obtain ⟨c, hx⟩ := cond_none hx
    cases hx
    have c := blt_lt c
    exact (TF.new (b := .df) (by omega)).trans (TF.new (h := h.new .df) (by show h.nx + 1 < _; omega))
  · split at hx
    · obtain ⟨c, hx⟩ := cond_none hx
      cases hx
      exact (TF.see _ _).trans (TF.new (h := h.see _) (blt_lt c))
    · cases hx
include hcall in
theorem evP_tf {h0 : SH} : ∀ {l : List RO} {e e' : Trie TV} {h h' : SH} {acc acc' : List (List Nat × List Nat)}, evP meth call l e h acc = some (e', h', acc') → TF h0 ⟨h.tr, h.nx, (allLogs acc).1 ++ h0.lg, (allLogs acc).2 ++ h0.wr, h.md, h.pa, h.ob⟩ →
    TF h0 ⟨h'.tr, h'.nx, (allLogs acc').1 ++ h0.lg, (allLogs acc').2 ++ h0.wr, h'.md, h'.pa, h'.ob⟩
  | [], e, e', h, h', acc, acc', hx, t => by cases hx; exact t
  | r :: q, e, e', h, h', acc, acc', hx, t => by
    unfold evP at hx
    split at hx
    · cases hx
    · exact evP_tf hx t
    · split at hx
      · rename_i v h1 e1
        refine evP_tf hx (t.trans ?_)
        have := (tf_op1 hcall e1).relog ((allLogs acc).1 ++ h0.lg) ((allLogs acc).2 ++ h0.wr)
        rw [show (allLogs ((h1.lg, h1.wr) :: acc)) = (h1.lg ++ (allLogs acc).1, h1.wr ++ (allLogs acc).2) from rfl]
        simp only [List.append_assoc]
        exact this
      · cases hx
theorem moreI {m : List Nat} {o : Option (EX × Trie TV × SH × List Nat)} {ex : EX} {e' : Trie TV} {h' : SH} {ms : List Nat} (hx : evC.more m o = some (ex, e', h', ms)) : ∃ m', o = some (ex, e', h', m') ∧ ms = m' ++ m := by
  cases o with
  | none => cases hx
  | some q => obtain ⟨q1, q2, q3, q4⟩ := q; cases hx; exact ⟨q4, rfl, rfl⟩
include hcall in
theorem evC_tf (rd : Option Nat) : ∀ (fuel : Nat) (x : IC) (e e' : Trie TV) (h h' : SH) (ex : EX) (ms : List Nat), evC meth call rd fuel x e h = some (ex, e', h', ms) → TF h h' := by
  intro fuel
  induction fuel with
  | zero => intro x e e' h h' ex ms hx; cases hx
  | succ n ih =>
    intro x e e' h h' ex ms hx
    cases x with
    | skip => cases hx; exact TF.refl _
    | exit id => cases hx; exact TF.refl _
    | ret => cases hx; exact TF.refl _
    | bad => cases hx
    | reg l =>
      simp only [evC] at hx
      split at hx
      · rename_i q1; cases hx; exact tf_evR hcall q1
      · cases hx
    | par l anc =>
      simp only [evC] at hx
      split at hx
      · rename_i q1
        split at hx
        · cases hx
          exact evP_tf hcall q1 (by simpa [allLogs] using TF.refl h)
        · cases hx
      · cases hx
    | seq a b =>
      simp only [evC] at hx
      split at hx
      · rename_i q1
        obtain ⟨m2, hx2, rfl⟩ := moreI hx
        exact (ih _ _ _ _ _ _ _ q1).trans (ih _ _ _ _ _ _ _ hx2)
      · exact ih _ _ _ _ _ _ _ hx
    | cond c a b =>
      simp only [evC] at hx
      split at hx
      · exact ih _ _ _ _ _ _ _ hx
      · exact ih _ _ _ _ _ _ _ hx
      · cases hx
    | blk id c =>
      simp only [evC] at hx
      split at hx
      · rename_i q1; cases hx; exact ih _ _ _ _ _ _ _ q1
      · exact ih _ _ _ _ _ _ _ hx
    | loop c =>
      simp only [evC] at hx
      split at hx
      · rename_i q1
        obtain ⟨m2, hx2, rfl⟩ := moreI hx
        exact (ih _ _ _ _ _ _ _ q1).trans (ih _ _ _ _ _ _ _ hx2)
      · exact ih _ _ _ _ _ _ _ hx
    | scope c => simp only [evC] at hx; exact ih _ _ _ _ _ _ _ hx
    | rng N f ps as bd =>
      simp only [evC] at hx
      split at hx
      · split at hx
        · rename_i en
          split at hx
          · rename_i ec
            split at hx
            · rename_i el
              cases hst : Nat.beq _ 1 with
              | true => rw [hst] at hx; cases hx
              | false =>
              rw [hst, cond_false] at hx
              obtain ⟨hl, hx⟩ := cond_none hx
              cases hx
              exact (lpNew_tf en).trans ((hcall.fn _ _ _ _ _ ec).1.trans (TF.wrt (blt_lt hl) el fun x => False.elim x))
            · cases hx
          · cases hx
        · cases hx
      · cases hx
include hcall hmeth hN in
theorem rng_ok {rd : Option Nat} {f : Operand} {ps : Array Tmp} {as bd : Code} {f' : Opd} {xa xb : IC} (hcf : cOpd P f = some f') (hca : cCode P N as = some xa) (hcb : cCode P N bd = some xb) (hps : ps.toList.all (fun p => Nat.blt p N) = true)
    {e : Trie TV} {g : Nat} {cap : List TV} (ef : f'.ev e = .f (.func g) [] cap) {h h1 h2 : SH} {l : Nat} {ms : List Nat} (en : evC.lpNew rd N ps.toList xa xb e h = some (l, ms, h1)) {v0 : TV} (ecall : call (.fn g) (.y l :: cap) h1 = some (v0, h2))
    {n2 : Nat} {ps2 : List Nat} {as2 bd2 : IC} {e2 : Trie TV} {st : Nat} {pd : EX} (elp : h2.get l = some (.lp n2 ps2 as2 bd2 e2 st pd)) (hst : Nat.beq st 1 = false) (hl4 : l < 4000000) :
    CodeOk P ρ B N rd h e (h2.wrt l .dead) e pd ms (fun rr Q => (Code.rangeFunc f ps as bd).wpIn (FW rr) 0 P Q) := by
  intro D σ w a Q rr rx r0 r1 r2 r3 r4 r5 r6 r7
  have tf1 := lpNew_tf en
  obtain ⟨tf2, k2⟩ := hcall.fn _ _ _ _ _ ecall
  have tf3 : TF h2 (h2.wrt l .dead) := TF.wrt hl4 elp fun x => False.elim x
  obtain ⟨q1, q2⟩ := k2 r0
  have g1 := opd_ok r5 r2 hcf
  rw [ef] at g1
  obtain ⟨⟨fa⟩, ⟨ca⟩, hv, z1, hcap⟩ := g1
  cases z1
  have hprog : ρ.prog = P := hmeth.2.2.2
  refine wpIn_rangeFunc ?_
  intro fn _
  have rec_ok : ∀ {σ' : Emb}, σ.le σ' → ∀ d, LpR ρ σ' { state := .ready, pending := none, fn := fn, tmps := a.tmps, params := ps, assign := as, body := bd, defers := d } N ps.toList xa xb e 0 .nrm := fun up d =>
    ⟨rfl, fun p hp => blt_lt (List.all_eq_true.1 hps p hp), hN, r6, by rw [hprog]; exact hca, by rw [hprog]; exact hcb, r5.mono up, rfl, rfl⟩
  have begin' : ∃ (L : Nat) (rs : List Nat) (w1 : World) (σ1 : Emb), (Instr.enterLoop fn a.tmps ps as bd (FW rr).round).run P w = .ok (L, rs.map mkD) w1 ∧ Tr ρ B D σ h w σ1 h1 w1 ∧ (∃ y, σ1 l = some y ∧ y.1 = L) ∧ MarkR σ1 ms rs ∧ h.nx ≤ l ∧ l < h1.nx := by
    have n12 := tf2.nx
    cases rd with
    | none =>
      obtain rfl : rr = none := rx
      unfold evC.lpNew at en
      simp only [] at en
      have hq := cond_none en; clear en; obtain ⟨c, en⟩ := hq
      cases en
      have c := blt_lt c
      have n1 : ((h.new .df).new (.lp N ps.toList xa xb e 0 .nrm)).nx = h.nx + 2 := rfl
      have f0 : σ h.nx = none := r3 h.nx (Nat.le_refl _) (by show _ < h2.nx; omega)
      have f1 : σ (h.nx + 1) = none := r3 (h.nx + 1) (by omega) (by show _ < h2.nx; omega)
      have t1 := tr_new r1 f0 (by omega) (b := .df) (o := .deferred (some [])) (room := 0) ⟨_, Emb.put_self _ _ _, alloc_new _ _, r1.base⟩
      have up1 := t1.up
      have f1' : (σ.put h.nx (w.heap.size, 0, 0)) (h.new .df).nx = none := by
        rw [show (h.new .df).nx = h.nx + 1 from rfl, Emb.put_ne _ _ (by omega)]; exact f1
      have up2 : σ.le ((σ.put h.nx (w.heap.size, 0, 0)).put (h.new .df).nx ((w.alloc (.deferred (some []))).heap.size, 0, 0)) := up1.trans (Emb.le_put _ f1')
      have t2 := tr_new t1.hr f1' (by show h.nx + 1 < _; omega) (b := .lp N ps.toList xa xb e 0 .nrm) (o := .loop { state := .ready, pending := none, fn := fn, tmps := a.tmps, params := ps, assign := as, body := bd, defers := w.heap.size }) (room := 0)
        ⟨_, _, Emb.put_self _ _ _, alloc_new _ _, t1.hr.base, rec_ok up2 _⟩
      have tA : TF h (h.new .df) := TF.new (by omega)
      have tB : TF (h.new .df) ((h.new .df).new (.lp N ps.toList xa xb e 0 .nrm)) := TF.new (by show h.nx + 1 < _; omega)
      refine ⟨w.heap.size + 1, [w.heap.size], _, _, run_enterLoop_outer fn a.tmps ps as bd, t1.trans tA tB t2 (fun k x y => r3 k x (by show k < h2.nx; omega)), ⟨_, Emb.put_self _ _ _, by rw [alloc_size]⟩, ⟨(w.heap.size, 0, 0), [], ?_, rfl, rfl⟩, by omega, by omega⟩
      rw [Emb.put_ne _ _ (show h.nx ≠ (h.new .df).nx from by show h.nx ≠ h.nx + 1; omega)]
      exact Emb.put_self _ _ _
    | some k =>
      obtain ⟨y0, hy0, rfl⟩ := rx
      unfold evC.lpNew at en
      simp only [] at en
      split at en
      · rename_i n0 ps0 as0 bd0 e0 st0 pd0 ek
        have hq := cond_none en; clear en; obtain ⟨c, en⟩ := hq
        cases en
        have c := blt_lt c
        have n1 : ((h.see k).new (.lp N ps.toList xa xb e 0 .nrm)).nx = h.nx + 1 := rfl
        have hkn := r1.wf k _ ek
        have hdk : D k := r4 k (tf3.lg _ (tf2.lg _ (List.mem_cons_of_mem _ (List.mem_cons_self ..)))) hkn
        obtain ⟨y1, r, b1, b2, b3, b4⟩ := r1.blk k _ hdk ek
        rw [hy0] at b1; cases b1
        have f0 : σ (h.see k).nx = none := r3 h.nx (Nat.le_refl _) (by show _ < h2.nx; omega)
        have t0 := tr_same (h' := h.see k) r1 rfl rfl
        have t2 := tr_new t0.hr f0 c (b := .lp N ps.toList xa xb e 0 .nrm) (o := .loop { state := .ready, pending := none, fn := fn, tmps := a.tmps, params := ps, assign := as, body := bd, defers := r.defers }) (room := 0)
          ⟨_, _, Emb.put_self _ _ _, alloc_new _ _, r1.base, rec_ok (Emb.le_put _ f0) _⟩
        exact ⟨w.heap.size, [], _, _, run_enterLoop_inner b2 fn a.tmps ps as bd, t0.trans (TF.see _ _) (TF.new c) t2 (fun k x y => r3 k x (by show k < h2.nx; omega)), ⟨_, Emb.put_self _ _ _, rfl⟩, rfl, Nat.le_refl _, by show h.nx < h.nx + 1; omega⟩
      · cases en
  obtain ⟨L, rs, w1, σ1, e1, t1, ⟨y, hy, rfl⟩, mr, hl0, hl1⟩ := begin'
  have fr1 : Free σ1 h1.nx h2.nx := fun k x y => t1.no k (r3 k (Nat.le_trans tf1.nx x) y) (.inr x)
  refine ⟨y.1, rs.map mkD, w1, { target := .fn (.func g) ⟨ca⟩, args := #[.func (.yield y.1) #[] #[]] }, w1, g, #[.func (.yield y.1) #[] #[]] ++ ⟨ca⟩, w1, e1, ?_, fun _ _ => trivial, ?_, fun q => (by cases q), ?_⟩
  · simp only [resolve, hv]
    simp [go_sem]
  · simp [invoke, go_sem, q1]
  · refine callsIn_fw ((q2 (fun k => D k ∨ (h.nx ≤ k ∧ k < h1.nx)) σ1 w1 _ t1.hr (r2.mono t1.up) fr1 (fun k x yy => ?_) ?_).mono ?_)
    · by_cases hk : k < h.nx
      · exact .inl (r4 k (tf3.lg k x) hk)
      · exact .inr ⟨by omega, yy⟩
    · refine ⟨.func (.yield y.1) #[] #[], ca, by simp, ⟨y, hy, rfl⟩, VRs_mono t1.up _ _ hcap⟩
    · rintro en w2 ⟨σ2, x, rfl, _, t2⟩
      have hDl : (D l ∨ (h.nx ≤ l ∧ l < h1.nx)) ∨ (h1.nx ≤ l ∧ l < h2.nx) := .inl (.inr ⟨hl0, hl1⟩)
      obtain ⟨y', r, b1, b2, b3, b4⟩ := t2.hr.blk l _ hDl elp
      have := t2.up.at' l y hy
      rw [b1] at this; cases this
      have hnb : r.state ≠ .busy := by
        rw [b4.hst]
        match st, hst with
        | 0, _ => intro q; cases q
        | 1, q => cases q
        | s + 2, _ => intro q; cases q
      refine ⟨r.pending, _, run_endLoop b2 hnb, ?_⟩
      have hlt := (Array.getElem?_eq_some_iff.1 b2).1
      have t3 : Tr ρ B (fun k => (D k ∨ (h.nx ≤ k ∧ k < h1.nx)) ∨ (h1.nx ≤ k ∧ k < h2.nx)) σ2 h2 w2 σ2 (h2.wrt l .dead) (w2.putObj y.1 (.loop { r with state := .exhausted })) :=
        tr_wrt t2.hr hDl elp trivial hl4 b1 ⟨rfl, rfl, rfl⟩ (by simp) (fun j hj => World.putObj_heap_other hj) trivial
      have fin : ∀ (a' : Act), a'.tmps = a.tmps → a'.defers = rs.map mkD ++ a.defers → AfterM ρ B D σ h w a e (h2.wrt l .dead) ms a' (w2.putObj y.1 (.loop { r with state := .exhausted })) := fun a' q1 q2 =>
        ⟨σ2, t1.trans tf1 (tf2.trans tf3) (t2.trans tf2 tf3 t3 fr1) r3, by rw [q1]; exact r5.mono (t1.up.trans t2.up), by rw [q1], rs, q2, mr.mono t2.up⟩
      have fin := r7 _ _ (fin { a with defers := rs.map mkD ++ a.defers } rfl rfl)
      have key : ∀ (pp : Option Code) (W : World) (a1 : Act), pp = pendOf pd → Q (exOf pd) a1 W → (match pp with | none => Q .normal a1 W | some c => c.wpIn (FW rr) 0 P Q a1 W) := by
        rintro _ W a1 rfl fin
        cases pd with
        | nrm => exact fin
        | exit id => exact wpIn_exit fin
        | ret => exact wpIn_ret fin
      exact key _ _ _ b4.hpd fin
include hρ hcall hmeth hmix hN in
theorem evC_ok (rd : Option Nat) : ∀ (fuel : Nat), (∀ (c : Code) (x : IC) (e e' : Trie TV) (h h' : SH) (ex : EX) (ms : List Nat), cCode P N c = some x → evC meth call rd fuel x e h = some (ex, e', h', ms) → TF h h' ∧ CodeOk P ρ B N rd h e' h' e ex ms (fun rr Q => c.wpIn (FW rr) 0 P Q)) ∧
    (∀ (c : Code) (x : IC) (e e' : Trie TV) (h h' : SH) (ex : EX) (ms : List Nat), cCode P N c = some x → evC meth call rd fuel (.loop x) e h = some (ex, e', h', ms) → TF h h' ∧ CodeOk P ρ B N rd h e' h' e ex ms (fun rr Q => Code.roundsIn (FW rr) 0 P c Q fuel)) := by
  intro fuel
  induction fuel with
  | zero => exact ⟨fun c x e e' h h' ex ms _ hx => (by cases hx), fun c x e e' h h' ex ms _ hx => (by cases hx)⟩
  | succ n ih =>
    obtain ⟨ih1, ih2⟩ := ih
    -- one behind the other
    have two : ∀ {e e1 e2 : Trie TV} {h h1 h2 : SH} {ex : EX} {m1 m2 : List Nat} {p q r : Option Nat → (Exit → Act → World → Prop) → Act → World → Prop}, TF h h1 → CodeOk P ρ B N rd h e1 h1 e .nrm m1 p → TF h1 h2 → CodeOk P ρ B N rd h1 e2 h2 e1 ex m2 q →
        (∀ rr Q a w, p rr (Exit.then (q rr Q) Q) a w → r rr Q a w) → CodeOk P ρ B N rd h e2 h2 e ex (m2 ++ m1) r := by
      intro e e1 e2 h h1 h2 ex m1 m2 p q r t1 c1 t2 c2 hr D σ w a Q rr rx r0 r1 r2 r3 r4 r5 r6 r7
      refine hr rr Q a w (c1 D σ w a _ rr rx (AllOb.of_tf t2 r0) r1 r2 (fun k x y => r3 k x (Nat.lt_of_lt_of_le y t2.nx)) (fun k x y => r4 k (t2.lg k x) y) r5 r6 ?_)
      rintro a1 w1 ⟨σ1, s1, s2, s3, rs1, s4, s5⟩
      show q rr Q a1 w1
      refine c2 _ σ1 w1 a1 Q rr (rx.mono s1.up) r0 s1.hr (r2.mono s1.up) (fun k x y => s1.no k (r3 k (Nat.le_trans t1.nx x) y) (.inr x)) (fun k x y => ?_) s2 (by rw [s3]; exact r6) ?_
      · by_cases hk : k < h.nx
        · exact .inl (r4 k x hk)
        · exact .inr ⟨by omega, y⟩
      · intro a2 w2 x
        exact r7 a2 w2 (AfterM.trans t1 s1 t2 r3 s3 s4 s5 x)
    refine ⟨fun c x e e' h h' ex ms hc hx => ?_, fun c x e e' h h' ex ms hc hx => ?_⟩
    · cases c with
      | skip =>
        cases hc
        cases hx
        exact ⟨TF.refl _, fun D σ w a Q rr rx r0 r1 r2 r3 r4 r5 r6 r7 => wpIn_skip (r7 a w ⟨σ, tr_same r1 rfl rfl, r5, rfl, [], rfl, rfl⟩)⟩
      | label l =>
        cases hc
        cases hx
        exact ⟨TF.refl _, fun D σ w a Q rr rx r0 r1 r2 r3 r4 r5 r6 r7 => wpIn_label (r7 a w ⟨σ, tr_same r1 rfl rfl, r5, rfl, [], rfl, rfl⟩)⟩
      | exit id =>
        cases hc
        cases hx
        exact ⟨TF.refl _, fun D σ w a Q rr rx r0 r1 r2 r3 r4 r5 r6 r7 => wpIn_exit (r7 a w ⟨σ, tr_same r1 rfl rfl, r5, rfl, [], rfl, rfl⟩)⟩
      | ret =>
        cases hc
        cases hx
        exact ⟨TF.refl _, fun D σ w a Q rr rx r0 r1 r2 r3 r4 r5 r6 r7 => wpIn_ret (r7 a w ⟨σ, tr_same r1 rfl rfl, r5, rfl, [], rfl, rfl⟩)⟩
      | goto l => cases hc; cases hx
      | refuse s => cases hc; cases hx
      | rangeFunc f ps a b =>
        simp only [cCode] at hc
        split at hc
        · rename_i f' xa xb hcf hca hcb
          split at hc
          · rename_i hps
            cases hc
            simp only [evC] at hx
            split at hx
            · rename_i g cap ef
              split at hx
              · rename_i l ms0 h1 en
                split at hx
                · rename_i v0 h2 ecall
                  split at hx
                  · rename_i n2 ps2 as2 bd2 e2 st pd elp
                    cases hst : Nat.beq st 1 with
                    | true => rw [hst] at hx; cases hx
                    | false =>
                    rw [hst, cond_false] at hx
                    have hq := cond_none hx; clear hx; obtain ⟨hl4, hx⟩ := hq
                    cases hx
                    have tf1 := lpNew_tf en
                    obtain ⟨tf2, k2⟩ := hcall.fn _ _ _ _ _ ecall
                    have tf3 : TF h2 (h2.wrt l .dead) := TF.wrt (blt_lt hl4) elp fun x => False.elim x
                    refine ⟨tf1.trans (tf2.trans tf3), fun D σ w act Q rr rx r0 r1 r2 r3 r4 r5 r6 r7 => ?_⟩
                    exact rng_ok hcall hmeth hN hcf hca hcb hps ef en ecall elp hst (blt_lt hl4) D σ w act Q rr rx r0 r1 r2 r3 r4 r5 r6 r7
                  · cases hx
                · cases hx
              · cases hx
            · cases hx
          · cases hc
        · cases hc
      | region id arr draw =>
        simp only [cCode] at hc
        split at hc
        · cases hc
        · rename_i l hl
          cases draw with
          | true =>
            simp only [if_true] at hc
            split at hc
            · rename_i ms0 hms
              split at hc
              · rename_i hst
                cases hc
                simp only [evC] at hx
                split at hx
                · rename_i e1 h1 acc q1
                  split at hx
                  · rename_i q2
                    cases hx
                    obtain ⟨p1, p2⟩ := par_ok (id := id) hρ hcall hmeth hN hmix hl hms hst q1 q2
                    exact ⟨p1, fun D σ w a Q rr rx r0 r1 r2 r3 r4 r5 r6 r7 => p2 rr r0 r1 r2 r3 r4 r5 r6 fun a' w' x => r7 a' w' x.toM⟩
                  · cases hx
                · cases hx
              · cases hc
            · cases hc
          | false =>
            simp only [Bool.false_eq_true, if_false] at hc
            cases hc
            simp only [evC] at hx
            split at hx
            · rename_i e1 h1 q1
              cases hx
              exact ⟨tf_evR hcall q1, fun D σ w a Q rr rx r0 r1 r2 r3 r4 r5 r6 r7 => wpIn_region_list (evR_ok hρ hcall hmeth rr hN hl q1 r0 r1 r2 r3 r4 r5 r6 fun a' w' x => r7 a' w' x.toM)⟩
            · cases hx
      | seq c1 c2 =>
        simp only [cCode] at hc
        split at hc
        · rename_i x1 x2 hc1 hc2
          cases hc
          simp only [evC] at hx
          split at hx
          · rename_i e1 h1 m1 q1
            obtain ⟨m2, hx2, rfl⟩ := moreI hx
            obtain ⟨t1, k1⟩ := ih1 c1 x1 e e1 h h1 _ _ hc1 q1
            obtain ⟨t2, k2⟩ := ih1 c2 x2 e1 e' h1 h' ex _ hc2 hx2
            exact ⟨t1.trans t2, two t1 k1 t2 k2 fun rr Q a w q => wpIn_seq q⟩
          · rename_i hne
            obtain ⟨t1, k1⟩ := ih1 c1 x1 e e' h h' ex _ hc1 hx
            refine ⟨t1, fun D σ w a Q rr rx r0 r1 r2 r3 r4 r5 r6 r7 => wpIn_seq (k1 D σ w a _ rr rx r0 r1 r2 r3 r4 r5 r6 fun a' w' x => ?_)⟩
            have := r7 a' w' x
            cases ex with
            | nrm => exact absurd hx (hne _ _ _)
            | exit id => exact this
            | ret => exact this
        · cases hc
      | cond o c1 c2 =>
        simp only [cCode] at hc
        split at hc
        · rename_i o' x1 x2 ho hc1 hc2
          cases hc
          simp only [evC] at hx
          split at hx
          · rename_i q1
            obtain ⟨t1, k1⟩ := ih1 c1 x1 e e' h h' ex _ hc1 hx
            refine ⟨t1, fun D σ w a Q rr rx r0 r1 r2 r3 r4 r5 r6 r7 => ?_⟩
            have g := opd_ok r5 r2 ho
            rw [q1] at g
            exact wpIn_cond_true g (k1 D σ w a Q rr rx r0 r1 r2 r3 r4 r5 r6 r7)
          · rename_i q1
            obtain ⟨t1, k1⟩ := ih1 c2 x2 e e' h h' ex _ hc2 hx
            refine ⟨t1, fun D σ w a Q rr rx r0 r1 r2 r3 r4 r5 r6 r7 => ?_⟩
            have g := opd_ok r5 r2 ho
            rw [q1] at g
            exact wpIn_cond_false g (k1 D σ w a Q rr rx r0 r1 r2 r3 r4 r5 r6 r7)
          · cases hx
        · cases hc
      | block id c1 =>
        simp only [cCode, Option.map_eq_some_iff] at hc
        obtain ⟨x1, hc1, rfl⟩ := hc
        simp only [evC] at hx
        split at hx
        · rename_i j e1 h1 m1 q1
          cases hx
          obtain ⟨t1, k1⟩ := ih1 c1 x1 e e' h h' _ _ hc1 q1
          refine ⟨t1, fun D σ w a Q rr rx r0 r1 r2 r3 r4 r5 r6 r7 => wpIn_block (k1 D σ w a _ rr rx r0 r1 r2 r3 r4 r5 r6 fun a' w' x => ?_)⟩
          have := r7 a' w' x
          cases hj : Nat.beq j id with
          | true =>
            rw [hj] at this
            obtain rfl := Nat.eq_of_beq_eq_true hj
            show (if j = j then Q .normal a' w' else Q (.exit j) a' w')
            rw [if_pos rfl]; exact this
          | false =>
            rw [hj] at this
            show (if j = id then Q .normal a' w' else Q (.exit j) a' w')
            rw [if_neg (fun q => by subst q; simp at hj)]; exact this
        · rename_i hne
          obtain ⟨t1, k1⟩ := ih1 c1 x1 e e' h h' ex _ hc1 hx
          refine ⟨t1, fun D σ w a Q rr rx r0 r1 r2 r3 r4 r5 r6 r7 => wpIn_block (k1 D σ w a _ rr rx r0 r1 r2 r3 r4 r5 r6 fun a' w' x => ?_)⟩
          have := r7 a' w' x
          cases ex with
          | nrm => exact this
          | exit j => exact absurd hx (hne _ _ _ _)
          | ret => exact this
      | loop c1 =>
        simp only [cCode, Option.map_eq_some_iff] at hc
        obtain ⟨x1, hc1, rfl⟩ := hc
        -- the round is shown below
        have key : TF h h' ∧ CodeOk P ρ B N rd h e' h' e ex ms (fun rr Q => Code.roundsIn (FW rr) 0 P c1 Q (n + 1)) := by
          simp only [evC] at hx
          split at hx
          · rename_i e1 h1 m1 q1
            obtain ⟨m2, hx2, rfl⟩ := moreI hx
            obtain ⟨t1, k1⟩ := ih1 c1 x1 e e1 h h1 _ _ hc1 q1
            obtain ⟨t2, k2⟩ := ih2 c1 x1 e1 e' h1 h' ex _ hc1 hx2
            exact ⟨t1.trans t2, two t1 k1 t2 k2 fun rr Q a w q => q⟩
          · rename_i hne
            obtain ⟨t1, k1⟩ := ih1 c1 x1 e e' h h' ex _ hc1 hx
            refine ⟨t1, fun D σ w a Q rr rx r0 r1 r2 r3 r4 r5 r6 r7 => ?_⟩
            show c1.wpIn (FW rr) 0 P (Exit.then (Code.roundsIn (FW rr) 0 P c1 Q n) Q) a w
            refine k1 D σ w a _ rr rx r0 r1 r2 r3 r4 r5 r6 fun a' w' x => ?_
            have := r7 a' w' x
            cases ex with
            | nrm => exact absurd hx (hne _ _ _)
            | exit id => exact this
            | ret => exact this
        exact ⟨key.1, fun D σ w a Q rr rx r0 r1 r2 r3 r4 r5 r6 r7 => wpIn_loop_rounds (n + 1) (key.2 D σ w a Q rr rx r0 r1 r2 r3 r4 r5 r6 r7)⟩
      | scope c1 =>
        simp only [cCode, Option.map_eq_some_iff] at hc
        obtain ⟨x1, hc1, rfl⟩ := hc
        simp only [evC] at hx
        obtain ⟨t1, k1⟩ := ih1 c1 x1 e e' h h' ex _ hc1 hx
        refine ⟨t1, fun D σ w a Q rr rx r0 r1 r2 r3 r4 r5 r6 r7 => wpIn_scope_straight (k1 D σ w a _ rr rx r0 r1 r2 r3 r4 r5 r6 fun a' w' x => ?_)⟩
        have := r7 a' w' x
        cases ex <;> exact this
    · simp only [evC] at hx
      split at hx
      · rename_i e1 h1 m1 q1
        obtain ⟨m2, hx2, rfl⟩ := moreI hx
        obtain ⟨t1, k1⟩ := ih1 c x e e1 h h1 _ _ hc q1
        obtain ⟨t2, k2⟩ := ih2 c x e1 e' h1 h' ex _ hc hx2
        exact ⟨t1.trans t2, two t1 k1 t2 k2 fun rr Q a w q => q⟩
      · rename_i hne
        obtain ⟨t1, k1⟩ := ih1 c x e e' h h' ex _ hc hx
        refine ⟨t1, fun D σ w a Q rr rx r0 r1 r2 r3 r4 r5 r6 r7 => ?_⟩
        show c.wpIn (FW rr) 0 P (Exit.then (Code.roundsIn (FW rr) 0 P c Q n) Q) a w
        refine k1 D σ w a _ rr rx r0 r1 r2 r3 r4 r5 r6 fun a' w' x => ?_
        have := r7 a' w' x
        cases ex with
        | nrm => exact absurd hx (hne _ _ _)
        | exit id => exact this
        | ret => exact this
end
end Go.Proofs.YtgjfdbbghefdbaaGreatDoor.Sx
namespace Go.Proofs.YtgjfdbbghefdbaaGreatDoor.Sx
theorem initE_get : ∀ (l : List TV) (i : Nat) (e : Trie TV) (t : Nat), i + l.length ≤ 4000 → getE (initE i l e) t = if i ≤ t ∧ t < i + l.length then (l[t - i]?).getD (.tu []) else getE e t
  | [], i, e, t, _ => by rw [initE, if_neg (by simp)]
  | v :: r, i, e, t, h => by
    simp only [List.length_cons] at h
    rw [initE, initE_get r (i + 1) _ t (by omega)]
    by_cases h1 : i + 1 ≤ t ∧ t < i + 1 + r.length
    · rw [if_pos h1, if_pos (by simp only [List.length_cons]; omega), show t - i = (t - (i + 1)) + 1 from by omega]
      simp
    · rw [if_neg h1, getE_put (by omega)]
      by_cases h2 : t = i
      · subst h2
        rw [if_pos rfl, if_pos (by simp only [List.length_cons]; omega)]
        simp
      · rw [if_neg h2, if_neg (by simp only [List.length_cons]; omega)]
section
variable {P : Program} {ρ : Cx} {B : Nat}
def resOf (tmps : Array Value) : ResultVar → Sem Value
  | .tmp t => pure (tmps.getD t undef)
  | .cell a t => do loadVar t (← asAddr (tmps.getD a undef))
theorem results_eq (fn : Func) (tmps : Array Value) : results fn tmps = (do
    let vs ← fn.results.mapM (resOf tmps)
    pure (if h : vs.size = 1 then vs[0] else .tuple vs)) := by
  unfold results
  congr 1
theorem loadAt_hand {g : Bool} {n k off : Nat} {h h' : SH} {v : TV} (hx : loadAt g n k off h = some (v, h')) : k ∈ h'.lg ∧ ∃ b, h.get k = some b := by
  unfold loadAt at hx
  split at hx
  · rename_i e2
    obtain ⟨bb, e2, _⟩ := rowOf_some (ρ := ⟨fun _ => undef, fun _ => [], [], default⟩) e2
    obtain ⟨_, hx⟩ := cond_none hx
    split at hx
    · cases hx; exact ⟨List.mem_cons_self .., _, e2⟩
    · cases hx
  · cases hx
theorem loadAt_tr {g : Bool} {n k off : Nat} {h h' : SH} {v : TV} (hx : loadAt g n k off h = some (v, h')) : h'.tr = h.tr ∧ h'.nx = h.nx := by
  unfold loadAt at hx
  split at hx
  · obtain ⟨_, hx⟩ := cond_none hx
    split at hx
    · cases hx; exact ⟨rfl, rfl⟩
    · cases hx
  · cases hx
theorem resE_tf : ∀ {l : List (Nat × Option (Bool × Nat))} {e : Trie TV} {h h' : SH} {vs : List TV}, resE l e h = some (vs, h') → TF h h' ∧ h'.tr = h.tr ∧ h'.nx = h.nx
  | [], e, h, h', vs, hx => by cases hx; exact ⟨TF.refl _, rfl, rfl⟩
  | (s, none) :: r, e, h, h', vs, hx => by
    unfold resE at hx
    split at hx
    · rename_i l h1 e1
      cases hx
      exact resE_tf e1
    · cases hx
  | (s, some (g, n)) :: r, e, h, h', vs, hx => by
    unfold resE at hx
    split at hx
    · split at hx
      · rename_i v h1 e1
        split at hx
        · rename_i l h2 e2
          cases hx
          obtain ⟨q1, q2, q3⟩ := resE_tf e2
          obtain ⟨q4, q5⟩ := loadAt_tr e1
          exact ⟨(tf_load e1).trans q1, q2.trans q4, q3.trans q5⟩
        · cases hx
      · cases hx
    · cases hx
theorem resE_ok {σ : Emb} {D : Nat → Prop} {w : World} {tmps : Array Value} : ∀ {rs : List ResultVar} {l : List (Nat × Option (Bool × Nat))} {e : Trie TV} {h h' : SH} {vs : List TV}, cRes P rs = some l → resE l e h = some (vs, h') → HR ρ B D σ h w → Hand D h h' → EnvR ρ σ e tmps →
    ∃ us : List Value, (rs.mapM (resOf tmps)).run P w = .ok us w ∧ VRs ρ σ vs us
  | [], l, e, h, h', vs, hc, hx, hr, hd, he => by
    cases hc; cases hx
    exact ⟨[], by simp [List.mapM_nil], rfl⟩
  | .tmp t :: q, l, e, h, h', vs, hc, hx, hr, hd, he => by
    simp only [cRes, Option.map_eq_some_iff] at hc
    obtain ⟨l', h1, rfl⟩ := hc
    unfold resE at hx
    split at hx
    · rename_i ls h2 e2
      cases hx
      obtain ⟨us, u1, u2⟩ := resE_ok h1 e2 hr hd he
      refine ⟨tmps.getD t undef :: us, ?_, _, us, rfl, he t, u2⟩
      rw [List.mapM_cons, run_bind, show (resOf tmps (.tmp t)).run P w = .ok (tmps.getD t undef) w from rfl]
      simp only []
      rw [run_bind, u1]
      rfl
    · cases hx
  | .cell a t :: q, l, e, h, h', vs, hc, hx, hr, hd, he => by
    simp only [cRes] at hc
    split at hc
    · rename_i g n l' h1 h2
      cases hc
      unfold resE at hx
      split at hx
      · rename_i k off e1
        split at hx
        · rename_i v h3 e2
          split at hx
          · rename_i ls h4 e3
            cases hx
            obtain ⟨q1, q2, q3⟩ := resE_tf e3
            obtain ⟨q4, q5⟩ := loadAt_tr e2
            obtain ⟨z1, b, z2⟩ := loadAt_hand e2
            have hdk : D k := hd k (q1.lg k z1) (hr.wf k b z2)
            have hv := he a
            rw [e1] at hv
            obtain ⟨z, f1, f2, _, _⟩ := loadAt_ok hr h1 e2 hdk hv
            obtain ⟨us, u1, u2⟩ := resE_ok h2 e3 (hr.of_tr q4 q5) (fun k x y => hd k x (by rw [← q5]; exact y)) he
            refine ⟨z :: us, ?_, _, us, rfl, f2, u2⟩
            have hrun : (resOf tmps (.cell a t)).run P w = .ok z w := by
              obtain ⟨y, y1, y2⟩ := hv
              show (do loadVar t (← asAddr (tmps.getD a undef)) : Sem Value).run P w = _
              rw [y2, run_bind]
              unfold Instr.loadAt Instr.sureAddr at f1
              rw [y2, run_bind] at f1
              exact f1
            rw [List.mapM_cons, run_bind, hrun]
            simp only []
            rw [run_bind, u1]
            rfl
          · cases hx
        · cases hx
      · cases hx
    · cases hc
def joinV : List Value → Value
  | [v] => v
  | l => .tuple l.toArray
theorem results_ok {fn : Func} {tmps : Array Value} {w : World} {us : List Value} (h : (fn.results.toList.mapM (resOf tmps)).run P w = .ok us w) : (results fn tmps).run P w = .ok (joinV us) w := by
  rw [results_eq, run_bind, Array.mapM_eq_mapM_toList]
  have : ((List.toArray <$> fn.results.toList.mapM (resOf tmps) : Sem (Array Value))).run P w = .ok us.toArray w := by
    rw [← bind_pure_comp, run_bind, h]
    rfl
  rw [this]
  show Result.ok _ w = _
  congr 1
  match us with
  | [] => simp [joinV]
  | [v] => simp [joinV]
  | v :: u :: r => simp [joinV]
theorem tup_ok {σ : Emb} : ∀ {vs : List TV} {us : List Value}, VRs ρ σ vs us → VR ρ σ (tupOf vs) (joinV us)
  | [], us, h => by cases h; exact ⟨#[], rfl, rfl⟩
  | [v], us, ⟨u, q, h1, h2, h3⟩ => by cases h3; subst h1; exact h2
  | v :: v2 :: r, us, ⟨u, q, h1, h2, u2, q2, h3, h4, h5⟩ => by
    subst h3; subst h1
    exact ⟨_, rfl, u, _, rfl, h2, u2, _, rfl, h4, h5⟩
def TabOk (P : Program) (tab : Trie XF) : Prop := ∀ f x, tab.get f = some x → ∃ fn, P.funcs[f]? = some fn ∧ cFunc P fn = some x
def OneOk (P : Program) (ρ : Cx) (B : Nat) (f : Nat) (g : List TV → SH → Option (TV × SH)) : Prop :=
  ∀ (args : List TV) (h : SH) (v : TV) (h' : SH), g args h = some (v, h') → TF h h' ∧ (AllOb P ρ h'.ob → (∀ (vs : Array Value) (w : World), (callFunc f vs).run P w = .ok (.enter f vs) w) ∧
    ∀ (D : Nat → Prop) (σ : Emb) (w : World) (vs : Array Value), HR ρ B D σ h w → GlobR P σ → Free σ h.nx h'.nx → Hand D h h' → VRs ρ σ args vs.toList →
      Calls P f vs w fun e w' => ∃ σ' x, e = .returned x ∧ VR ρ σ' v x ∧ Tr ρ B D σ h w σ' h' w')
theorem unmark_tf : ∀ {ms : List Nat} {h h' : SH}, unmark ms h = some h' → TF h h' ∧ h'.nx = h.nx
  | [], h, h', hx => by cases hx; exact ⟨TF.refl _, rfl⟩
  | d :: r, h, h', hx => by
    unfold unmark at hx
    split at hx
    · rename_i e1
      obtain ⟨c, hx⟩ := cond_none hx
      obtain ⟨t1, t2⟩ := unmark_tf hx
      exact ⟨(TF.wrt (blt_lt c) e1 fun (x : TB.own .dead) => False.elim x).trans t1, t2⟩
    · cases hx
theorem unmark_ok {fn : Func} {tmps : Array Value} {R : Ending → World → Prop} {D : Nat → Prop} {σ : Emb} : ∀ {ms rs : List Nat} {h h' : SH} {w : World}, unmark ms h = some h' → HR ρ B D σ h w → Hand D h h' → MarkR σ ms rs →
    (∀ w', Tr ρ B D σ h w σ h' w' → LeavesIn (FW none) 0 P fn tmps R [] .returning w') → LeavesInM (FW none) 0 P fn tmps R (rs.map mkD) .returning w
  | [], rs, h, h', w, hx, hr, hd, hm, k => by cases hx; cases hm; exact k w (tr_same hr rfl rfl)
  | d :: r, rs, h, h', w, hx, hr, hd, ⟨y, q, hy, hrs, hm⟩, k => by
    subst hrs
    unfold unmark at hx
    split at hx
    · rename_i e1
      have hq := cond_none hx; clear hx; obtain ⟨c, hx⟩ := hq
      obtain ⟨t1, t2⟩ := unmark_tf hx
      have hdd : D d := hd d (t1.lg d (List.mem_cons_self ..)) (hr.wf d _ e1)
      obtain ⟨y', b1, b2, b3⟩ := hr.blk d _ hdd e1
      rw [hy] at b1; cases b1
      have s1 : Tr ρ B D σ h w σ (h.wrt d .dead) (w.putObj y.1 (.deferred none)) := tr_wrt hr hdd e1 trivial (blt_lt c) hy ⟨rfl, rfl, rfl⟩ (by simp) (fun j hj => World.putObj_heap_other hj) trivial
      refine ⟨by simp, .inl ⟨y.1, _, rfl, run_takeDeferred b2, ?_⟩⟩
      refine unmark_ok (D := fun j => D j ∨ (h.nx ≤ j ∧ j < (h.wrt d .dead).nx)) hx s1.hr (fun j a b => .inl (hd j a b)) hm fun w' s2 => k w' ?_
      exact s1.trans (TF.wrt (blt_lt c) e1 fun (x : TB.own .dead) => False.elim x) t1 s2 (fun j a b => by have : h'.nx = h.nx := t2; omega)
    · cases hx
variable (hρ : ∀ j, scalV (ρ j)) {meth : Meth} (hmeth : MethOk P ρ meth) (hmix : P.follows .mixedOrders = true)
include hρ hmeth hmix
theorem evF_ok {call : CallT} (hcall : CallOk P ρ B call) {fn : Func} {x : XF} (hc : cFunc P fn = some x) {f : Nat} (hfn : P.funcs[f]? = some fn) (fuel : Nat) : OneOk P ρ B f (evF meth call fuel x) := by
  intro args h v h' hx
  unfold cFunc at hc
  split at hc
  · cases hc
  rename_i c hb
  split at hc
  · cases hc
  rename_i hname
  split at hc
  · rename_i hnt
    split at hc
    · rename_i b rs c1 c2
      split at hc
      · rename_i hnp
        cases hc
        unfold evF at hx
        obtain ⟨clen, hx⟩ := cond_none hx
        have clen : args.length = fn.params.size + fn.nfree := Nat.eq_of_beq_eq_true clen
        simp only [] at hx
        have main : ∀ ex e1 h1 ms, evC meth call none fuel b (initE 0 args .lf) h = some (ex, e1, h1, ms) → (∀ id, ex ≠ .exit id) → ∀ h2, unmark ms h1 = some h2 → ∀ l, resE rs e1 h2 = some (l, h') → v = tupOf l → TF h h' ∧ (AllOb P ρ h'.ob → (∀ (vs : Array Value) (w : World), (callFunc f vs).run P w = .ok (.enter f vs) w) ∧
            ∀ (D : Nat → Prop) (σ : Emb) (w : World) (vs : Array Value), HR ρ B D σ h w → GlobR P σ → Free σ h.nx h'.nx → Hand D h h' → VRs ρ σ args vs.toList →
              Calls P f vs w fun e w' => ∃ σ' x, e = .returned x ∧ VR ρ σ' v x ∧ Tr ρ B D σ h w σ' h' w') := by
          intro ex e1 h1 ms q1 q2 h2 qu l q3 q4
          subst q4
          obtain ⟨t1, k1⟩ := (evC_ok hρ hcall hmeth hmix (N := fn.ntmps) (by omega) none fuel).1 c b _ e1 h h1 ex ms c1 q1
          obtain ⟨tu, ru⟩ := unmark_tf qu
          obtain ⟨t2, r1, r2⟩ := resE_tf q3
          refine ⟨t1.trans (tu.trans t2), fun ho => ⟨fun vs w => ?_, fun D σ w vs hr hg hf hd hv => ?_⟩⟩
          · unfold callFunc
            rw [run_bind, run_program]
            simp only [hfn]
            rw [if_neg hname, hb]
            rfl
          · have hvl := VRs_len hv
            simp only [Array.length_toList] at hvl
            refine (callsIn_wide (n := 0)).1 (callsIn_of_wp_marks (F := FW none) hfn hb trivial ?_)
            have henv : EnvR ρ σ (initE 0 args .lf) (vs ++ Array.replicate (fn.ntmps - vs.size) undef) := by
              intro t
              rw [initE_get args 0 _ t (by omega), Array.getD_eq_getD_getElem?]
              by_cases ht : t < args.length
              · rw [if_pos (by omega), Nat.sub_zero, List.getElem?_eq_getElem ht]
                obtain ⟨u, u1, u2⟩ := VRs_get hv (List.getElem?_eq_getElem ht)
                rw [Array.getElem?_append_left (by omega)]
                rw [Array.getElem?_toList] at u1
                rw [u1]
                exact u2
              · rw [if_neg (by omega)]
                have : ((vs ++ Array.replicate (fn.ntmps - vs.size) undef)[t]?).getD undef = undef := by
                  rw [Array.getElem?_append_right (by omega), Array.getElem?_replicate]
                  split <;> rfl
                exact trivial
            refine k1 D σ w _ _ none rfl (AllOb.of_tf (tu.trans t2) ho) hr hg (fun k x y => hf k x (by rw [r2, ru]; exact y)) (fun k x y => hd k (t2.lg k (tu.lg k x)) y) henv (by simp; omega) ?_
            rintro a' w' ⟨σ', s1, s2, s3, rs', s4, s5⟩
            have hd1 : Hand (fun k => D k ∨ (h.nx ≤ k ∧ k < h1.nx)) h1 h' := fun k x y => by
              by_cases hk : k < h.nx
              · exact .inl (hd k x hk)
              · exact .inr ⟨by omega, y⟩
            have leave : LeavesInM (FW none) 0 P fn a'.tmps (fun e w' => ∃ σ' x, e = .returned x ∧ VR ρ σ' (tupOf l) x ∧ Tr ρ B D σ h w σ' h' w') a'.defers .returning w' := by
              rw [s4, List.append_nil]
              refine unmark_ok qu s1.hr (fun k x y => hd1 k (t2.lg k x) y) s5 fun w2 s6 => ?_
              have hr2 := s6.hr.mono (D' := fun k => D k ∨ (h.nx ≤ k ∧ k < h1.nx)) fun _ x => .inl x
              obtain ⟨us, u1, u2⟩ := resE_ok c2 q3 hr2 (fun k x y => hd1 k x (by rw [← ru]; exact y)) s2
              have hres := results_ok (P := P) (w := w2) u1
              have hf1 : Free σ' h1.nx h'.nx := fun k x y => by rw [r2, ru] at y; omega
              have hf2 : Free σ' h1.nx h2.nx := fun k x y => by rw [ru] at y; omega
              have s7 : Tr ρ B _ σ' h1 w' σ' h' w2 := s6.trans tu t2 (tr_same s6.hr r1 r2) hf1
              have s5 : Tr ρ B D σ h w σ' h' w2 := s1.trans t1 (tu.trans t2) s7 hf
              exact ⟨_, hres, σ', _, rfl, tup_ok u2, s5⟩
            cases ex with
            | nrm => exact leave
            | ret => exact leave
            | exit id => exact absurd rfl (q2 id)
        split at hx
        · cases hx
        · rename_i ex e1 h1 ms hne q1
          split at hx
          · rename_i h2 qu
            split at hx
            · rename_i l h3 q2
              cases hx
              exact main _ _ _ _ q1 (fun id q => hne id q) _ qu l q2 rfl
            · cases hx
          · cases hx
        · cases hx
      · cases hc
    · cases hc
  · cases hc
omit hρ hmix hmeth in
theorem setPs_env {σ : Emb} : ∀ {ps : List Nat} {args : List TV} {vs : List Value} {e : Trie TV} {tm : Array Value}, (∀ p, p ∈ ps → p < tm.size ∧ p < 4000) → VRs ρ σ args vs → args.length = ps.length → EnvR ρ σ e tm → EnvR ρ σ (setPs e ps args) ((ps.zip vs).foldl (fun t (p : Nat × Value) => t.setIfInBounds p.1 p.2) tm) ∧ ((ps.zip vs).foldl (fun t (p : Nat × Value) => t.setIfInBounds p.1 p.2) tm).size = tm.size
  | [], [], vs, e, tm, _, hv, _, he => by cases hv; exact ⟨he, rfl⟩
  | p :: ps, a :: args, vs, e, tm, hp, ⟨v, q, h1, h2, h3⟩, hl, he => by
    subst h1
    obtain ⟨p1, p2⟩ := hp p (List.mem_cons_self ..)
    have h1 := he.put (a := ⟨tm, []⟩) h2 (d := some p) fun k hk => by cases hk; exact ⟨p1, p2⟩
    obtain ⟨r1, r2⟩ := setPs_env (ps := ps) (args := args) (vs := q) (e := e.set 12 p a) (tm := tm.setIfInBounds p v) (fun k hk => by simpa using hp k (List.mem_cons_of_mem _ hk)) h3 (by simpa using hl) h1
    exact ⟨r1, by simpa using r2⟩
  | [], _ :: _, _, _, _, _, _, h, _ => by cases h
  | _ :: _, [], _, _, _, _, _, h, _ => by cases h
theorem evY_ok {call : CallT} (hcall : CallOk P ρ B call) (fuel k : Nat) (args : List TV) (h : SH) (v : TV) (h' : SH) (hx : evY meth call fuel k args h = some (v, h')) : TF h h' ∧ (AllOb P ρ h'.ob →
    ∀ (D : Nat → Prop) (σ : Emb) (w : World) (vs : Array Value) (y : Nat × Nat × Nat), HR ρ B D σ h w → GlobR P σ → Free σ h.nx h'.nx → Hand D h h' → VRs ρ σ args vs.toList → σ k = some y →
      YieldAt (FW none) 0 P y.1 vs w fun e w' => ∃ σ' x, e = .returned x ∧ VR ρ σ' v x ∧ Tr ρ B D σ h w σ' h' w') := by
  unfold evY at hx
  split at hx
  · rename_i N ps as bd e st pd ek
    have hq := cond_none hx; clear hx; obtain ⟨c1, hx⟩ := hq
    have hq := cond_none hx; clear hx; obtain ⟨c2, hx⟩ := hq
    have c1 := Nat.eq_of_beq_eq_true c1
    have c2 := blt_lt c2
    split at hx
    · rename_i e1 h1 qa
      split at hx
      · rename_i N1 ps1 as1 bd1 e1' pd1 ek1
        split at hx
        · rename_i ex e2 h2 qb
          split at hx
          · rename_i N2 ps2 as2 bd2 e2' st2 pd2 ek2
            have fin : ∃ st3 v0, (st3, v0) = (match ex with | .nrm => ((0 : Nat), true) | _ => (2, false)) ∧ v = .b v0 ∧ h' = h2.wrt k (.lp N2 ps2 as2 bd2 e2' st3 ex) := by
              cases ex <;> (cases hx; exact ⟨_, _, rfl, rfl, rfl⟩)
            obtain ⟨st3, v0, hst3, rfl, rfl⟩ := fin
            have tf0 := TF.see h k
            have tf2 : TF h1 (h1.wrt k (.lp N1 ps1 as1 bd1 e1' 1 pd1)) := TF.wrt c2 ek1 fun _ => trivial
            have tf4 : TF h2 (h2.wrt k (.lp N2 ps2 as2 bd2 e2' st3 ex)) := TF.wrt c2 ek2 fun _ => trivial
            have exA := evC_tf hcall (some k) fuel as _ _ _ _ _ _ qa
            have exB := evC_tf hcall (some k) fuel bd _ _ _ _ _ _ qb
            refine ⟨tf0.trans (exA.trans (tf2.trans (exB.trans tf4))), fun ho D σ w vs y hr hg hf hd hv hy => ?_⟩
            have hdk : D k := hd k (tf4.lg _ (exB.lg _ (tf2.lg _ (exA.lg _ (List.mem_cons_self ..))))) (hr.wf k _ ek)
            obtain ⟨y', r, b1, b2, b3, b4⟩ := hr.blk k _ hdk ek
            rw [hy] at b1; cases b1
            have hvl := VRs_len hv
            simp only [Array.length_toList] at hvl
            have hprog : ρ.prog = P := hmeth.2.2.2
            refine ⟨r.fn, _, r.assign, r.body, run_yield b2 (by rw [hvl, c1, ← b4.hps]; simp), roundIn_of_wpIn trivial ?_⟩
            have htm : (r.params.zip vs).foldl (fun tmps (x : Tmp × Value) => match x with | (t, a) => tmps.setIfInBounds t a) r.tmps = (ps.zip vs.toList).foldl (fun t (p : Nat × Value) => t.setIfInBounds p.1 p.2) r.tmps := by
              rw [← Array.foldl_toList, Array.toList_zip, b4.hps]
            obtain ⟨en1, sz1⟩ := setPs_env (e := e) (tm := r.tmps) (fun p hp => ⟨Nat.lt_of_lt_of_le (b4.hlt p hp) b4.hsz, Nat.lt_of_lt_of_le (b4.hlt p hp) b4.hn⟩) hv c1 b4.he
            rw [← htm] at en1 sz1
            obtain ⟨tA, kA⟩ := (evC_ok hρ hcall hmeth hmix (N := N) b4.hn (some k) fuel).1 r.assign as _ _ _ _ _ _ (by rw [← hprog]; exact b4.has) qa
            have nA := exA.nx
            have nB := exB.nx
            have n2 := tf2.nx
            have n4 := tf4.nx
            have t0 : Tr ρ B D σ h w σ (h.see k) w := tr_same hr rfl rfl
            refine kA D σ w _ _ (some y.1) ⟨y, hy, rfl⟩ (AllOb.of_tf (tf2.trans (exB.trans tf4)) ho) (hr.of_tr rfl rfl) hg (fun j a b => hf j a (by show j < h2.nx; have : (h1.wrt k (.lp N1 ps1 as1 bd1 e1' 1 pd1)).nx = h1.nx := rfl; omega)) (fun j a b => hd j (tf4.lg _ (exB.lg _ (tf2.lg _ a))) b) en1 (by rw [sz1]; exact b4.hsz) ?_
            rintro a1 w1 ⟨σ1, s1, s2, s3, rs1, s4, s5⟩
            cases s5
            -- the round begins
            have hf1 : Free σ1 h1.nx (h2.wrt k (.lp N2 ps2 as2 bd2 e2' st3 ex)).nx := fun j a b => s1.no j (hf j (Nat.le_trans nA a) b) (.inr a)
            have D1k : (fun j => D j ∨ ((h.see k).nx ≤ j ∧ j < h1.nx)) k := .inl hdk
            obtain ⟨y1, r1, d1, d2, d3, d4⟩ := s1.hr.blk k _ D1k ek1
            have := s1.up.at' k y hy
            rw [d1] at this; cases this
            refine ⟨_, run_beginRound d2 d4.hst, ?_⟩
            have lt1 := (Array.getElem?_eq_some_iff.1 d2).1
            have t2 : Tr ρ B (fun j => D j ∨ ((h.see k).nx ≤ j ∧ j < h1.nx)) σ1 h1 w1 σ1 (h1.wrt k (.lp N1 ps1 as1 bd1 e1' 1 pd1)) (w1.putObj y.1 (.loop { r1 with state := .busy })) :=
              tr_wrt s1.hr D1k ek1 trivial c2 d1 ⟨rfl, rfl, rfl⟩ (by simp) (fun j hj => World.putObj_heap_other hj) ⟨y, _, d1, World.putObj_heap_same lt1, d3, d4.hps, d4.hlt, d4.hn, d4.hsz, d4.has, d4.hbd, d4.he, rfl, d4.hpd⟩
            obtain ⟨tB, kB⟩ := (evC_ok hρ hcall hmeth hmix (N := N) b4.hn (some k) fuel).1 r.body bd _ _ _ _ _ _ (by rw [← hprog]; exact b4.hbd) qb
            have hD2 : ∀ j, (D j ∨ ((h.see k).nx ≤ j ∧ j < h1.nx)) → ((D j ∨ ((h.see k).nx ≤ j ∧ j < h1.nx)) ∨ (h1.nx ≤ j ∧ j < (h1.wrt k (.lp N1 ps1 as1 bd1 e1' 1 pd1)).nx)) := fun _ q => .inl q
            have hr2 := t2.hr.mono hD2
            refine kB (fun j => D j ∨ ((h.see k).nx ≤ j ∧ j < h1.nx)) σ1 _ _ _ (some y.1) ⟨y, d1, rfl⟩ (AllOb.of_tf tf4 ho) hr2 (hg.mono s1.up) (fun j a b => hf1 j a b) (fun j a b => ?_) s2 (by rw [s3, sz1]; exact b4.hsz) ?_
            · by_cases hj : j < h.nx
              · exact .inl (hd j (tf4.lg _ a) hj)
              · exact .inr ⟨by show h.nx ≤ j; omega, b⟩
            rintro a2 w2 ⟨σ2, u1, u2, u3, rs2, u4, u5⟩
            -- the round ends
            have D3k : (fun j => (D j ∨ ((h.see k).nx ≤ j ∧ j < h1.nx)) ∨ ((h1.wrt k (.lp N1 ps1 as1 bd1 e1' 1 pd1)).nx ≤ j ∧ j < h2.nx)) k := .inl D1k
            obtain ⟨y2, r2, f1, f2, f3, f4⟩ := u1.hr.blk k _ D3k ek2
            have := u1.up.at' k y d1
            rw [f1] at this; cases this
            have lt2 := (Array.getElem?_eq_some_iff.1 f2).1
            have endr := fun j => run_endRound (P := P) j f2
            have t4 : Tr ρ B (fun j => (D j ∨ ((h.see k).nx ≤ j ∧ j < h1.nx)) ∨ ((h1.wrt k (.lp N1 ps1 as1 bd1 e1' 1 pd1)).nx ≤ j ∧ j < h2.nx)) σ2 h2 w2 σ2 (h2.wrt k (.lp N2 ps2 as2 bd2 e2' st3 ex)) (w2.putObj y.1 (.loop { r2 with state := if (pendOf ex).isNone then .ready else .done, pending := pendOf ex })) := by
              refine tr_wrt u1.hr D3k ek2 trivial c2 f1 ⟨rfl, rfl, rfl⟩ (by simp) (fun j hj => World.putObj_heap_other hj) ⟨y, _, f1, World.putObj_heap_same lt2, f3, f4.hps, f4.hlt, f4.hn, f4.hsz, f4.has, f4.hbd, f4.he, ?_, rfl⟩
              cases ex <;> (cases hst3; rfl)
            have all : Tr ρ B D σ h w σ2 (h2.wrt k (.lp N2 ps2 as2 bd2 e2' st3 ex)) (w2.putObj y.1 (.loop { r2 with state := if (pendOf ex).isNone then .ready else .done, pending := pendOf ex })) := by
              have x3 := u1.trans exB tf4 t4 (fun j a b => hf1 j a b)
              have x2 := t2.trans tf2 (exB.trans tf4) (Tr.monoD x3 hD2 fun j q => q.imp id fun q => by have : (h1.wrt k (.lp N1 ps1 as1 bd1 e1' 1 pd1)).nx = h1.nx := rfl; omega) hf1
              have x1 := s1.trans exA (tf2.trans (exB.trans tf4)) x2 (fun j a b => hf j a b)
              exact t0.trans tf0 (exA.trans (tf2.trans (exB.trans tf4))) (Tr.monoD x1 (fun _ q => .inl q) fun j q => q.imp id fun q => by have : (h.see k).nx = h.nx := rfl; omega) hf
            have done : ∃ v w', (Instr.endRound y.1 (pendOf ex)).run P w2 = .ok v w' ∧ (fun e w' => ∃ σ' x, e = Ending.returned x ∧ VR ρ σ' (.b v0) x ∧ Tr ρ B D σ h w σ' (h2.wrt k (.lp N2 ps2 as2 bd2 e2' st3 ex)) w') (.returned v) w' := by
              refine ⟨_, _, endr (pendOf ex), σ2, _, rfl, ?_, all⟩
              cases ex <;> (cases hst3; rfl)
            cases ex with
            | nrm => exact done
            | exit id => exact done
            | ret => exact done
          · cases hx
        · cases hx
      · cases hx
    · cases hx
  · cases hx
theorem run_ok {tab : Trie XF} (htab : TabOk P tab) {orc : Nat → Option (List TV → SH → Option (TV × SH))} (horc : ∀ f g, orc f = some g → OneOk P ρ B f g) (fuel : Nat) : ∀ n, CallOk P ρ B (run meth tab orc fuel n)
  | 0 => { fn := fun f args h v h' hx => (by cases hx), yd := fun k args h v h' hx => (by cases hx) }
  | n + 1 =>
    { fn := fun f args h v h' hx => by
        unfold run at hx
        split at hx
        · rename_i g hg
          exact horc f g hg args h v h' hx
        · split at hx
          · rename_i x hxf
            obtain ⟨fn, h1, h2⟩ := htab f x hxf
            exact evF_ok hρ hmeth hmix (run_ok htab horc fuel n) h2 h1 fuel args h v h' hx
          · cases hx
      yd := fun k args h v h' hx => evY_ok hρ hmeth hmix (run_ok htab horc fuel n) fuel k args h v h' hx }
end
end Go.Proofs.YtgjfdbbghefdbaaGreatDoor.Sx
namespace Go.Proofs.YtgjfdbbghefdbaaGreatDoor.Sx
open Go.RowKit
def keepE (e : Trie TV) : List Nat → Trie TV
  | [] => .lf
  | k :: r => (keepE e r).set 12 k (getE e k)
def ndT (l : Trie TB) (v : Option TB) (r : Trie TB) : Trie TB :=
  match l, v, r with
  | .lf, none, .lf => .lf
  | l, v, r => .nd l v r
theorem ndT_get (l : Trie TB) (v : Option TB) (r : Trie TB) (k : Nat) : (ndT l v r).get k = (Trie.nd l v r).get k := by
  unfold ndT
  split
  · unfold Trie.get
    cases Nat.beq k 0 <;> cases Nat.beq (k % 2) 1 <;> rfl
  · rfl
def cutT (n : Nat) : Trie TB → Nat → Nat → Trie TB
  | .lf, _, _ => .lf
  | .nd l v r, a, s => ndT (cutT n l (a + s) (2 * s)) (cond (Nat.blt a n) v none) (cutT n r (a + 2 * s) (2 * s))
mutual
/-- Are a value's names below a number? -/
def TV.under (n : Nat) : TV → Bool
  | .p k _ => Nat.blt k n
  | .sl k _ _ _ _ _ => Nat.blt k n
  | .m k => Nat.blt k n
  | .y k => Nat.blt k n
  | .f _ a c => cond (underL n a) (underL n c) false
  | .ifc _ v => v.under n
  | .ag l => underL n l
  | .tu l => underL n l
  | _ => true
def underL (n : Nat) : List TV → Bool
  | [] => true
  | t :: r => cond (t.under n) (underL n r) false
end
def underM (n : Nat) : List (TV × TV × Nat) → Bool
  | [] => true
  | x :: r => cond (x.1.under n) (cond (x.2.1.under n) (underM n r) false) false
def TB.under (n : Nat) : TB → Bool
  | .cells l _ _ => underL n l
  | .dead => true
  | .mp es _ => underM n es
  | .lp .. => false
  | .df => true
  | .it _ _ => true
  | .bd l _ => underL n l
def underT (n : Nat) : Trie TB → Bool
  | .lf => true
  | .nd l v r => cond (underT n l) (cond (underT n r) (match v with
    | some b => b.under n
    | none => true) false) false
def underK (n : Nat) (e : Trie TV) : List Nat → Bool
  | [] => true
  | k :: r => cond (Nat.blt k 4000) (cond ((getE e k).under n) (underK n e r) false) false
def rnd (f : Trie TV → SH → Option (EX × Trie TV × SH)) : Nat → Trie TV → SH → Option (EX × Trie TV × SH)
  | 0, _, _ => none
  | k + 1, e, h => match f e h with
    | some (.nrm, e, h) => rnd f k e h
    | r => r
def evO (g0 : Nat) (meth : Meth) (call : CallT) : Nat → IC → Trie TV → SH → Option (EX × Trie TV × SH)
  | 0, _, _, _ => none
  | n + 1, c, e, h =>
    match h.pa with
    | .st ks m e' t' n' :: r => cond (Nat.ble g0 m) (cond (Nat.ble m h.nx) (cond (underT m (cutT m h.tr 0 1))
        (evO g0 meth call n c e' ⟨t', n', [], [], h.md, r, .stt (keepE e ks) (cutT m h.tr 0 1) m e' t' n' :: .eqb (underK m (keepE e ks) ks) true :: h.ob⟩) none) none) none
    | _ =>
    match c with
    | .skip => some (.nrm, e, h)
    | .reg l => match evR meth call l e h with
      | some (e, h) => some (.nrm, e, h)
      | none => none
    | .par l anc => match evP meth call l e h [] with
      | some (e, h', acc) => match okPar 0 anc acc.reverse with
        | true => some (.nrm, e, ⟨h'.tr, h'.nx, (allLogs acc).1 ++ h.lg, (allLogs acc).2 ++ h.wr, h'.md, h'.pa, h'.ob⟩)
        | false => none
      | none => none
    | .seq a b => match evO g0 meth call n a e h with
      | some (.nrm, e, h) => evO g0 meth call n b e h
      | r => r
    | .cond c a b => match c.ev e with
      | .b true => evO g0 meth call n a e h
      | .b false => evO g0 meth call n b e h
      | _ => none
    | .blk id c => match evO g0 meth call n c e h with
      | some (.exit j, e, h) => some (cond (Nat.beq j id) .nrm (.exit j), e, h)
      | r => r
    | .loop x => match h.pa with
      | .lp ks m ex e' t' n' :: r => cond (Nat.ble g0 m) (cond (Nat.ble m h.nx)
        (some (ex, e', ⟨t', n', [], [], h.md, r, .loop x (keepE e ks) (cutT m h.tr 0 1) m ex e' t' n' :: .eqb (underK m (keepE e ks) ks) true :: .eqb (underT m (cutT m h.tr 0 1)) true :: h.ob⟩)) none) none
      | .go :: r => rnd (evO g0 meth call n x) n e (h.told r)
      | _ => none
    | .exit id => some (.exit id, e, h)
    | .scope c => evO g0 meth call n c e h
    | .ret => some (.ret, e, h)
    | .rng .. => none
    | .bad => none
def evFO (g0 : Nat) (meth : Meth) (call : CallT) (fuel : Nat) (x : XF) (args : List TV) (h : SH) : Option (TV × SH) :=
  cond (Nat.beq args.length x.np) (
  match evO g0 meth call fuel x.body (initE 0 args .lf) h with
  | some (.exit _, _, _) => none
  | some (_, e, h) => match resE x.res e h with
    | some (l, h) => some (tupOf l, h)
    | none => none
  | none => none) none
theorem keepE_get {e : Trie TV} : ∀ {ks : List Nat}, (∀ k, k ∈ ks → k < 4000) → ∀ t, getE (keepE e ks) t = if t ∈ ks then getE e t else .any
  | [], _, t => by simp [keepE]; rfl
  | k :: r, h, t => by
    unfold keepE
    rw [getE_put (h k (List.mem_cons_self ..)), keepE_get (fun j hj => h j (List.mem_cons_of_mem _ hj))]
    by_cases e1 : t = k
    · subst e1; simp
    · rw [if_neg e1]
      simp [e1]
theorem cutT_get {n : Nat} : ∀ (t : Trie TB) (a s k : Nat), (cutT n t a s).get k = if a + s * k < n then t.get k else none
  | .lf, a, s, k => by simp [cutT, Trie.get]
  | .nd l v r, a, s, k => by
    unfold cutT
    have side : ∀ (c d : Nat), Nat.beq c d = decide (c = d) := by
      intro c d
      by_cases e : c = d
      · subst e; simp
      · rw [decide_eq_false e]; exact Bool.eq_false_iff.2 fun h => e (Nat.eq_of_beq_eq_true h)
    rw [ndT_get]
    simp only [Trie.get, side]
    by_cases h0 : k = 0
    · subst h0
      simp only [decide_true, cond_true, Nat.mul_zero, Nat.add_zero]
      rw [blt_eq]
      by_cases h1 : a < n <;> simp [h1]
    · simp only [h0, decide_false, cond_false]
      by_cases h1 : k % 2 = 1
      · simp only [h1, decide_true, cond_true]
        rw [cutT_get]
        have : a + s + 2 * s * (k / 2) = a + s * k := by
          have : k = 2 * (k / 2) + 1 := by omega
          conv => rhs; rw [this]
          rw [Nat.mul_add, Nat.mul_one, ← Nat.mul_assoc, Nat.mul_comm s 2]; omega
        rw [this]
      · simp only [h1, decide_false, cond_false]
        rw [cutT_get]
        have : a + 2 * s + 2 * s * (k / 2 - 1) = a + s * k := by
          have : k = 2 * (k / 2 - 1) + 2 := by omega
          conv => rhs; rw [this]
          rw [Nat.mul_add, ← Nat.mul_assoc, Nat.mul_comm s 2]; omega
        rw [this]
theorem cut_get {n : Nat} (t : Trie TB) (k : Nat) : (cutT n t 0 1).get k = if k < n then t.get k else none := by
  rw [cutT_get]; simp
def Emb.upto (σ : Emb) (n : Nat) : Emb := ⟨fun k => if k < n then σ k else none, σ.mem⟩
theorem Emb.upto_lt {σ : Emb} {n k : Nat} (h : k < n) : σ.upto n k = σ k := by simp [Emb.upto, h]
theorem VR_upto {ρ : Cx} {σ : Emb} {n : Nat} : ∀ (t : TV) (v : Value), t.under n = true → VR ρ σ t v → VR ρ (σ.upto n) t v := by
  intro t
  induction t using TV.rec (motive_2 := fun l => ∀ vs, underL n l = true → VRs ρ σ l vs → VRs ρ (σ.upto n) l vs) with
  | p k off => intro v h; rintro ⟨y, h1, h2⟩; exact ⟨y, by rw [Emb.upto_lt (blt_lt h)]; exact h1, h2⟩
  | sl k off esz len cap rest => intro v h; rintro ⟨y, c, h1, h2⟩; exact ⟨y, c, by rw [Emb.upto_lt (blt_lt h)]; exact h1, h2⟩
  | m k => intro v h; rintro ⟨y, h1, h2⟩; exact ⟨y, by rw [Emb.upto_lt (blt_lt h)]; exact h1, h2⟩
  | y k => intro v h; rintro ⟨y, h1, h2⟩; exact ⟨y, by rw [Emb.upto_lt (blt_lt h)]; exact h1, h2⟩
  | f g a c ih1 ih2 =>
    intro v h
    obtain ⟨f1, f2⟩ := cond_and (by simpa only [TV.under] using h)
    rintro ⟨x, y, h1, h2, h3⟩
    exact ⟨x, y, h1, ih1 _ f1 h2, ih2 _ f2 h3⟩
  | ifc t u ih => intro v h; rintro ⟨z, h1, h2⟩; exact ⟨z, h1, ih _ (by simpa only [TV.under] using h) h2⟩
  | ag l ih => intro v h; rintro ⟨a, h1, h2⟩; exact ⟨a, h1, ih _ (by simpa only [TV.under] using h) h2⟩
  | tu l ih => intro v h; rintro ⟨a, h1, h2⟩; exact ⟨a, h1, ih _ (by simpa only [TV.under] using h) h2⟩
  | nil => rename_i vs _ h; exact h
  | cons t r ih1 ih2 =>
    rename_i vs hf h
    obtain ⟨f1, f2⟩ := cond_and (by simpa only [underL] using hf)
    obtain ⟨v, q, h1, h2, h3⟩ := h
    exact ⟨v, q, h1, ih1 _ f1 h2, ih2 _ f2 h3⟩
  | _ => exact fun v _ hv => hv
theorem underL_at {n : Nat} : ∀ {l : List TV}, underL n l = true → ∀ {j : Nat} {t : TV}, l[j]? = some t → t.under n = true
  | [], _, j, t, h => by simp at h
  | u :: r, hf, j, t, h => by
    obtain ⟨f1, f2⟩ := cond_and (by simpa only [underL] using hf)
    cases j with
    | zero => simp at h; subst h; exact f1
    | succ j => exact underL_at f2 (by simpa using h)
theorem underT_get {n : Nat} : ∀ {t : Trie TB}, underT n t = true → ∀ {k : Nat} {b : TB}, t.get k = some b → b.under n = true
  | .lf, _, k, b, h => by simp [Trie.get] at h
  | .nd l v r, hu, k, b, h => by
    obtain ⟨u1, u2⟩ := cond_and (by simpa only [underT] using hu)
    obtain ⟨u2, u3⟩ := cond_and u2
    unfold Trie.get at h
    cases c0 : Nat.beq k 0 with
    | true => rw [c0, cond_true] at h; subst h; exact u3
    | false =>
      rw [c0, cond_false] at h
      cases c1 : Nat.beq (k % 2) 1 with
      | true => rw [c1, cond_true] at h; exact underT_get u1 h
      | false => rw [c1, cond_false] at h; exact underT_get u2 h
theorem ER_upto {ρ : Cx} {σ : Emb} {n : Nat} : ∀ (l : List (TV × TV × Nat)) (es : List MapEntry), underM n l = true → ER ρ σ l es → ER ρ (σ.upto n) l es
  | [], _, _, he => he
  | x :: r, _, hu, ⟨en, q, h1, h2, h3, h4, h5⟩ => by
    obtain ⟨u1, u2⟩ := cond_and (by simpa only [underM] using hu)
    obtain ⟨u2, u3⟩ := cond_and u2
    exact ⟨en, q, h1, VR_upto _ _ u1 h2, VR_upto _ _ u2 h3, h4, ER_upto r q u3 h5⟩
theorem BR_upto {ρ : Cx} {B : Nat} {σ : Emb} {w : World} {k n : Nat} {b : TB} (hk : k < n) (hu : b.under n = true) (h : BR ρ B σ w k b) : BR ρ B (σ.upto n) w k b := by
  cases b with
  | cells l ty ro =>
    obtain ⟨y, c, fz, h1, h2, h3, h3', h4, h5, h6⟩ := h
    refine ⟨y, c, fz, by rw [Emb.upto_lt hk]; exact h1, h2, h3, h3', h4, h5, fun j t ht => ?_⟩
    obtain ⟨v, e1, e2⟩ := h6 j t ht
    exact ⟨v, e1, VR_upto _ _ (underL_at hu ht) e2⟩
  | dead => trivial
  | mp es clock =>
    obtain ⟨y, a, h1, h2, h3, h4⟩ := h
    exact ⟨y, a, by rw [Emb.upto_lt hk]; exact h1, h2, h3, ER_upto _ _ hu h4⟩
  | lp n ps as bd e st pd => cases hu
  | df =>
    obtain ⟨y, h1, h2⟩ := h
    exact ⟨y, by rw [Emb.upto_lt hk]; exact h1, h2⟩
  | it l pos =>
    obtain ⟨y, h1, h2⟩ := h
    exact ⟨y, by rw [Emb.upto_lt hk]; exact h1, h2⟩
  | bd l ty =>
    obtain ⟨y, c, h1, h2, h3, h4, h4', h5, h6⟩ := h
    refine ⟨y, c, by rw [Emb.upto_lt hk]; exact h1, h2, h3, h4, h4', h5, fun j t ht => ?_⟩
    obtain ⟨v, e1, e2⟩ := h6 j t ht
    exact ⟨v, e1, VR_upto _ _ (underL_at hu ht) e2⟩
theorem underK_spec {n : Nat} {e : Trie TV} : ∀ {ks : List Nat}, underK n e ks = true → ∀ k, k ∈ ks → k < 4000 ∧ (getE e k).under n = true
  | [], _, k, h => by cases h
  | j :: r, hu, k, h => by
    obtain ⟨u1, u2⟩ := cond_and (by simpa only [underK] using hu)
    obtain ⟨u2, u3⟩ := cond_and u2
    rcases List.mem_cons.1 h with rfl | h
    · exact ⟨blt_lt u1, u2⟩
    · exact underK_spec u3 k h
theorem underK_keep {n : Nat} {e : Trie TV} {ks : List Nat} (h : underK n (keepE e ks) ks = true) : underK n e ks = true := by
  have hk := underK_spec h
  have key : ∀ l : List Nat, (∀ k, k ∈ l → k ∈ ks) → underK n e l = true := by
    intro l
    induction l with
    | nil => exact fun _ => rfl
    | cons k r ih =>
      intro hl
      obtain ⟨h1, h2⟩ := hk k (hl k (List.mem_cons_self ..))
      rw [keepE_get (fun j hj => (hk j hj).1), if_pos (hl k (List.mem_cons_self ..))] at h2
      unfold underK
      rw [show Nat.blt k 4000 = true from by rw [blt_eq]; simpa using h1, h2, ih fun j hj => hl j (List.mem_cons_of_mem _ hj)]
      rfl
  exact key ks fun _ h => h
section
variable {P : Program} {ρ : Cx} {W0 : World} {M0 : Mem} {s : Nat} {df : List Deferred}
theorem St.keep {e : Trie TV} {t : Trie TB} {n m : Nat} {ks : List Nat} {a : Act} {w : World} (h : St P ρ W0 M0 s df e t n a w) (g : P.globals.size ≤ m) (h1 : underK m e ks = true) (h2 : underT m (cutT m t 0 1) = true) : St P ρ W0 M0 s df (keepE e ks) (cutT m t 0 1) m a w := by
  obtain ⟨σ, hr, hg, hf, he, hs, hd, hb, hm⟩ := h
  have hget : ∀ k, SH.get ⟨cutT m t 0 1, m, [], [], true, [], []⟩ k = if k < m then t.get k else none := fun k => cut_get t k
  have own : ∀ k, Own ⟨cutT m t 0 1, m, [], [], true, [], []⟩ k → k < m ∧ Own ⟨t, n, [], [], true, [], []⟩ k := fun k ⟨b, b1, b2⟩ => by
    rw [hget] at b1
    by_cases hk : k < m
    · rw [if_pos hk] at b1; exact ⟨hk, b, b1, b2⟩
    · rw [if_neg hk] at b1; cases b1
  refine ⟨σ.upto m, ⟨hr.base, fun k b hb => ?_, fun k b _ hb => ?_, fun k k' _ _ ho ho' hne y y' hy hy' => ?_, fun b c e => ⟨(hr.mem b c e).1, fun k y _ ho hy => ?_⟩, hr.tl⟩, fun g' hg' => ?_, fun k hk => ?_, fun j => ?_, hs, hd, hb, hm⟩
  · rw [hget] at hb
    by_cases hk : k < m
    · exact hk
    · rw [if_neg hk] at hb; cases hb
  · have hu := underT_get h2 hb
    rw [hget] at hb
    by_cases hk : k < m
    · rw [if_pos hk] at hb; exact BR_upto hk hu (hr.blk k b trivial hb)
    · rw [if_neg hk] at hb; cases hb
  · obtain ⟨l1, o1⟩ := own k ho
    obtain ⟨l2, o2⟩ := own k' ho'
    rw [Emb.upto_lt l1] at hy; rw [Emb.upto_lt l2] at hy'
    exact hr.inj k k' trivial trivial o1 o2 hne y y' hy hy'
  · obtain ⟨l1, o1⟩ := own k ho
    rw [Emb.upto_lt l1] at hy
    exact (hr.mem b c e).2 k y trivial o1 hy
  · obtain ⟨r, hr⟩ := hg g' hg'
    exact ⟨r, by rw [Emb.upto_lt (by omega)]; exact hr⟩
  · simp [Emb.upto, Nat.not_lt.2 hk]
  · rw [keepE_get fun k hk => (underK_spec h1 k hk).1]
    split
    · rename_i hj; exact VR_upto _ _ (underK_spec h1 j hj).2 (he j)
    · trivial
theorem St.step {e' : Trie TV} {h h' : SH} {a a' : Act} {w w' : World} {σ : Emb} (hr : HR ρ W0.heap.size (fun _ => True) σ h w) (hg : GlobR P σ) (hf : ∀ k, h.nx ≤ k → σ k = none) (hs : a.tmps.size = s) (hd : a.defers = df) (hb : Below W0.heap.size W0 w) (hm : M0.le σ.mem ∧ ∀ b c, σ.mem b = some c → M0 b = some c ∨ W0.heap.size ≤ b) (tf : TF h h')
    (x : After ρ W0.heap.size (fun _ => True) σ h w a e' h' a' w') : St P ρ W0 M0 s df e' h'.tr h'.nx a' w' := by
  obtain ⟨σ', t, x2, x3, x4⟩ := x
  refine ⟨σ', (t.hr.mono fun _ _ => .inl trivial).of_tr rfl rfl, hg.mono t.up, fun k hk => t.no k (hf k (Nat.le_trans tf.nx hk)) (.inr hk), x2, x3.trans hs, x4.trans hd, ?_, fun b c q => t.up.mem _ _ (hm.1 b c q), fun b c q => ?_⟩
  rotate_left
  · rcases t.nm b c q with q | q | ⟨k, y, _, ⟨bb, b1, b2⟩, hy, rfl⟩
    · exact hm.2 b c q
    · exact .inr (Nat.le_trans hb.size q)
    · obtain ⟨y', e1, _, e3⟩ := BR_block (hr.blk k bb trivial b1) b2
      rw [hy] at e1; cases e1
      exact .inr e3
  refine ⟨t.out.1.trans hb.os, t.out.2.1.trans hb.tape, t.out.2.2.trans hb.output, Nat.le_trans hb.size t.sz, fun b hlt => ?_⟩
  rw [t.fr b (Nat.lt_of_lt_of_le hlt hb.size) fun k y _ ho hy => ?_]
  · exact hb.block b hlt
  · obtain ⟨bb, b1, b2⟩ := ho
    obtain ⟨y', e1, _, e3⟩ := BR_block (hr.blk k bb trivial b1) b2
    rw [hy] at e1; cases e1
    omega
variable {meth : Meth} {call : CallT} (hρ : ∀ j, scalV (ρ j)) (hcall : ∀ B, CallOk P ρ B call) (hmeth : MethOk P ρ meth) (hmix : P.follows .mixedOrders = true) {N : Nat} (hN : N ≤ 4000) (hNs : N ≤ s)
include hρ hcall hmeth hmix hN hNs
theorem evO_ok : ∀ (fuel : Nat) (c : Code) (x : IC) (e e' : Trie TV) (h h' : SH) (ex : EX), cCode P N c = some x → evO P.globals.size meth call fuel x e h = some (ex, e', h') → (∀ o, o ∈ h.ob → o ∈ h'.ob) ∧
    (AllOb P ρ h'.ob → ∀ (a : Act) (w : World) (Q : Exit → Act → World → Prop), St P ρ W0 M0 s df e h.tr h.nx a w → (∀ a' w', St P ρ W0 M0 s df e' h'.tr h'.nx a' w' → Q (exOf ex) a' w') → c.wp P Q a w) := by
  intro fuel
  induction fuel with
  | zero => intro c x e e' h h' ex _ hx; cases hx
  | succ n ih =>
    intro c x e e' h h' ex hc hx
    unfold evO at hx
    split at hx
    · rename_i ks m e0 t0 n0 r hpa
      obtain ⟨c1', hx⟩ := cond_none hx
      obtain ⟨_, hx⟩ := cond_none hx
      obtain ⟨c4', hx⟩ := cond_none hx
      obtain ⟨t1, k1⟩ := ih c x e0 e' _ h' ex hc hx
      refine ⟨fun o q => t1 o (List.mem_cons_of_mem _ (List.mem_cons_of_mem _ q)), fun ho a w Q st hQ => ?_⟩
      have c3' := underK_keep (show underK m (keepE e ks) ks = true from ho _ (t1 _ (List.mem_cons_of_mem _ (List.mem_cons_self ..))))
      have hl : SttC P ρ (keepE e ks) (cutT m h.tr 0 1) m e0 t0 n0 := ho _ (t1 _ (List.mem_cons_self ..))
      exact k1 ho a w Q (hl W0 M0 s df a w (St.keep st (Nat.le_of_ble_eq_true c1') c3' c4')) hQ
    rename_i hnst
    clear hnst
    cases c with
    | skip => cases hc; cases hx; exact ⟨fun _ q => q, fun _ a w Q st hQ => wp_skip (hQ a w st)⟩
    | label l => cases hc; cases hx; exact ⟨fun _ q => q, fun _ a w Q st hQ => wp_label (hQ a w st)⟩
    | exit id => cases hc; cases hx; exact ⟨fun _ q => q, fun _ a w Q st hQ => wp_exit (hQ a w st)⟩
    | ret => cases hc; cases hx; exact ⟨fun _ q => q, fun _ a w Q st hQ => wp_ret (hQ a w st)⟩
    | goto l => cases hc; cases hx
    | refuse s => cases hc; cases hx
    | rangeFunc f ps a b =>
      simp only [cCode] at hc
      split at hc
      · split at hc
        · cases hc; cases hx
        · cases hc
      · cases hc
    | region id arr draw =>
      simp only [cCode] at hc
      split at hc
      · cases hc
      · rename_i l hl
        cases draw with
        | true =>
          simp only [if_true] at hc
          split at hc
          · rename_i ms hms
            split at hc
            · rename_i hst
              cases hc
              simp only [] at hx
              split at hx
              · rename_i e1 h1 acc q1
                split at hx
                · rename_i q2
                  cases hx
                  obtain ⟨p1, p2⟩ := par_ok (id := id) hρ (hcall W0.heap.size) hmeth hN hmix hl hms hst q1 q2
                  refine ⟨p1.ob, fun ho a w Q st hQ => ?_⟩
                  obtain ⟨σ, hr, hg, hf, he, hs, hd, hb, hm⟩ := st
                  have hr : HR ρ W0.heap.size (fun _ => True) σ h w := hr.of_tr rfl rfl
                  exact (wpIn_wide (n := 0)).1 (p2 none ho hr hg (fun k p _ => hf k p) (fun _ _ _ => trivial) he (by omega) fun a' w' q => hQ a' w' (St.step hr hg hf hs hd hb hm p1 q))
                · cases hx
              · cases hx
            · cases hc
          · cases hc
        | false =>
          simp only [Bool.false_eq_true, if_false] at hc
          cases hc
          simp only [] at hx
          split at hx
          · rename_i e1 h1 q1
            cases hx
            have p1 := tf_evR (hcall W0.heap.size) q1
            refine ⟨p1.ob, fun ho a w Q st hQ => ?_⟩
            obtain ⟨σ, hr, hg, hf, he, hs, hd, hb, hm⟩ := st
            have hr : HR ρ W0.heap.size (fun _ => True) σ h w := hr.of_tr rfl rfl
            exact (wpIn_wide (n := 0)).1 (wpIn_region_list (evR_ok hρ (hcall W0.heap.size) hmeth none hN hl q1 ho hr hg (fun k p _ => hf k p) (fun _ _ _ => trivial) he (by omega) fun a' w' q => hQ a' w' (St.step hr hg hf hs hd hb hm p1 q)))
          · cases hx
    | seq c1 c2 =>
      simp only [cCode] at hc
      split at hc
      · rename_i x1 x2 hc1 hc2
        cases hc
        simp only [] at hx
        split at hx
        · rename_i e1 h1 q1
          obtain ⟨t1, k1⟩ := ih c1 x1 e e1 h h1 _ hc1 q1
          obtain ⟨t2, k2⟩ := ih c2 x2 e1 e' h1 h' ex hc2 hx
          refine ⟨fun o q => t2 o (t1 o q), fun ho a w Q st hQ => wp_seq (k1 (fun o q => ho o (t2 o q)) a w _ st fun a1 w1 st1 => ?_)⟩
          exact k2 ho a1 w1 Q st1 hQ
        · rename_i hne
          obtain ⟨t1, k1⟩ := ih c1 x1 e e' h h' ex hc1 hx
          refine ⟨t1, fun ho a w Q st hQ => wp_seq (k1 ho a w _ st fun a' w' q => ?_)⟩
          have := hQ a' w' q
          cases ex with
          | nrm => exact absurd hx (hne _ _)
          | exit id => exact this
          | ret => exact this
      · cases hc
    | cond o c1 c2 =>
      simp only [cCode] at hc
      split at hc
      · rename_i o' x1 x2 ho hc1 hc2
        cases hc
        simp only [] at hx
        split at hx
        · rename_i q1
          obtain ⟨t1, k1⟩ := ih c1 x1 e e' h h' ex hc1 hx
          refine ⟨t1, fun hob a w Q st hQ => ?_⟩
          have st0 := st
          obtain ⟨σ, hr, hg, hf, he, _⟩ := st0
          have g := opd_ok he hg ho
          rw [q1] at g
          exact wp_cond_true g (k1 hob a w Q st hQ)
        · rename_i q1
          obtain ⟨t1, k1⟩ := ih c2 x2 e e' h h' ex hc2 hx
          refine ⟨t1, fun hob a w Q st hQ => ?_⟩
          have st0 := st
          obtain ⟨σ, hr, hg, hf, he, _⟩ := st0
          have g := opd_ok he hg ho
          rw [q1] at g
          exact wp_cond_false g (k1 hob a w Q st hQ)
        · cases hx
      · cases hc
    | block id c1 =>
      simp only [cCode, Option.map_eq_some_iff] at hc
      obtain ⟨x1, hc1, rfl⟩ := hc
      simp only [] at hx
      split at hx
      · rename_i j e1 h1 q1
        cases hx
        obtain ⟨t1, k1⟩ := ih c1 x1 e e' h h' _ hc1 q1
        refine ⟨t1, fun ho a w Q st hQ => wp_block (k1 ho a w _ st fun a' w' x => ?_)⟩
        have := hQ a' w' x
        cases hj : Nat.beq j id with
        | true =>
          rw [hj] at this
          obtain rfl := Nat.eq_of_beq_eq_true hj
          show (if j = j then Q .normal a' w' else Q (.exit j) a' w')
          rw [if_pos rfl]; exact this
        | false =>
          rw [hj] at this
          show (if j = id then Q .normal a' w' else Q (.exit j) a' w')
          rw [if_neg (fun q => by subst q; simp at hj)]; exact this
      · rename_i hne
        obtain ⟨t1, k1⟩ := ih c1 x1 e e' h h' ex hc1 hx
        refine ⟨t1, fun ho a w Q st hQ => wp_block (k1 ho a w _ st fun a' w' x => ?_)⟩
        have := hQ a' w' x
        cases ex with
        | nrm => exact this
        | exit j => exact absurd hx (hne _ _ _)
        | ret => exact this
    | loop c1 =>
      simp only [cCode, Option.map_eq_some_iff] at hc
      obtain ⟨x1, hc1, rfl⟩ := hc
      simp only [] at hx
      split at hx
      · rename_i ks m ex0 e0 t0 n0 r hpa
        obtain ⟨c1', hx⟩ := cond_none hx
        obtain ⟨_, hx⟩ := cond_none hx
        cases hx
        refine ⟨fun o q => List.mem_cons_of_mem _ (List.mem_cons_of_mem _ (List.mem_cons_of_mem _ q)), fun ho a w Q st hQ => ?_⟩
        have c3' := underK_keep (show underK m (keepE e ks) ks = true from ho.tail.head)
        have c4' : underT m (cutT m h.tr 0 1) = true := ho.tail.tail.head
        have hl : LoopC P ρ x1 (keepE e ks) (cutT m h.tr 0 1) m ex e' t0 n0 := ho.head
        obtain ⟨k, hl⟩ := hl
        exact wp_loop_rounds k (hl c1 N W0 M0 s df hN hNs hc1 a w Q (St.keep st (Nat.le_of_ble_eq_true c1') c3' c4') hQ)
      · rename_i r hpa
        have key : ∀ (k : Nat) (e e' : Trie TV) (h h' : SH) (ex : EX), rnd (evO P.globals.size meth call n x1) k e h = some (ex, e', h') → (∀ o, o ∈ h.ob → o ∈ h'.ob) ∧
            (AllOb P ρ h'.ob → ∀ (a : Act) (w : World) (Q : Exit → Act → World → Prop), St P ρ W0 M0 s df e h.tr h.nx a w → (∀ a' w', St P ρ W0 M0 s df e' h'.tr h'.nx a' w' → Q (exOf ex) a' w') → Code.rounds P c1 Q k a w) := by
          intro k
          induction k with
          | zero => intro e e' h h' ex hx; cases hx
          | succ k ihk =>
            intro e e' h h' ex hx
            unfold rnd at hx
            split at hx
            · rename_i e1 h1 q1
              obtain ⟨t1, k1⟩ := ih c1 x1 e e1 h h1 _ hc1 q1
              obtain ⟨t2, k2⟩ := ihk e1 e' h1 h' ex hx
              refine ⟨fun o q => t2 o (t1 o q), fun ho a w Q st hQ => ?_⟩
              show c1.wp P (Exit.then (Code.rounds P c1 Q k) Q) a w
              exact k1 (fun o q => ho o (t2 o q)) a w _ st fun a1 w1 st1 => k2 ho a1 w1 Q st1 hQ
            · rename_i hne
              obtain ⟨t1, k1⟩ := ih c1 x1 e e' h h' ex hc1 hx
              refine ⟨t1, fun ho a w Q st hQ => ?_⟩
              show c1.wp P (Exit.then (Code.rounds P c1 Q k) Q) a w
              refine k1 ho a w _ st fun a' w' q => ?_
              have := hQ a' w' q
              cases ex with
              | nrm => exact absurd hx (hne _ _)
              | exit id => exact this
              | ret => exact this
        obtain ⟨t1, k1⟩ := key n e e' (h.told r) h' ex hx
        exact ⟨t1, fun ho a w Q st hQ => wp_loop_rounds n (k1 ho a w Q st hQ)⟩
      · cases hx
    | scope c1 =>
      simp only [cCode, Option.map_eq_some_iff] at hc
      obtain ⟨x1, hc1, rfl⟩ := hc
      simp only [] at hx
      obtain ⟨t1, k1⟩ := ih c1 x1 e e' h h' ex hc1 hx
      refine ⟨t1, fun ho a w Q st hQ => wp_scope_straight (k1 ho a w _ st fun a' w' x => ?_)⟩
      have := hQ a' w' x
      cases ex <;> exact this
end
end Go.Proofs.YtgjfdbbghefdbaaGreatDoor.Sx
namespace Go.Proofs.YtgjfdbbghefdbaaGreatDoor.Sx
open Go.RowKit
def Owes (P : Program) (ρ : Cx) : List Ob → Prop
  | [] => True
  | o :: l => ObOk P ρ o ∧ Owes P ρ l
theorem Owes.all {P : Program} {ρ : Cx} : ∀ {l : List Ob}, Owes P ρ l → AllOb P ρ l
  | [], _, o, ho => by cases ho
  | _ :: _, h, o, ho => by
    rcases List.mem_cons.1 ho with rfl | ho
    · exact h.1
    · exact Owes.all h.2 o ho
def mkE : List (Nat × TV) → Trie TV
  | [] => .lf
  | p :: r => (mkE r).set 12 p.1 p.2
def mkT : List (Nat × TB) → Trie TB
  | [] => .lf
  | p :: r => (mkT r).set 24 p.1 p.2
def bodyO (g0 : Nat) (meth : Meth) (call : CallT) (fuel : Nat) (x : IC) (ks : List Nat) (m : Nat) (e : Trie TV) (t : Trie TB) (n : Nat) (pa : List PA) : Option (EX × Trie TV × Trie TB × List Ob) :=
  match evO g0 meth call fuel x e ⟨t, n, [], [], true, pa, []⟩ with
  | some (ex, e1, h1) => cond (Nat.ble g0 m) (some (ex, keepE e1 ks, cutT m h1.tr 0 1, .eqb (underK m (keepE e1 ks) ks) true :: .eqb (underT m (cutT m h1.tr 0 1)) true :: h1.ob)) none
  | none => none
def funO (g0 : Nat) (meth : Meth) (call : CallT) (fuel : Nat) (x : XF) (args : List TV) (pa : List PA) : Option (TV × List Ob) :=
  match evFO g0 meth call fuel x args ⟨.lf, g0, [], [], true, pa, []⟩ with
  | some (v, h) => some (v, h.ob)
  | none => none
def funR (g0 : Nat) (meth : Meth) (call : CallT) (fuel : Nat) (x : XF) (args : List TV) (ks : List AK) (pa : List PA) : Option (TV × List Ob) :=
  cond (Nat.beq args.length x.np) (
  match evO g0 meth call fuel x.body (initE 0 args .lf) ⟨.lf, g0, [], [], true, pa, []⟩ with
  | some (.exit _, _, _) => none
  | some (_, e, h) => match resE x.res e h with
    | some (l, h1) => match resL meth.lay 100 ks l h1.fresh with
      | some (l2, h3) => match frz h1 h3.lg h1 with
        | some _ => some (tupOf l2, h3.ob)
        | none => none
      | none => none
    | none => none
  | none => none) none
section
variable {P : Program} {ρ : Cx} {meth : Meth} {call : CallT} (hρ : ∀ j, scalV (ρ j)) (hcall : ∀ B, CallOk P ρ B call) (hmeth : MethOk P ρ meth) (hmix : P.follows .mixedOrders = true)
include hρ hcall hmeth hmix
theorem body_some {fuel : Nat} {x : IC} {ks : List Nat} {m : Nat} {e e2 : Trie TV} {t t2 : Trie TB} {n : Nat} {pa : List PA} {ex : EX} {obs : List Ob} (hx : bodyO P.globals.size meth call fuel x ks m e t n pa = some (ex, e2, t2, obs)) (ho : Owes P ρ obs) :
    ∀ (c : Code) (N : Nat) (W0 : World) (M0 : Mem) (s : Nat) (df : List Deferred), N ≤ 4000 → N ≤ s → cCode P N c = some x → ∀ (a : Act) (w : World) (Q : Exit → Act → World → Prop), St P ρ W0 M0 s df e t n a w → (∀ a' w', St P ρ W0 M0 s df e2 t2 m a' w' → Q (exOf ex) a' w') → c.wp P Q a w := by
  intro c N W0 M0 s df hN hNs hc a w Q st hQ
  unfold bodyO at hx
  split at hx
  · rename_i ex1 e1 h1 q1
    obtain ⟨c1, hx⟩ := cond_none hx
    cases hx
    have c2 := underK_keep (show underK m (keepE e1 ks) ks = true from ho.1)
    have c3 : underT m (cutT m h1.tr 0 1) = true := ho.2.1
    exact (evO_ok hρ hcall hmeth hmix hN hNs fuel c x e e1 _ h1 ex hc q1).2 ho.2.2.all a w Q st fun a' w' st' => hQ a' w' (St.keep st' (Nat.le_of_ble_eq_true c1) c2 c3)
  · cases hx
theorem loop_more {fuel : Nat} {x : IC} {ks : List Nat} {m : Nat} {e e2 e' : Trie TV} {t t2 t' : Trie TB} {n n' : Nat} {pa : List PA} {ex : EX} {obs : List Ob} (hx : bodyO P.globals.size meth call fuel x ks m e t n pa = some (.nrm, e2, t2, obs)) (ho : Owes P ρ obs) (hl : LoopC P ρ x e2 t2 m ex e' t' n') : LoopC P ρ x e t n ex e' t' n' := by
  obtain ⟨k, hl⟩ := hl
  refine ⟨k + 1, fun c N W0 M0 s df hN hNs hc a w Q st hQ => ?_⟩
  show c.wp P (Exit.then (Code.rounds P c Q k) Q) a w
  exact body_some hρ hcall hmeth hmix hx ho c N W0 M0 s df hN hNs hc a w _ st fun a' w' st' => hl c N W0 M0 s df hN hNs hc a' w' Q st' hQ
theorem loop_end {fuel : Nat} {x : IC} {ks : List Nat} {m : Nat} {e e2 : Trie TV} {t t2 : Trie TB} {n : Nat} {pa : List PA} {ex : EX} {obs : List Ob} (hx : bodyO P.globals.size meth call fuel x ks m e t n pa = some (ex, e2, t2, obs)) (hne : ex ≠ .nrm) (ho : Owes P ρ obs) : LoopC P ρ x e t n ex e2 t2 m := by
  refine ⟨1, fun c N W0 M0 s df hN hNs hc a w Q st hQ => ?_⟩
  show c.wp P (Exit.then (Code.rounds P c Q 0) Q) a w
  refine body_some hρ hcall hmeth hmix hx ho c N W0 M0 s df hN hNs hc a w _ st fun a' w' st' => ?_
  have := hQ a' w' st'
  cases ex with
  | nrm => exact absurd rfl hne
  | exit id => exact this
  | ret => exact this
theorem pure_of {fuel : Nat} {f : Nat} {fn : Func} {x : XF} (hfn : P.funcs[f]? = some fn) (hc : cFunc P fn = some x) {args : List TV} {pa : List PA} {v : TV} {obs : List Ob} (hx : funO P.globals.size meth call fuel x args pa = some (v, obs)) (hv : v.flat = true) (ho : Owes P ρ obs) : PureC P ρ f args v := by
  unfold cFunc at hc
  split at hc
  · cases hc
  rename_i c hb
  split at hc
  · cases hc
  rename_i hname
  split at hc
  · rename_i hnt
    split at hc
    · rename_i b rs c1 c2
      split at hc
      · rename_i hnp
        cases hc
        refine ⟨fun vs w => ?_, fun w M vs hM hT hvs => ?_⟩
        · unfold callFunc
          rw [run_bind, run_program]
          simp only [hfn]
          rw [if_neg hname, hb]
          rfl
        · unfold funO evFO at hx
          split at hx
          · rename_i v1 h1 q1
            cases hx
            obtain ⟨clen, q1⟩ := cond_none q1
            have clen : args.length = fn.params.size + fn.nfree := Nat.eq_of_beq_eq_true clen
            simp only [] at q1
            have main : ∀ ex e1 h2, evO P.globals.size meth call fuel b (initE 0 args .lf) ⟨.lf, P.globals.size, [], [], true, pa, []⟩ = some (ex, e1, h2) → (∀ id, ex ≠ .exit id) → ∀ l, resE rs e1 h2 = some (l, h1) → v = tupOf l →
                Calls P f vs w fun e w' => ∃ x M', e = .returned x ∧ M.le M' ∧ (∀ b c, M' b = some c → M b = some c ∨ w.heap.size ≤ b) ∧ MemOk M' w' ∧ VR ρ (bare M') v x ∧ Below w.heap.size w w' := by
              intro ex e1 h2 r1 r2 l r3 r4
              subst r4
              have hvl := VRs_len hvs
              simp only [Array.length_toList] at hvl
              obtain ⟨t2, r5, r6⟩ := resE_tf r3
              refine calls_of_wp hfn hb ?_
              have hle : (bare M).le ⟨fun g => if g < P.globals.size then some (g, 0, 0) else none, M⟩ := ⟨fun _ _ x => (by cases x), fun _ _ x => x⟩
              have henv : EnvR ρ ⟨fun g => if g < P.globals.size then some (g, 0, 0) else none, M⟩ (initE 0 args .lf) (vs ++ Array.replicate (fn.ntmps - vs.size) undef) := by
                intro t
                rw [initE_get args 0 _ t (by omega), Array.getD_eq_getD_getElem?]
                by_cases ht : t < args.length
                · rw [if_pos (by omega), Nat.sub_zero, List.getElem?_eq_getElem ht]
                  obtain ⟨u, u1, u2⟩ := VRs_get hvs (List.getElem?_eq_getElem ht)
                  rw [Array.getElem?_append_left (by omega)]
                  rw [Array.getElem?_toList] at u1
                  rw [u1]
                  exact VR_mono hle _ _ u2
                · rw [if_neg (by omega)]
                  exact trivial
              refine (evO_ok (W0 := w) (M0 := M) (s := (vs ++ Array.replicate (fn.ntmps - vs.size) undef).size) (df := []) hρ hcall hmeth hmix (N := fn.ntmps) (by omega) (by simp; omega) fuel c b _ e1 _ h2 ex c1 r1).2 (AllOb.of_tf t2 ho.all) _ w _ ?_ ?_
              · refine ⟨⟨fun g => if g < P.globals.size then some (g, 0, 0) else none, M⟩, ⟨Nat.le_refl _, fun k b hk => (by cases hk), fun k b _ hk => (by cases hk), fun k k' _ _ ho => (by obtain ⟨b, b1, _⟩ := ho; cases b1), fun b c e => ⟨hM b c e, fun k y _ ho => (by obtain ⟨b, b1, _⟩ := ho; cases b1)⟩, hT⟩, fun g hg => ⟨0, by simp [hg]⟩, fun k hk => by simp [Nat.not_lt.2 hk], henv, rfl, rfl, ⟨rfl, rfl, rfl, Nat.le_refl _, fun _ _ => rfl⟩, fun _ _ q => q, fun _ _ q => .inl q⟩
              · rintro a' w' ⟨σ', s1, s2, s3, s4, s5, s6, s7, s8, s9⟩
                obtain ⟨us, u1, u2⟩ := resE_ok c2 r3 (s1.of_tr rfl rfl) (fun _ _ _ => trivial) s4
                have hres := results_ok (P := P) (w := w') u1
                have fin : ∃ x M', (Ending.returned (joinV us)) = .returned x ∧ M.le M' ∧ (∀ b c, M' b = some c → M b = some c ∨ w.heap.size ≤ b) ∧ MemOk M' w' ∧ VR ρ (bare M') (tupOf l) x ∧ Below w.heap.size w w' := ⟨_, M, rfl, fun _ _ q => q, fun _ _ q => .inl q, memOk_below hM s7, VR_flat hv (tup_ok u2), s7⟩
                cases ex with
                | nrm => exact ⟨s6, _, hres, fin⟩
                | ret => exact ⟨s6, _, hres, fin⟩
                | exit id => exact absurd rfl (r2 id)
            split at q1
            · cases q1
            · rename_i ex e1 h2 hne r1
              split at q1
              · rename_i l h3 r2
                cases q1
                exact main _ _ _ r1 (fun id q => hne id q) l r2 rfl
              · cases q1
            · cases q1
          · cases hx
      · cases hc
    · cases hc
  · cases hc
theorem fresh_of {fuel : Nat} {f : Nat} {fn : Func} {x : XF} (hfn : P.funcs[f]? = some fn) (hc : cFunc P fn = some x) {args : List TV} {ks : List AK} {pa : List PA} {v : TV} {obs : List Ob} (hx : funR P.globals.size meth call fuel x args ks pa = some (v, obs)) (ho : Owes P ρ obs) : PureC P ρ f args v := by
  unfold cFunc at hc
  split at hc
  · cases hc
  rename_i c hb
  split at hc
  · cases hc
  rename_i hname
  split at hc
  · rename_i hnt
    split at hc
    · rename_i b rs c1 c2
      split at hc
      · rename_i hnp
        cases hc
        refine ⟨fun vs w => ?_, fun w M vs hM hT hvs => ?_⟩
        · unfold callFunc
          rw [run_bind, run_program]
          simp only [hfn]
          rw [if_neg hname, hb]
          rfl
        · unfold funR at hx
          obtain ⟨clen, hx⟩ := cond_none hx
          have clen : args.length = fn.params.size + fn.nfree := Nat.eq_of_beq_eq_true clen
          simp only [] at hx
          split at hx
          · cases hx
          · rename_i ex e1 h2 hne r1
            split at hx
            · rename_i l h1 r3
              split at hx
              · rename_i l2 h3 r4
                split at hx
                · rename_i h4 r5
                  cases hx
                  rw [hmeth.2.2.1] at r4
                  obtain ⟨tf, nx, g1, g2⟩ := frz_spec _ _ _ r5 fun k => .inl rfl
                  have hvl := VRs_len hvs
                  simp only [Array.length_toList] at hvl
                  obtain ⟨t2, r6, r7⟩ := resE_tf r3
                  refine calls_of_wp hfn hb ?_
                  have hle : (bare M).le ⟨fun g => if g < P.globals.size then some (g, 0, 0) else none, M⟩ := ⟨fun _ _ x => (by cases x), fun _ _ x => x⟩
                  have henv : EnvR ρ ⟨fun g => if g < P.globals.size then some (g, 0, 0) else none, M⟩ (initE 0 args .lf) (vs ++ Array.replicate (fn.ntmps - vs.size) undef) := by
                    intro t
                    rw [initE_get args 0 _ t (by omega), Array.getD_eq_getD_getElem?]
                    by_cases ht : t < args.length
                    · rw [if_pos (by omega), Nat.sub_zero, List.getElem?_eq_getElem ht]
                      obtain ⟨u, u1, u2⟩ := VRs_get hvs (List.getElem?_eq_getElem ht)
                      rw [Array.getElem?_append_left (by omega)]
                      rw [Array.getElem?_toList] at u1
                      rw [u1]
                      exact VR_mono hle _ _ u2
                    · rw [if_neg (by omega)]
                      exact trivial
                  have rtf := fun (σ : Emb) (w : World) (MM : Mem) (hMM : σ.mem.le MM) => (res_ok (P := P) (ρ := ρ) (D := fun _ => True) (B := w.heap.size) (σ := σ) (w := w) hMM 100).b _ _ _ _ _ r4
                  have tfr : TF h1.fresh h3 := (rtf ⟨fun _ => none, fun _ => none⟩ w (fun _ => none) (fun _ _ q => q)).1.tf
                  refine (evO_ok (W0 := w) (M0 := M) (s := (vs ++ Array.replicate (fn.ntmps - vs.size) undef).size) (df := []) hρ hcall hmeth hmix (N := fn.ntmps) (by omega) (by simp; omega) fuel c b _ e1 _ h2 ex c1 r1).2 (fun o q => ho.all o (tfr.ob o (t2.ob o q))) _ w _ ?_ ?_
                  · refine ⟨⟨fun g => if g < P.globals.size then some (g, 0, 0) else none, M⟩, ⟨Nat.le_refl _, fun k b hk => (by cases hk), fun k b _ hk => (by cases hk), fun k k' _ _ ho => (by obtain ⟨b, b1, _⟩ := ho; cases b1), fun b c e => ⟨hM b c e, fun k y _ ho => (by obtain ⟨b, b1, _⟩ := ho; cases b1)⟩, hT⟩, fun g hg => ⟨0, by simp [hg]⟩, fun k hk => by simp [Nat.not_lt.2 hk], henv, rfl, rfl, ⟨rfl, rfl, rfl, Nat.le_refl _, fun _ _ => rfl⟩, fun _ _ q => q, fun _ _ q => .inl q⟩
                  · rintro a' w' ⟨σ', s1, s2, s3, s4, s5, s6, s7, s8, s9⟩
                    obtain ⟨us, u1, u2⟩ := resE_ok c2 r3 (s1.of_tr rfl rfl) (fun _ _ _ => trivial) s4
                    have hres := results_ok (P := P) (w := w') u1
                    have s1' : HR ρ w.heap.size (fun _ => True) σ' h1 w' := s1.of_tr r6 r7
                    have hvl2 := ((res_ok (P := P) (ρ := ρ) (D := fun _ => True) (B := w.heap.size) (σ := σ') (w := w') (memWith_le s1' h3.lg) 100).b _ _ _ _ _ r4).2 ho.all (s1'.of_tr rfl rfl) (fun k p _ => ⟨trivial, fun y c ty fz hy q => memWith_at p hy q⟩) _ u2
                    have fin : ∃ x M', (Ending.returned (joinV us)) = .returned x ∧ M.le M' ∧ (∀ b c, M' b = some c → M b = some c ∨ w.heap.size ≤ b) ∧ MemOk M' w' ∧ VR ρ (bare M') (tupOf l2) x ∧ Below w.heap.size w w' := by
                      refine ⟨_, memWith σ' w' h3.lg, rfl, fun b c q => memWith_le s1' _ b c (s8 b c q), fun b c q => ?_, memWith_ok s1' _, tup_ok hvl2, s7⟩
                      rcases memWith_or q with q | ⟨k, y, q1, q2, rfl⟩
                      · exact s9 b c q
                      · obtain ⟨_, _, _, c, ty, q3⟩ := g2 k q1
                        obtain ⟨y', e1, _, e3⟩ := BR_block (s1'.blk k _ trivial q3) rfl
                        rw [q2] at e1; cases e1
                        exact .inr e3
                    cases ex with
                    | nrm => exact ⟨s6, _, hres, fin⟩
                    | ret => exact ⟨s6, _, hres, fin⟩
                    | exit id => exact (hne id rfl).elim
                · cases hx
              · cases hx
            · cases hx
          · cases hx
      · cases hc
    · cases hc
  · cases hc
end
end Go.Proofs.YtgjfdbbghefdbaaGreatDoor.Sx
namespace Go.Proofs.YtgjfdbbghefdbaaGreatDoor.Sx
open Go.RowKit
def ofList : List (Nat × XF) → Trie XF
  | [] => .lf
  | p :: r => (ofList r).set 24 p.1 p.2
theorem ofList_get : ∀ {l : List (Nat × XF)}, (∀ p, p ∈ l → p.1 < 1000000) → ∀ {f : Nat} {x : XF}, (ofList l).get f = some x → (f, x) ∈ l
  | [], _, f, x, h => by cases h
  | p :: r, hs, f, x, h => by
    have hp := hs p (List.mem_cons_self ..)
    unfold ofList at h
    rw [Trie.get_set 24 _ _ _ _ (by omega)] at h
    by_cases e : f = p.1
    · rw [if_pos e] at h
      cases h
      subst e
      exact List.mem_cons_self ..
    · rw [if_neg e] at h
      exact List.mem_cons_of_mem _ (ofList_get (fun q hq => hs q (List.mem_cons_of_mem _ hq)) h)
def smallAll : List (Nat × XF) → Bool
  | [] => true
  | p :: r => cond (Nat.blt p.1 1000000) (smallAll r) false
theorem small_of : ∀ {l : List (Nat × XF)}, smallAll l = true → ∀ p, p ∈ l → p.1 < 1000000
  | [], _, p, hp => by cases hp
  | q :: r, h, p, hp => by
    unfold smallAll at h
    cases hb : Nat.blt q.1 1000000 with
    | false => rw [hb] at h; cases h
    | true =>
      rw [hb] at h
      rcases List.mem_cons.1 hp with rfl | hp
      · exact blt_lt hb
      · exact small_of h p hp
theorem tab_of {P : Program} {tab : Trie XF} {l : List (Nat × XF)} (h : tab = ofList l) (hs : smallAll l = true) (hl : ∀ p, p ∈ l → ∃ fn, P.funcs[p.1]? = some fn ∧ cFunc P fn = some p.2) : TabOk P tab := by
  intro f x hx
  subst h
  exact hl (f, x) (ofList_get (small_of hs) hx)
def noOrc : Nat → Option (List TV → SH → Option (TV × SH)) := fun _ => none
theorem calls_ok {P : Program} {ρ : Cx} (hρ : ∀ j, scalV (ρ j)) {meth : Meth} (hmeth : MethOk P ρ meth) (hmix : P.follows .mixedOrders = true) {tab : Trie XF} (htab : TabOk P tab) (fuel n : Nat) (B : Nat) : CallOk P ρ B (run meth tab noOrc fuel n) :=
  run_ok hρ hmeth hmix htab (orc := noOrc) (fun _ _ e => (by cases e)) fuel n
end Go.Proofs.YtgjfdbbghefdbaaGreatDoor.Sx
namespace Go.Proofs.YtgjfdbbghefdbaaGreatDoor.Sx
open Go.RowKit
def okv : Option (TV × SH) → Bool
  | some (.b true, ⟨_, _, _, _, _, _, []⟩) => true
  | _ => false
theorem okv_some {r : Option (TV × SH)} (h : okv r = true) : ∃ h', r = some (.b true, h') ∧ h'.ob = [] := by
  unfold okv at h
  split at h
  · exact ⟨_, rfl, rfl⟩
  · cases h
def startT (tys : Nat → Nat) : List (Nat × List TV) → Trie TB
  | [] => .lf
  | p :: r => (startT tys r).set 24 p.1 (.cells p.2 (tys p.1) true)
def startL (n : Nat) (L : List (Nat × List TV)) (tys : Nat → Nat) : SH := ⟨startT tys L, n, [], [], false, [], []⟩
def roomOf (w : World) (k : Nat) : Nat := match w.heap[k]? with
  | some (.cells c _ _) => c.size
  | _ => 0
def tyOf (w : World) (k : Nat) : Nat := match w.heap[k]? with
  | some (.cells _ t _) => t
  | _ => 0
def startS (w : World) (n : Nat) (M : Mem) : Emb := ⟨fun k => if k < n then some (k, 0, roomOf w k) else none, M⟩
theorem startT_get (tys : Nat → Nat) : ∀ {L : List (Nat × List TV)}, (∀ p, p ∈ L → p.1 < 1000000) → ∀ {k : Nat} {b : TB}, (startT tys L).get k = some b → ∃ l, (k, l) ∈ L ∧ b = .cells l (tys k) true
  | [], _, k, b, h => by cases h
  | p :: r, hs, k, b, h => by
    have hp := hs p (List.mem_cons_self ..)
    unfold startT at h
    rw [Trie.get_set 24 _ _ _ _ (by omega)] at h
    by_cases e : k = p.1
    · rw [if_pos e] at h
      cases h
      subst e
      exact ⟨p.2, List.mem_cons_self .., rfl⟩
    · rw [if_neg e] at h
      obtain ⟨l, h1, h2⟩ := startT_get tys (fun q hq => hs q (List.mem_cons_of_mem _ hq)) h
      exact ⟨l, List.mem_cons_of_mem _ h1, h2⟩
def ToldL (ρ : Cx) (L : List (Nat × List TV)) : Prop := ∀ p, p ∈ L → ∃ vs, (p.1, vs) ∈ ρ.tl ∧ VRs ρ (bare fun _ => none) p.2 vs
theorem start_ok {P : Program} {ρ : Cx} {w : World} {M : Mem} {L : List (Nat × List TV)} (hG : P.globals.size < 1000000) (hn : ∀ p, p ∈ L → p.1 < P.globals.size) (hL : ToldL ρ L) (hM : MemOk M w) (hT : ToldM ρ.tl M) :
    HR ρ w.heap.size (fun _ => True) (startS w P.globals.size M) (startL P.globals.size L (tyOf w)) w ∧ GlobR P (startS w P.globals.size M) := by
  have hs : ∀ p, p ∈ L → p.1 < 1000000 := fun p hp => by have := hn p hp; omega
  have hget : ∀ k b, (startL P.globals.size L (tyOf w)).get k = some b → ∃ l, (k, l) ∈ L ∧ b = .cells l (tyOf w k) true := fun k b h => startT_get _ hs h
  have noOwn : ∀ k, ¬ Own (startL P.globals.size L (tyOf w)) k := fun k ⟨b, h1, h2⟩ => by
    obtain ⟨l, _, rfl⟩ := hget k b h1
    cases h2
  refine ⟨⟨Nat.le_refl _, fun k b hk => ?_, fun k b _ hk => ?_, fun k k' _ _ ho => absurd ho (noOwn k), fun b c e => ⟨hM b c e, fun k y _ ho => absurd ho (noOwn k)⟩, hT⟩, fun k hk => ?_⟩
  · obtain ⟨l, h1, _⟩ := hget k b hk
    exact hn _ h1
  · obtain ⟨l, h1, rfl⟩ := hget k b hk
    obtain ⟨vs, h2, h3⟩ := hL _ h1
    obtain ⟨c, h4, h5, _⟩ := hT _ h2
    obtain ⟨ty, fz, h6⟩ := hM _ _ h4
    have h6 : w.heap[k]? = some (.cells c ty fz) := h6
    have hr : roomOf w k = c.size := by unfold roomOf; rw [h6]
    have ht : tyOf w k = ty := by unfold tyOf; rw [h6]
    have hlen := VRs_len h3
    have hsz : vs.length ≤ c.size := by
      rcases Nat.eq_zero_or_pos vs.length with q | q
      · omega
      · have := (Array.getElem?_eq_some_iff.1 (h5 (vs.length - 1) vs[vs.length - 1] (by simp))).1
        omega
    refine ⟨(k, 0, c.size), c, fz, ?_, ?_, fun x => (by cases x), fun _ => (Array.getElem?_eq_some_iff.1 h6).1, by simp, by show l.length ≤ c.size; have : vs.length = l.length := hlen; omega, fun j u hu => ?_⟩
    · show (if k < P.globals.size then some (k, 0, roomOf w k) else none) = _
      rw [if_pos (hn _ h1), hr]
    · rw [ht]; exact h6
    · obtain ⟨v, v1, v2⟩ := VRs_get h3 hu
      exact ⟨v, by rw [Nat.zero_add]; exact h5 j v v1, VR_mono (σ := bare fun _ => none) (σ' := startS w P.globals.size M) ⟨fun _ _ (q : none = some _) => (by cases q), fun _ _ (q : none = some _) => (by cases q)⟩ _ _ v2⟩
  · refine ⟨roomOf w k, ?_⟩
    show (if k < P.globals.size then some (k, 0, roomOf w k) else none) = _
    rw [if_pos hk]
theorem shut_of {P : Program} {ρ : Cx} (hρ : ∀ j, scalV (ρ j)) {meth : Meth} (hmeth : MethOk P ρ meth) (hmix : P.follows .mixedOrders = true) {tab : Trie XF} (htab : TabOk P tab) {orc : Nat → Option (List TV → SH → Option (TV × SH))} (horc : ∀ B f g, orc f = some g → OneOk P ρ B f g)
    {L : List (Nat × List TV)} (hG : P.globals.size < 1000000) (hn : ∀ p, p ∈ L → p.1 < P.globals.size) (hL : ToldL ρ L)
    {f fuel n : Nat} (h : ∀ tys, okv (run meth tab orc fuel n (.fn f) [] (startL P.globals.size L tys)) = true)
    {w : World} {M : Mem} (hM : MemOk M w) (hT : ToldM ρ.tl M) :
    (∀ (vs : Array Value) (w : World), (callFunc f vs).run P w = .ok (.enter f vs) w) ∧ Calls P f #[] w fun e w' => e = .returned (.bool true) ∧ Below w.heap.size w w' := by
  obtain ⟨hr, hgl⟩ := start_ok (w := w) hG hn hL hM hT
  obtain ⟨h', hrun, hob⟩ := okv_some (h (tyOf w))
  obtain ⟨_, k⟩ := (run_ok (P := P) (ρ := ρ) (B := w.heap.size) hρ hmeth hmix htab (horc _) fuel n).fn f [] _ _ _ hrun
  obtain ⟨k1, k2⟩ := k (by rw [hob]; intro o ho; cases ho)
  refine ⟨k1, (k2 (fun _ => True) _ w #[] hr hgl (fun j h1 _ => ?_) (fun _ _ _ => trivial) rfl).mono fun e w' hw => ?_⟩
  · have h2 : P.globals.size ≤ j := h1
    show (if j < P.globals.size then some (j, 0, roomOf w j) else none) = none
    rw [if_neg (Nat.not_lt.2 h2)]
  · obtain ⟨σ', x, rfl, hv, ht⟩ := hw
    refine ⟨?_, ht.out.1, ht.out.2.1, ht.out.2.2, ht.sz, fun b hb' => ht.fr b hb' fun k y _ ho hy => ?_⟩
    · cases hv; rfl
    · obtain ⟨b0, h1, h2⟩ := ho
      obtain ⟨l, _, rfl⟩ := startT_get _ (fun p hp => by have := hn p hp; omega) h1
      cases h2
def tabM (l : List (Nat × String × Nat)) : Nat → String → Option Nat := fun t name => (l.find? fun x => Nat.beq x.1 t && x.2.1 == name).map fun x => x.2.2
theorem tabM_ok {P : Program} {l : List (Nat × String × Nat)} (h : ∀ x, x ∈ l → ∀ (v : Value) (w : World), (method (P.types.size + Made.depth) x.1 v x.2.1).run P w = .ok (x.2.2, v) w) :
    ∀ t name g, tabM l t name = some g → ∀ (v : Value) (w : World), (method (P.types.size + Made.depth) t v name).run P w = .ok (g, v) w := by
  intro t name g hg v w
  unfold tabM at hg
  simp only [Option.map_eq_some_iff] at hg
  obtain ⟨x, h1, rfl⟩ := hg
  have h2 := List.find?_some h1
  simp only [Bool.and_eq_true, beq_iff_eq] at h2
  have := h x (List.mem_of_find?_eq_some h1) v w
  rw [Nat.eq_of_beq_eq_true h2.1, h2.2] at this
  exact this
def listOrc : List (Nat × (List TV → SH → Option (TV × SH))) → Nat → Option (List TV → SH → Option (TV × SH))
  | [], _ => none
  | p :: r, i => cond (Nat.beq i p.1) (some p.2) (listOrc r i)
theorem listOrc_ok {P : Program} {ρ : Cx} {B : Nat} : ∀ {l : List (Nat × (List TV → SH → Option (TV × SH)))}, (∀ p, p ∈ l → OneOk P ρ B p.1 p.2) → ∀ i k, listOrc l i = some k → OneOk P ρ B i k
  | [], _, i, k, hk => by cases hk
  | p :: r, h, i, k, hk => by
    unfold listOrc at hk
    cases c : Nat.beq i p.1 with
    | false => rw [c] at hk; exact listOrc_ok (fun q hq => h q (List.mem_cons_of_mem _ hq)) i k hk
    | true =>
      rw [c] at hk
      cases hk
      obtain rfl := Nat.eq_of_beq_eq_true c
      exact h p (List.mem_cons_self ..)
end Go.Proofs.YtgjfdbbghefdbaaGreatDoor.Sx
namespace Go.Proofs.YtgjfdbbghefdbaaGreatDoor.Sx
open Go.RowKit
theorem enter_of' {P : Program} {f : Nat} {fn : Func} (hfn : P.funcs[f]? = some fn) (hname : (fn.name == "runtime.NumGoroutine") = false) (hbody : fn.body.isNone = false) (vs : Array Value) (w : World) : (callFunc f vs).run P w = .ok (.enter f vs) w := by
  unfold callFunc
  rw [run_bind, run_program]
  simp only [hfn]
  rw [if_neg (by rw [hname]; decide), if_neg (by rw [hbody]; decide)]
  rfl
end Go.Proofs.YtgjfdbbghefdbaaGreatDoor.Sx
namespace Go.Proofs.YtgjfdbbghefdbaaGreatDoor.Sx
open Go.RowKit
end Go.Proofs.YtgjfdbbghefdbaaGreatDoor.Sx
namespace Go.Proofs.YtgjfdbbghefdbaaGreatDoor.Sx
open Go.RowKit
def Emb.cut (σ : Emb) (n : Nat) : Emb := ⟨fun k => if k < n then σ k else none, σ.mem⟩
def bEq : Bool → Bool → Bool
  | true, true => true
  | false, false => true
  | _, _ => false
theorem fa {α : Type} {Q : α → Prop} {a : α} {l : List α} (h : Q a) (t : ∀ p, p ∈ l → Q p) : ∀ p, p ∈ a :: l → Q p := fun p hp => by
  rcases List.mem_cons.1 hp with rfl | hp
  · exact h
  · exact t p hp
theorem fz {α : Type} {Q : α → Prop} : ∀ p, p ∈ ([] : List α) → Q p := fun _ hp => by cases hp
end Go.Proofs.YtgjfdbbghefdbaaGreatDoor.Sx
