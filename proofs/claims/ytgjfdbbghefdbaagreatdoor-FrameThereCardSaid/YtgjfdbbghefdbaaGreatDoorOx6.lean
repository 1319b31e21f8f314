/-
  The closed runner by recursors.
-/
import Derived.Test.YtgjfdbbghefdbaaGreatDoorOx5
namespace Go.Proofs.YtgjfdbbghefdbaaGreatDoor.Sx
noncomputable section
abbrev RS := Option (TV × SH)
abbrev TE := Trie TV
abbrev LP := List Nat × List Nat
abbrev LL := List LP
abbrev QC := EX × TE × SH × List Nat
abbrev RC := Option QC
abbrev LO := Option (List TV)
abbrev RN := Option (List TV × Nat × SH)
abbrev RE := Option (List TV × SH)
abbrev RT := Option (TE × SH)
abbrev RP := Option (TE × SH × LL)
abbrev BO := Option Bool
abbrev VO := Option TV
def Trie.gB : Trie TB → Nat → Option TB := @Trie.rec TB (fun _ => Nat → Option TB) (fun _ => none) (fun _ v _ a b k => (@Bool.rec (fun _ => Option TB) (@Bool.rec (fun _ => Option TB) (b (Nat.sub (Nat.div k (nat_lit 2)) (nat_lit 1))) (a (Nat.div k (nat_lit 2))) (Nat.beq (Nat.mod k (nat_lit 2)) (nat_lit 1))) v (Nat.beq k (nat_lit 0))))
theorem gB_eq : ∀ (t : Trie TB) (k : Nat), t.gB k = t.get k := by
  intro t
  induction t with
  | lf => intro k; rfl
  | nd l v r h1 h2 =>
    intro k
    have e1 := h1 (k / 2)
    have e2 := h2 (k / 2 - 1)
    show @Bool.rec (fun _ => Option TB) (@Bool.rec (fun _ => Option TB) (r.gB (k / 2 - 1)) (l.gB (k / 2)) (Nat.beq (k % 2) 1)) v (Nat.beq k 0) = _
    rw [e1, e2]
    show _ = cond (Nat.beq k 0) v (cond (Nat.beq (k % 2) 1) (l.get (k / 2)) (r.get (k / 2 - 1)))
    cases Nat.beq k 0 <;> cases Nat.beq (k % 2) 1 <;> rfl
def Trie.gX : Trie XF → Nat → Option XF := @Trie.rec XF (fun _ => Nat → Option XF) (fun _ => none) (fun _ v _ a b k => (@Bool.rec (fun _ => Option XF) (@Bool.rec (fun _ => Option XF) (b (Nat.sub (Nat.div k (nat_lit 2)) (nat_lit 1))) (a (Nat.div k (nat_lit 2))) (Nat.beq (Nat.mod k (nat_lit 2)) (nat_lit 1))) v (Nat.beq k (nat_lit 0))))
theorem gX_eq : ∀ (t : Trie XF) (k : Nat), t.gX k = t.get k := by
  intro t
  induction t with
  | lf => intro k; rfl
  | nd l v r h1 h2 =>
    intro k
    have e1 := h1 (k / 2)
    have e2 := h2 (k / 2 - 1)
    show @Bool.rec (fun _ => Option XF) (@Bool.rec (fun _ => Option XF) (r.gX (k / 2 - 1)) (l.gX (k / 2)) (Nat.beq (k % 2) 1)) v (Nat.beq k 0) = _
    rw [e1, e2]
    show _ = cond (Nat.beq k 0) v (cond (Nat.beq (k % 2) 1) (l.get (k / 2)) (r.get (k / 2 - 1)))
    cases Nat.beq k 0 <;> cases Nat.beq (k % 2) 1 <;> rfl
def Trie.sB : Nat → Trie TB → Nat → TB → Trie TB := @Nat.rec (fun _ => Trie TB → Nat → TB → Trie TB) (fun t _ _ => t) (fun _ ih t => @Trie.rec TB (fun _ => Nat → TB → Trie TB) (fun k x => (@Bool.rec (fun _ => Trie TB) (@Bool.rec (fun _ => Trie TB) (.nd .lf none (ih .lf (Nat.sub (Nat.div k (nat_lit 2)) (nat_lit 1)) x)) (.nd (ih .lf (Nat.div k (nat_lit 2)) x) none .lf) (Nat.beq (Nat.mod k (nat_lit 2)) (nat_lit 1))) (.nd .lf (some x) .lf) (Nat.beq k (nat_lit 0)))) (fun l v r _ _ k x => (@Bool.rec (fun _ => Trie TB) (@Bool.rec (fun _ => Trie TB) (.nd l v (ih r (Nat.sub (Nat.div k (nat_lit 2)) (nat_lit 1)) x)) (.nd (ih l (Nat.div k (nat_lit 2)) x) v r) (Nat.beq (Nat.mod k (nat_lit 2)) (nat_lit 1))) (.nd l (some x) r) (Nat.beq k (nat_lit 0)))) t)
theorem sB_eq : ∀ (f : Nat) (t : Trie TB) (k : Nat) (x : TB), Trie.sB f t k x = Trie.set f t k x := by
  intro f
  induction f with
  | zero => intro t k x; rfl
  | succ f ih =>
    intro t k x
    cases t with
    | lf =>
      have e1 := ih .lf (k / 2) x
      have e2 := ih .lf (k / 2 - 1) x
      show @Bool.rec (fun _ => Trie TB) (@Bool.rec (fun _ => Trie TB) (.nd .lf none (Trie.sB f .lf (k / 2 - 1) x)) (.nd (Trie.sB f .lf (k / 2) x) none .lf) (Nat.beq (k % 2) 1)) (.nd .lf (some x) .lf) (Nat.beq k 0) = _
      rw [e1, e2]
      show _ = (cond (Nat.beq k 0) (.nd .lf (some x) .lf) (cond (Nat.beq (k % 2) 1) (.nd (Trie.set f .lf (k / 2) x) none .lf) (.nd .lf none (Trie.set f .lf (k / 2 - 1) x))) : Trie TB)
      cases Nat.beq k 0 <;> cases Nat.beq (k % 2) 1 <;> rfl
    | nd l v r =>
      have e1 := ih l (k / 2) x
      have e2 := ih r (k / 2 - 1) x
      show @Bool.rec (fun _ => Trie TB) (@Bool.rec (fun _ => Trie TB) (.nd l v (Trie.sB f r (k / 2 - 1) x)) (.nd (Trie.sB f l (k / 2) x) v r) (Nat.beq (k % 2) 1)) (.nd l (some x) r) (Nat.beq k 0) = _
      rw [e1, e2]
      show _ = (cond (Nat.beq k 0) (.nd l (some x) r) (cond (Nat.beq (k % 2) 1) (.nd (Trie.set f l (k / 2) x) v r) (.nd l v (Trie.set f r (k / 2 - 1) x))) : Trie TB)
      cases Nat.beq k 0 <;> cases Nat.beq (k % 2) 1 <;> rfl
inductive Way where
  | here
  | stop
  | l (w : Way)
  | r (w : Way)
def wayU : Nat → Nat → Way := @Nat.rec (fun _ => Nat → Way) (fun _ => .stop) (fun _ ih k => (@Bool.rec (fun _ => Way) (@Bool.rec (fun _ => Way) (.r (ih (Nat.sub (Nat.div k (nat_lit 2)) (nat_lit 1)))) (.l (ih (Nat.div k (nat_lit 2)))) (Nat.beq (Nat.mod k (nat_lit 2)) (nat_lit 1))) .here (Nat.beq k (nat_lit 0))))
theorem wayU_succ (f k : Nat) : wayU (f + 1) k = cond (Nat.beq k 0) .here (cond (Nat.beq (k % 2) 1) (.l (wayU f (k / 2))) (.r (wayU f (k / 2 - 1)))) := by
  show @Bool.rec (fun _ => Way) (@Bool.rec (fun _ => Way) (.r (wayU f (k / 2 - 1))) (.l (wayU f (k / 2))) (Nat.beq (k % 2) 1)) .here (Nat.beq k 0) = _
  cases Nat.beq k 0 <;> cases Nat.beq (k % 2) 1 <;> rfl
def Way.g : Way → TE → VO := @Way.rec (fun _ => TE → VO) (fun t => @Trie.rec TV (fun _ => VO) none (fun _ v _ _ _ => v) t) (fun _ => none) (fun _ ih t => @Trie.rec TV (fun _ => VO) none (fun a _ _ _ _ => ih a) t) (fun _ ih t => @Trie.rec TV (fun _ => VO) none (fun _ _ b _ _ => ih b) t)
theorem wayg_eq : ∀ (f : Nat) (t : TE) (k : Nat), k < f → (wayU f k).g t = t.get k
  | 0, _, _, h => absurd h (Nat.not_lt_zero _)
  | f + 1, t, k, h => by
    rw [wayU_succ]
    have beq (c d : Nat) : Nat.beq c d = decide (c = d) := by
      by_cases e : c = d
      · subst e; simp
      · rw [decide_eq_false e]; exact Bool.eq_false_iff.2 fun h => e (Nat.eq_of_beq_eq_true h)
    cases t with
    | lf => cases Nat.beq k 0 <;> cases Nat.beq (k % 2) 1 <;> rfl
    | nd a v b =>
      show _ = cond (Nat.beq k 0) v (cond (Nat.beq (k % 2) 1) (a.get (k / 2)) (b.get (k / 2 - 1)))
      by_cases e : k = 0
      · subst e; rfl
      · rw [beq k 0, decide_eq_false e]
        cases Nat.beq (k % 2) 1
        · exact wayg_eq f b (k / 2 - 1) (by omega)
        · exact wayg_eq f a (k / 2) (by omega)
def Trie.gV (t : TE) (k : Nat) : VO := (wayU (Nat.succ k) k).g t
theorem gV_eq (t : TE) (k : Nat) : t.gV k = t.get k := wayg_eq (k + 1) t k (Nat.lt_succ_self k)
def Way.s : Way → TE → TV → TE := @Way.rec (fun _ => TE → TV → TE) (fun t x => @Trie.rec TV (fun _ => TE) (.nd .lf (some x) .lf) (fun a _ b _ _ => .nd a (some x) b) t) (fun t _ => t) (fun _ ih t x => @Trie.rec TV (fun _ => TE) (.nd (ih .lf x) none .lf) (fun a v b _ _ => .nd (ih a x) v b) t) (fun _ ih t x => @Trie.rec TV (fun _ => TE) (.nd .lf none (ih .lf x)) (fun a v b _ _ => .nd a v (ih b x)) t)
def Trie.sV (f : Nat) (t : TE) (k : Nat) (x : TV) : TE := (wayU f k).s t x
theorem sV_eq : ∀ (f : Nat) (t : TE) (k : Nat) (x : TV), Trie.sV f t k x = Trie.set f t k x
  | 0, _, _, _ => rfl
  | f + 1, t, k, x => by
    have h1 (a : TE) := sV_eq f a (k / 2) x
    have h2 (a : TE) := sV_eq f a (k / 2 - 1) x
    unfold Trie.sV at h1 h2 ⊢
    rw [wayU_succ]
    cases t with
    | lf =>
      show _ = (cond (Nat.beq k 0) (.nd .lf (some x) .lf) (cond (Nat.beq (k % 2) 1) (.nd (Trie.set f .lf (k / 2) x) none .lf) (.nd .lf none (Trie.set f .lf (k / 2 - 1) x))) : TE)
      rw [← h1, ← h2]
      cases Nat.beq k 0 <;> cases Nat.beq (k % 2) 1 <;> rfl
    | nd a v b =>
      show _ = (cond (Nat.beq k 0) (.nd a (some x) b) (cond (Nat.beq (k % 2) 1) (.nd (Trie.set f a (k / 2) x) v b) (.nd a v (Trie.set f b (k / 2 - 1) x))) : TE)
      rw [← h1, ← h2]
      cases Nat.beq k 0 <;> cases Nat.beq (k % 2) 1 <;> rfl
def getU (e : TE) (n : Nat) : TV := @Option.rec TV (fun _ => TV) .any (fun v => v) (e.gV n)
theorem getU_eq (e : TE) (n : Nat) : getU e n = getE e n := by
  unfold getU getE
  rw [gV_eq]
  cases e.get n <;> rfl
def evU : Opd → TE → TV := @Opd.rec (fun _ => TE → TV) (fun n e => getU e n) (fun v _ => v)
theorem evU_eq (o : Opd) (e : TE) : evU o e = o.ev e := by
  cases o
  · exact getU_eq ..
  · rfl
def evsU : List Opd → TE → List TV := @List.rec Opd (fun _ => TE → List TV) (fun _ => []) (fun o _ ih e => evU o e :: ih e)
theorem evsU_eq (e : TE) : ∀ l : List Opd, evsU l e = evs e l
  | [] => rfl
  | o :: r => by show evU o e :: evsU r e = _; rw [evU_eq, evsU_eq e r]; rfl
def putU : Option Nat → TE → TV → TE := @Option.rec Nat (fun _ => TE → TV → TE) (fun e _ => e) (fun d e v => Trie.sV (nat_lit 12) e d v)
theorem putU_eq (e : TE) (d : Option Nat) (v : TV) : putU d e v = putE e d v := by
  cases d with
  | none => rfl
  | some d => exact sV_eq 12 e d v
def wantV : TV → Bool → BO := @TV.rec (fun _ => Bool → BO) (fun _ => PUnit) (fun x b => some (@Bool.rec (fun _ => Bool) (@Bool.rec (fun _ => Bool) true false b) b x)) (fun _ _ _ => (some false)) (fun _ _ => (some false)) (fun _ _ _ => (some false)) (fun _ => (some false)) (fun _ _ _ _ _ _ _ => (some false)) (fun _ => (some false)) (fun _ _ => (some false)) (fun _ => (some false)) (fun _ _ _ _ _ _ => (some false)) (fun _ => (some false)) (fun _ _ _ _ => (some false)) (fun _ => (some false)) (fun _ _ _ => (some false)) (fun _ _ _ => (some false)) (fun _ _ => none) (fun _ => none) (fun _ _ _ => (some false)) (fun _ _ _ _ => (some false)) (fun _ _ => (some false)) (fun _ => (some false)) ⟨⟩ (fun _ _ _ _ => ⟨⟩)
def wantU : Option (Nat × Bool) → TE → BO := @Option.rec (Nat × Bool) (fun _ => TE → BO) (fun _ => some true) (fun g e => wantV (getU e g.1) g.2)
theorem wantU_eq (g : Option (Nat × Bool)) (e : TE) : wantU g e = want g e := by
  cases g with
  | none => rfl
  | some g =>
    obtain ⟨s, b⟩ := g
    show wantV (getU e s) b = _
    rw [getU_eq]
    simp only [want]
    generalize getE e s = v
    cases v with
    | b x => cases x <;> cases b <;> rfl
    | _ => rfl
def lenU : List TV → Nat := @List.rec TV (fun _ => Nat) (nat_lit 0) (fun _ _ ih => Nat.succ ih)
theorem lenU_eq : ∀ l : List TV, lenU l = l.length
  | [] => rfl
  | _ :: r => congrArg Nat.succ (lenU_eq r)
def lenN : List Nat → Nat := @List.rec Nat (fun _ => Nat) (nat_lit 0) (fun _ _ ih => Nat.succ ih)
theorem lenN_eq : ∀ l : List Nat, lenN l = l.length
  | [] => rfl
  | _ :: r => congrArg Nat.succ (lenN_eq r)
def longU : Nat → List TV → Bool := @Nat.rec (fun _ => List TV → Bool) (fun _ => true) (fun _ ih l => @List.rec TV (fun _ => Bool) false (fun _ t _ => ih t) l)
theorem longU_eq : ∀ (n : Nat) (l : List TV), longU n l = Nat.ble n l.length
  | 0, _ => (Nat.ble_eq_true_of_le (Nat.zero_le _)).symm
  | _ + 1, [] => rfl
  | n + 1, _ :: t => longU_eq n t
def dropU : Nat → List TV → List TV := @Nat.rec (fun _ => List TV → List TV) (fun l => l) (fun _ ih l => @List.rec TV (fun _ => List TV) [] (fun _ t _ => ih t) l)
theorem dropU_eq : ∀ (n : Nat) (l : List TV), dropU n l = l.drop n
  | 0, _ => rfl
  | _ + 1, [] => rfl
  | n + 1, _ :: t => dropU_eq n t
def takeU : Nat → List TV → List TV := @Nat.rec (fun _ => List TV → List TV) (fun _ => []) (fun _ ih l => @List.rec TV (fun _ => List TV) [] (fun a t _ => a :: ih t) l)
theorem takeU_eq : ∀ (n : Nat) (l : List TV), takeU n l = l.take n
  | 0, l => by cases l <;> rfl
  | _ + 1, [] => rfl
  | n + 1, a :: t => congrArg (a :: ·) (takeU_eq n t)
def appU : List TV → List TV → List TV := @List.rec TV (fun _ => List TV → List TV) (fun l => l) (fun a _ ih l => a :: ih l)
theorem appU_eq (m : List TV) : ∀ l : List TV, appU l m = l ++ m
  | [] => rfl
  | a :: t => congrArg (a :: ·) (appU_eq m t)
def revU : LL → LL → LL := @List.rec (LP) (fun _ => LL → LL) (fun l => l) (fun a _ ih l => ih (a :: l))
theorem revU_eq : ∀ (l m : LL), revU l m = l.reverse ++ m
  | [], _ => rfl
  | a :: t, m => by show revU t (a :: m) = _; rw [revU_eq t (a :: m)]; simp
def pickU : Nat → List TV → LO := @Nat.rec (fun _ => List TV → LO) (fun _ => some []) (fun _ ih l => @List.rec TV (fun _ => LO) none (fun a t _ => (@Option.rec (List TV) (fun _ => LO) none (fun q => some (a :: q)) (ih t))) l)
theorem pickU_eq : ∀ (n : Nat) (l : List TV), pickU n l = cond (Nat.ble n l.length) (some (l.take n)) none
  | 0, l => by rw [Nat.ble_eq_true_of_le (Nat.zero_le _)]; cases l <;> rfl
  | _ + 1, [] => rfl
  | n + 1, a :: t => by
    show @Option.rec (List TV) (fun _ => LO) none (fun q => some (a :: q)) (pickU n t) = cond (Nat.ble n t.length) (some (a :: t.take n)) none
    rw [pickU_eq n t]
    cases Nat.ble n t.length <;> rfl
def cutU : Nat → Nat → List TV → LO := @Nat.rec (fun _ => Nat → List TV → LO) pickU (fun _ ih n l => @List.rec TV (fun _ => LO) none (fun _ t _ => ih n t) l)
theorem cutU_eq (n : Nat) : ∀ (off : Nat) (l : List TV), cutU off n l = cond (Nat.ble (off + n) l.length) (some ((l.drop off).take n)) none
  | 0, l => by rw [Nat.zero_add]; exact pickU_eq n l
  | off + 1, [] => by rw [Nat.succ_add]; rfl
  | off + 1, _ :: t => by rw [Nat.succ_add]; exact cutU_eq n off t
def ovU : List TV → List TV → List TV := @List.rec TV (fun _ => List TV → List TV) (fun l => l) (fun v _ ih l => v :: ih (@List.rec TV (fun _ => List TV) [] (fun _ t _ => t) l))
theorem ovU_eq : ∀ (vs l : List TV), ovU vs l = vs ++ l.drop vs.length
  | [], _ => rfl
  | v :: r, [] => by show v :: ovU r [] = _; rw [ovU_eq r []]; simp
  | v :: r, _ :: t => by show v :: ovU r t = _; rw [ovU_eq r t]; rfl
def splU : Nat → List TV → List TV → List TV := @Nat.rec (fun _ => List TV → List TV → List TV) ovU (fun _ ih vs l => @List.rec TV (fun _ => List TV) vs (fun a t _ => a :: ih vs t) l)
theorem splU_eq (vs : List TV) : ∀ (off : Nat) (l : List TV), splU off vs l = splice l off vs
  | 0, l => by show ovU vs l = _; rw [ovU_eq]; simp [splice]
  | off + 1, [] => by show vs = _; simp [splice]
  | off + 1, a :: t => by
    show a :: splU off vs t = _
    rw [splU_eq vs off t]
    simp [splice, Nat.succ_add]
def nthV : Nat → List TV → VO := @Nat.rec (fun _ => List TV → VO) (fun l => @List.rec TV (fun _ => VO) none (fun v _ _ => some v) l) (fun _ ih l => @List.rec TV (fun _ => VO) none (fun _ t _ => ih t) l)
theorem nthV_eq : ∀ (n : Nat) (l : List TV), nthV n l = (match l.drop n with | c :: _ => some c | [] => none)
  | 0, [] => rfl
  | 0, _ :: _ => rfl
  | _ + 1, [] => rfl
  | n + 1, _ :: t => nthV_eq n t
def nthN : Nat → List Nat → Option Nat := @Nat.rec (fun _ => List Nat → Option Nat) (fun l => @List.rec Nat (fun _ => Option Nat) none (fun v _ _ => some v) l) (fun _ ih l => @List.rec Nat (fun _ => Option Nat) none (fun _ t _ => ih t) l)
theorem nthN_eq : ∀ (n : Nat) (l : List Nat), nthN n l = (match l.drop n with | c :: _ => some c | [] => none)
  | 0, [] => rfl
  | 0, _ :: _ => rfl
  | _ + 1, [] => rfl
  | n + 1, _ :: t => nthN_eq n t
def toP : TV → Option (Nat × Nat) := @TV.rec (fun _ => Option (Nat × Nat)) (fun _ => PUnit) (fun _ => none) (fun _ _ => none) (fun _ => none) (fun k n => some (k, n)) none (fun _ _ _ _ _ _ => none) none (fun _ => none) none (fun _ _ _ _ _ => none) none (fun _ _ _ => none) none (fun _ _ => none) (fun _ _ => none) (fun _ => none) none (fun _ _ => none) (fun _ _ _ => none) (fun _ => none) none ⟨⟩ (fun _ _ _ _ => ⟨⟩)
def toB : TV → BO := @TV.rec (fun _ => BO) (fun _ => PUnit) (fun x => some x) (fun _ _ => none) (fun _ => none) (fun _ _ => none) none (fun _ _ _ _ _ _ => none) none (fun _ => none) none (fun _ _ _ _ _ => none) none (fun _ _ _ => none) none (fun _ _ => none) (fun _ _ => none) (fun _ => none) none (fun _ _ => none) (fun _ _ _ => none) (fun _ => none) none ⟨⟩ (fun _ _ _ _ => ⟨⟩)
def toI : TV → Option (IntKind × Int) := @TV.rec (fun _ => Option (IntKind × Int)) (fun _ => PUnit) (fun _ => none) (fun k n => some (k, n)) (fun _ => none) (fun _ _ => none) none (fun _ _ _ _ _ _ => none) none (fun _ => none) none (fun _ _ _ _ _ => none) none (fun _ _ _ => none) none (fun _ _ => none) (fun _ _ => none) (fun _ => none) none (fun _ _ => none) (fun _ _ _ => none) (fun _ => none) none ⟨⟩ (fun _ _ _ _ => ⟨⟩)
def toN : TV → Option Nat := @TV.rec (fun _ => Option Nat) (fun _ => PUnit) (fun _ => none) (fun _ n => @Int.rec (fun _ => Option Nat) (fun n => some n) (fun _ => none) n) (fun _ => none) (fun _ _ => none) none (fun _ _ _ _ _ _ => none) none (fun _ => none) none (fun _ _ _ _ _ => none) none (fun _ _ _ => none) none (fun _ _ => none) (fun _ _ => none) (fun _ => none) none (fun _ _ => none) (fun _ _ _ => none) (fun _ => none) none ⟨⟩ (fun _ _ _ _ => ⟨⟩)
def toS : TV → Option (List Nat) := @TV.rec (fun _ => Option (List Nat)) (fun _ => PUnit) (fun _ => none) (fun _ _ => none) (fun l => some l) (fun _ _ => none) none (fun _ _ _ _ _ _ => none) none (fun _ => none) none (fun _ _ _ _ _ => none) none (fun _ _ _ => none) none (fun _ _ => none) (fun _ _ => none) (fun _ => none) none (fun _ _ => none) (fun _ _ _ => none) (fun _ => none) none ⟨⟩ (fun _ _ _ _ => ⟨⟩)
def toSl : TV → Option (Nat × Nat × Nat × Nat) := @TV.rec (fun _ => Option (Nat × Nat × Nat × Nat)) (fun _ => PUnit) (fun _ => none) (fun _ _ => none) (fun _ => none) (fun _ _ => none) none (fun k n z m _ _ => some (k, n, z, m)) none (fun _ => none) none (fun _ _ _ _ _ => none) none (fun _ _ _ => none) none (fun _ _ => none) (fun _ _ => none) (fun _ => none) none (fun _ _ => none) (fun _ _ _ => none) (fun _ => none) none ⟨⟩ (fun _ _ _ _ => ⟨⟩)
def toAg : TV → LO := @TV.rec (fun _ => LO) (fun _ => PUnit) (fun _ => none) (fun _ _ => none) (fun _ => none) (fun _ _ => none) none (fun _ _ _ _ _ _ => none) none (fun _ => none) none (fun _ _ _ _ _ => none) none (fun _ _ _ => none) none (fun l _ => some l) (fun _ _ => none) (fun _ => none) none (fun _ _ => none) (fun _ _ _ => none) (fun _ => none) none ⟨⟩ (fun _ _ _ _ => ⟨⟩)
def toTu : TV → LO := @TV.rec (fun _ => LO) (fun _ => PUnit) (fun _ => none) (fun _ _ => none) (fun _ => none) (fun _ _ => none) none (fun _ _ _ _ _ _ => none) none (fun _ => none) none (fun _ _ _ _ _ => none) none (fun _ _ _ => none) none (fun _ _ => none) (fun l _ => some l) (fun _ => none) none (fun _ _ => none) (fun _ _ _ => none) (fun _ => none) none ⟨⟩ (fun _ _ _ _ => ⟨⟩)
def lenSl : TV → Option Nat := @TV.rec (fun _ => Option Nat) (fun _ => PUnit) (fun _ => none) (fun _ _ => none) (fun _ => none) (fun _ _ => none) none (fun _ _ _ n _ _ => some n) (some (nat_lit 0)) (fun _ => none) none (fun _ _ _ _ _ => none) none (fun _ _ _ => none) none (fun _ _ => none) (fun _ _ => none) (fun _ => none) none (fun _ _ => none) (fun _ _ _ => none) (fun _ => none) (some (nat_lit 0)) ⟨⟩ (fun _ _ _ _ => ⟨⟩)
def notTuU : TV → Bool := @TV.rec (fun _ => Bool) (fun _ => PUnit) (fun _ => true) (fun _ _ => true) (fun _ => true) (fun _ _ => true) true (fun _ _ _ _ _ _ => true) true (fun _ => true) true (fun _ _ _ _ _ => true) true (fun _ _ _ => true) true (fun _ _ => true) (fun _ _ => false) (fun _ => true) (false) (fun _ _ => true) (fun _ _ _ => true) (fun _ => true) true ⟨⟩ (fun _ _ _ _ => ⟨⟩)
def knownU : TV → Bool := @TV.rec (fun _ => Bool) (fun _ => PUnit) (fun _ => true) (fun _ _ => true) (fun _ => true) (fun _ _ => true) true (fun _ _ _ _ _ _ => true) true (fun _ => true) true (fun _ _ _ _ _ => true) true (fun _ _ _ => true) true (fun _ _ => true) (fun _ _ => true) (fun _ => true) (false) (fun _ _ => true) (fun _ _ _ => true) (fun _ => true) true ⟨⟩ (fun _ _ _ _ => ⟨⟩)
def scalU : TV → Bool := @TV.rec (fun _ => Bool) (fun _ => PUnit) (fun _ => true) (fun _ _ => true) (fun _ => true) (fun _ _ => true) true (fun _ _ _ _ _ _ => true) true (fun _ => true) true (fun _ _ _ _ _ => true) true (fun _ _ _ => true) true (fun _ _ => false) (fun _ _ => false) (fun _ => true) (false) (fun _ _ => true) (fun _ _ _ => true) (fun _ => true) true ⟨⟩ (fun _ _ _ _ => ⟨⟩)
def cellsU : TV → List TV := @TV.rec (fun _ => List TV) (fun _ => PUnit) (fun x0 => [.b x0]) (fun x0 x1 => [.i x0 x1]) (fun x0 => [.s x0]) (fun x0 x1 => [.p x0 x1]) ([.pn]) (fun x0 x1 x2 x3 x4 x5 => [.sl x0 x1 x2 x3 x4 x5]) ([.sln]) (fun x0 => [.m x0]) ([.mn]) (fun x0 x1 x2 _ _ => [.f x0 x1 x2]) ([.fn]) (fun x0 x1 _ => [.ifc x0 x1]) ([.ifn]) (fun l _ => l) (fun x0 _ => [.tu x0]) (fun x0 => [.x x0]) ([.any]) (fun x0 x1 => [.es x0 x1]) (fun x0 x1 x2 => [.ep x0 x1 x2]) (fun x0 => [.y x0]) ([.ne]) ⟨⟩ (fun _ _ _ _ => ⟨⟩)
theorem notTuU_eq (v : TV) : notTuU v = v.notTu := by cases v <;> rfl
theorem knownU_eq (v : TV) : knownU v = v.known := by cases v <;> rfl
theorem scalU_eq (v : TV) : scalU v = v.scal := by cases v <;> rfl
theorem cellsU_eq (v : TV) : cellsU v = v.cells := by cases v <;> rfl
def allScalU : List TV → Bool := @List.rec TV (fun _ => Bool) true (fun v _ ih => @Bool.rec (fun _ => Bool) false ih (scalU v))
theorem allScalU_eq : ∀ l : List TV, allScalU l = allScal l
  | [] => rfl
  | v :: r => by show @Bool.rec (fun _ => Bool) false (allScalU r) (scalU v) = _; rw [scalU_eq, allScalU_eq r, allScal]; cases v.scal <;> rfl
def wrtU (h : SH) (k : Nat) (b : TB) : SH := ⟨Trie.sB (nat_lit 24) h.tr k b, h.nx, k :: h.lg, k :: h.wr, h.md, h.pa, h.ob⟩
theorem wrtU_eq (h : SH) (k : Nat) (b : TB) : wrtU h k b = h.wrt k b := by unfold wrtU SH.wrt; rw [sB_eq]
def newU (h : SH) (b : TB) : SH := ⟨Trie.sB (nat_lit 24) h.tr h.nx b, Nat.succ h.nx, h.nx :: h.lg, h.nx :: h.wr, h.md, h.pa, h.ob⟩
theorem newU_eq (h : SH) (b : TB) : newU h b = h.new b := by unfold newU SH.new; rw [sB_eq]
def aggU (g : Bool) (l : List TV) (n : Nat) : VO := (@Bool.rec (fun _ => VO) (@List.rec TV (fun _ => VO) none (fun v t _ => @List.rec TV (fun _ => VO) (some v) (fun _ _ _ => none) t) l) (@Bool.rec (fun _ => VO) none (some (.ag l)) (Nat.beq (lenU l) n)) g)
theorem aggU_eq (g : Bool) (l : List TV) (n : Nat) : aggU g l n = aggOf g l n := by
  cases g
  · cases l with
    | nil => rfl
    | cons a t => cases t <;> rfl
  · show @Bool.rec (fun _ => VO) none (some (.ag l)) (Nat.beq (lenU l) n) = cond (Nat.beq l.length n) (some (.ag l)) none
    rw [lenU_eq]
    cases Nat.beq l.length n <;> rfl
def ldU (g : Bool) (q : List TV) (h : SH) (k : Nat) : RS := (@Bool.rec (fun _ => RS) (@List.rec TV (fun _ => RS) none (fun v t _ => @List.rec TV (fun _ => RS) (some (v, h.see k)) (fun _ _ _ => none) t) q) (some (.ag q, h.see k)) g)
theorem ldU_eq (g : Bool) (q : List TV) (n : Nat) (hq : q.length = n) (h : SH) (k : Nat) : ldU g q h k = (match aggOf g q n with | some v => some (v, h.see k) | none => none) := by
  cases g
  · cases q with
    | nil => rfl
    | cons a t => cases t <;> rfl
  · subst hq
    simp only [aggOf, Nat.beq_refl, cond_true]
    rfl
def rowU : TB → LO := @TB.rec (fun _ => LO) (fun l _ _ => some l) none (fun _ _ => none) (fun _ _ _ _ _ _ _ => none) none (fun _ _ => none) (fun l _ => some l)
def loadU (g : Bool) (n k off : Nat) (h : SH) : RS := (@Option.rec (TB) (fun _ => RS) none (fun b => (@Option.rec (List TV) (fun _ => RS) none (fun l => (@Option.rec (List TV) (fun _ => RS) none (fun q => ldU g q h k) (cutU off n l))) (rowU b))) (h.tr.gB k))
theorem cut_ld {g : Bool} {n off k : Nat} {l : List TV} {h : SH} : @Option.rec (List TV) (fun _ => RS) none (fun q => ldU g q h k) (cutU off n l) = cond (Nat.ble (off + n) l.length) (match aggOf g ((l.drop off).take n) n with | some v => some (v, h.see k) | none => none) none := by
  rw [cutU_eq]
  cases hb : Nat.ble (off + n) l.length
  · rfl
  · have := Nat.le_of_ble_eq_true hb
    exact ldU_eq g _ n (by rw [List.length_take, List.length_drop]; omega) h k
theorem loadU_eq (g : Bool) (n k off : Nat) (h : SH) : loadU g n k off h = loadAt g n k off h := by
  unfold loadU loadAt SH.get
  rw [gB_eq]
  cases h.tr.get k with
  | none => rfl
  | some b => cases b with
    | cells l ty ro => exact cut_ld
    | bd l ty => exact cut_ld
    | _ => rfl
def storeB : TB → Nat → Nat → Nat → TV → SH → Option SH := @TB.rec (fun _ => Nat → Nat → Nat → TV → SH → Option SH) (fun l ty ro n k off v h => (@Bool.rec (fun _ => Option SH) (@Bool.rec (fun _ => Option SH) none (@Bool.rec (fun _ => Option SH) none (@Bool.rec (fun _ => Option SH) none (@Bool.rec (fun _ => Option SH) none (some (wrtU h k (.cells (splU off (cellsU v) l) ty false))) (Nat.ble (Nat.succ k) (nat_lit 4000000))) (allScalU (cellsU v))) (longU (Nat.add off n) l)) (Nat.beq (lenU (cellsU v)) n)) none ro)) (fun _ _ _ _ _ => none) (fun _ _ _ _ _ _ _ => none) (fun _ _ _ _ _ _ _ _ _ _ _ _ => none) (fun _ _ _ _ _ => none) (fun _ _ _ _ _ _ _ => none) (fun _ _ n k off v h => storeAt n k off v h)
def storeU (n k off : Nat) (v : TV) (h : SH) : Option SH := (@Option.rec (TB) (fun _ => Option SH) none (fun b => storeB b n k off v h) (h.tr.gB k))
theorem storeU_eq (n k off : Nat) (v : TV) (h : SH) : storeU n k off v h = storeAt n k off v h := by
  unfold storeU
  rw [gB_eq]
  cases e : h.tr.get k with
  | none => unfold storeAt SH.get; rw [e]; rfl
  | some b => cases b with
    | cells l ty ro =>
      unfold storeAt SH.get
      rw [e]
      cases ro
      · show @Bool.rec (fun _ => Option SH) none (@Bool.rec (fun _ => Option SH) none (@Bool.rec (fun _ => Option SH) none (@Bool.rec (fun _ => Option SH) none (some (wrtU h k (.cells (splU off (cellsU v) l) ty false))) (Nat.blt k 4000000)) (allScalU (cellsU v))) (longU (off + n) l)) (Nat.beq (lenU (cellsU v)) n) = cond (Nat.beq v.cells.length n) (cond (Nat.ble (off + n) l.length) (cond (allScal v.cells) (cond (Nat.blt k 4000000) (some (h.wrt k (.cells (splice l off v.cells) ty false))) none) none) none) none
        rw [wrtU_eq, splU_eq, cellsU_eq, allScalU_eq, longU_eq, lenU_eq]
        cases Nat.beq v.cells.length n <;> cases Nat.ble (off + n) l.length <;> cases allScal v.cells <;> cases Nat.blt k 4000000 <;> rfl
      · rfl
    | bd l ty => rfl
    | _ => unfold storeAt SH.get; rw [e]; rfl
def fillU : List (Nat × Nat × Opd) → List TV → TE → LO := @List.rec (Nat × Nat × Opd) (fun _ => List TV → TE → LO) (fun c _ => some c) (fun p _ ih c e => (@Bool.rec (fun _ => LO) none (@Bool.rec (fun _ => LO) none (@Bool.rec (fun _ => LO) none (ih (splU p.1 (cellsU (evU p.2.2 e)) c) e) (longU (Nat.add p.1 p.2.1) c)) (Nat.beq (lenU (cellsU (evU p.2.2 e))) p.2.1)) (knownU (evU p.2.2 e))))
theorem fillU_eq (e : TE) : ∀ (l : List (Nat × Nat × Opd)) (c : List TV), fillU l c e = fillTV e c l
  | [], _ => rfl
  | (a, s, x) :: r, c => by
    show @Bool.rec (fun _ => LO) none (@Bool.rec (fun _ => LO) none (@Bool.rec (fun _ => LO) none (fillU r (splU a (cellsU (evU x e)) c) e) (longU (a + s) c)) (Nat.beq (lenU (cellsU (evU x e))) s)) (knownU (evU x e)) = _
    rw [fillU_eq e r, splU_eq, cellsU_eq, longU_eq, lenU_eq, knownU_eq, evU_eq]
    rw [fillTV]
    cases (x.ev e).known <;> cases Nat.beq (x.ev e).cells.length s <;> cases Nat.ble (a + s) c.length <;> rfl
def ikN : IntKind → Nat := @IntKind.rec (fun _ => Nat) (nat_lit 0) (nat_lit 1) (nat_lit 2) (nat_lit 3) (nat_lit 4) (nat_lit 5) (nat_lit 6) (nat_lit 7)
def ikU (a b : IntKind) : Bool := Nat.beq (ikN a) (ikN b)
theorem ikU_eq {α : Type} (a b : IntKind) (x y : α) : @Bool.rec (fun _ => α) y x (ikU a b) = if a = b then x else y := by
  cases a <;> cases b <;> rfl
def inRU : IntKind → Int → Bool := @IntKind.rec (fun _ => Int → Bool) (fun n => inR .i8 n) (fun n => inR .i16 n) (fun n => inR .i32 n) (fun n => @Int.rec (fun _ => Bool) (fun n => Nat.ble (Nat.succ n) (nat_lit 9223372036854775808)) (fun n => Nat.ble (Nat.succ n) (nat_lit 9223372036854775808)) n) (fun n => @Int.rec (fun _ => Bool) (fun n => Nat.ble (Nat.succ n) (nat_lit 256)) (fun _ => false) n) (fun n => inR .u16 n) (fun n => inR .u32 n) (fun n => inR .u64 n)
theorem inRU_eq (k : IntKind) (n : Int) : inRU k n = inR k n := by cases k <;> cases n <;> rfl
def kwU (k : IntKind) (n : Int) : Int := @Bool.rec (fun _ => Int) (k.wrap n) n (inRU k n)
theorem kwU_eq (k : IntKind) (n : Int) : kwU k n = kw k n := by unfold kwU kw; rw [inRU_eq]; cases inR k n <;> rfl
def ieqU : Int → Int → Bool := @Int.rec (fun _ => Int → Bool) (fun a y => @Int.rec (fun _ => Bool) (fun b => Nat.beq a b) (fun _ => false) y) (fun a y => @Int.rec (fun _ => Bool) (fun _ => false) (fun b => Nat.beq a b) y)
def iltU : Int → Int → Bool := @Int.rec (fun _ => Int → Bool) (fun a y => @Int.rec (fun _ => Bool) (fun b => Nat.ble (Nat.succ a) b) (fun _ => false) y) (fun a y => @Int.rec (fun _ => Bool) (fun _ => true) (fun b => Nat.ble (Nat.succ b) a) y)
theorem ieqU_eq (x y : Int) : ieqU x y = ieq x y := by cases x <;> cases y <;> rfl
theorem iltU_eq (x y : Int) : iltU x y = ilt x y := by cases x <;> cases y <;> rfl
def addU : Int → Int → Int := @Int.rec (fun _ => Int → Int) (fun a y => @Int.rec (fun _ => Int) (fun b => .ofNat (Nat.add a b)) (fun b => Int.add (.ofNat a) (.negSucc b)) y) (fun a y => Int.add (.negSucc a) y)
theorem addU_eq (x y : Int) : addU x y = x + y := by cases x <;> cases y <;> rfl
def subU : Int → Int → Int := @Int.rec (fun _ => Int → Int) (fun a y => @Int.rec (fun _ => Int) (fun b => @Nat.rec (fun _ => Int) (.ofNat (Nat.sub a b)) (fun k _ => .negSucc k) (Nat.sub b a)) (fun b => Int.sub (.ofNat a) (.negSucc b)) y) (fun a y => Int.sub (.negSucc a) y)
theorem subU_eq (x y : Int) : subU x y = x - y := by
  cases x with
  | negSucc a => rfl
  | ofNat a => cases y with
    | negSucc b => rfl
    | ofNat b =>
      show @Nat.rec (fun _ => Int) (.ofNat (a - b)) (fun k _ => .negSucc k) (b - a) = (a : Int) - (b : Int)
      cases e : b - a with
      | zero => show ((a - b : Nat) : Int) = _; omega
      | succ k => show Int.negSucc k = _; omega
def lEqU : List Nat → List Nat → Bool := @List.rec Nat (fun _ => List Nat → Bool) (fun y => @List.rec Nat (fun _ => Bool) true (fun _ _ _ => false) y) (fun a _ ih y => @List.rec Nat (fun _ => Bool) false (fun b t _ => @Bool.rec (fun _ => Bool) false (ih t) (Nat.beq a b)) y)
theorem lEqU_eq : ∀ (x y : List Nat), lEqU x y = lEq x y
  | [], [] => rfl
  | [], _ :: _ => rfl
  | _ :: _, [] => rfl
  | a :: x, b :: y => by
    show @Bool.rec (fun _ => Bool) false (lEqU x y) (Nat.beq a b) = _
    rw [lEqU_eq x y, lEq]
    cases Nat.beq a b <;> rfl
def iiU : BinOp → IntKind → Int → IntKind → Int → VO := @BinOp.rec (fun _ => IntKind → Int → IntKind → Int → VO) (fun k a j b => (@Bool.rec (fun _ => VO) none (some (.i k (kwU k (addU a b)))) (ikU k j))) (fun k a j b => (@Bool.rec (fun _ => VO) none (some (.i k (kwU k (subU a b)))) (ikU k j))) (fun k a j b => bop .mul (.i k a) (.i j b)) (fun k a j b => bop .quo (.i k a) (.i j b)) (fun k a j b => bop .rem (.i k a) (.i j b)) (fun k a j b => bop .and (.i k a) (.i j b)) (fun k a j b => bop .or (.i k a) (.i j b)) (fun k a j b => bop .xor (.i k a) (.i j b)) (fun k a j b => bop .shl (.i k a) (.i j b)) (fun k a j b => bop .shr (.i k a) (.i j b)) (fun k a j b => bop .andNot (.i k a) (.i j b)) (fun k a j b => (@Bool.rec (fun _ => VO) none (some (.b (ieqU a b))) (ikU k j))) (fun k a j b => (@Bool.rec (fun _ => VO) none (some (.b (@Bool.rec (fun _ => Bool) true false (ieqU a b)))) (ikU k j))) (fun k a j b => (@Bool.rec (fun _ => VO) none (some (.b (iltU a b))) (ikU k j))) (fun k a j b => (@Bool.rec (fun _ => VO) none (some (.b (@Bool.rec (fun _ => Bool) true false (iltU b a)))) (ikU k j))) (fun k a j b => (@Bool.rec (fun _ => VO) none (some (.b (iltU b a))) (ikU k j))) (fun k a j b => (@Bool.rec (fun _ => VO) none (some (.b (@Bool.rec (fun _ => Bool) true false (iltU a b)))) (ikU k j)))
theorem iiU_eq (op : BinOp) (k j : IntKind) (a b : Int) : iiU op k a j b = bop op (.i k a) (.i j b) := by
  cases op
  case add => show @Bool.rec (fun _ => VO) none (some (.i k (kwU k (addU a b)))) (ikU k j) = _; rw [ikU_eq, kwU_eq, addU_eq]; rfl
  case sub => show @Bool.rec (fun _ => VO) none (some (.i k (kwU k (subU a b)))) (ikU k j) = _; rw [ikU_eq, kwU_eq, subU_eq]; rfl
  case eql => show @Bool.rec (fun _ => VO) none (some (.b (ieqU a b))) (ikU k j) = _; rw [ikU_eq, ieqU_eq]; rfl
  case neq => show @Bool.rec (fun _ => VO) none (some (.b (@Bool.rec (fun _ => Bool) true false (ieqU a b)))) (ikU k j) = _; rw [ikU_eq, ieqU_eq]; simp only [bop, iop]; cases ieq a b <;> rfl
  case lss => show @Bool.rec (fun _ => VO) none (some (.b (iltU a b))) (ikU k j) = _; rw [ikU_eq, iltU_eq]; rfl
  case leq => show @Bool.rec (fun _ => VO) none (some (.b (@Bool.rec (fun _ => Bool) true false (iltU b a)))) (ikU k j) = _; rw [ikU_eq, iltU_eq]; simp only [bop, iop, ile]; cases ilt b a <;> rfl
  case gtr => show @Bool.rec (fun _ => VO) none (some (.b (iltU b a))) (ikU k j) = _; rw [ikU_eq, iltU_eq]; rfl
  case geq => show @Bool.rec (fun _ => VO) none (some (.b (@Bool.rec (fun _ => Bool) true false (iltU a b)))) (ikU k j) = _; rw [ikU_eq, iltU_eq]; simp only [bop, iop, ile]; cases ilt a b <;> rfl
  all_goals rfl
def ssU : BinOp → List Nat → List Nat → VO := @BinOp.rec (fun _ => List Nat → List Nat → VO) (fun a b => sop .add a b) (fun a b => sop .sub a b) (fun a b => sop .mul a b) (fun a b => sop .quo a b) (fun a b => sop .rem a b) (fun a b => sop .and a b) (fun a b => sop .or a b) (fun a b => sop .xor a b) (fun a b => sop .shl a b) (fun a b => sop .shr a b) (fun a b => sop .andNot a b) (fun a b => some (.b (lEqU a b))) (fun a b => some (.b (@Bool.rec (fun _ => Bool) true false (lEqU a b)))) (fun a b => sop .lss a b) (fun a b => sop .leq a b) (fun a b => sop .gtr a b) (fun a b => sop .geq a b)
theorem ssU_eq (op : BinOp) (a b : List Nat) : ssU op a b = sop op a b := by
  cases op
  case eql => show some (TV.b (lEqU a b)) = _; rw [lEqU_eq]; rfl
  case neq => show some (TV.b (@Bool.rec (fun _ => Bool) true false (lEqU a b))) = _; rw [lEqU_eq]; simp only [sop]; cases lEq a b <;> rfl
  all_goals rfl
def bopU : TV → BinOp → TV → VO := @TV.rec (fun _ => BinOp → TV → VO) (fun _ => PUnit) (fun _ _ _ => none) (fun k a op y => (@Option.rec (IntKind × Int) (fun _ => VO) none (fun q => iiU op k a q.1 q.2) (toI y))) (fun a op y => (@Option.rec (List Nat) (fun _ => VO) none (fun b => ssU op a b) (toS y))) (fun _ _ _ _ => none) (fun _ _ => none) (fun _ _ _ _ _ _ _ _ => none) (fun _ _ => none) (fun _ _ _ => none) (fun _ _ => none) (fun _ _ _ _ _ _ _ => none) (fun _ _ => none) (fun _ _ _ _ _ => none) (fun _ _ => none) (fun _ _ _ _ => none) (fun _ _ _ _ => none) (fun _ _ _ => none) (fun _ _ => none) (fun _ _ _ _ => none) (fun _ _ _ _ _ => none) (fun _ _ _ => none) (fun _ _ => none) ⟨⟩ (fun _ _ _ _ => ⟨⟩)
theorem bopU_eq (op : BinOp) (x y : TV) : bopU x op y = bop op x y := by
  cases x with
  | i k a => cases y with
    | i j b => exact iiU_eq ..
    | _ => rfl
  | s a => cases y with
    | s b => exact ssU_eq ..
    | _ => rfl
  | _ => rfl
def nil0 : TV → BO := @TV.rec (fun _ => BO) (fun _ => PUnit) (fun _ => none) (fun _ _ => none) (fun _ => none) (fun _ _ => some false) (some true) (fun _ _ _ _ _ _ => none) none (fun _ => none) none (fun _ _ _ _ _ => none) none (fun _ _ _ => none) none (fun _ _ => none) (fun _ _ => none) (fun _ => none) none (fun _ _ => none) (fun _ _ _ => none) (fun _ => none) none ⟨⟩ (fun _ _ _ _ => ⟨⟩)
def nil1 : TV → BO := @TV.rec (fun _ => BO) (fun _ => PUnit) (fun _ => none) (fun _ _ => none) (fun _ => none) (fun _ _ => none) none (fun _ _ _ _ _ _ => some false) (some true) (fun _ => none) none (fun _ _ _ _ _ => none) none (fun _ _ _ => none) none (fun _ _ => none) (fun _ _ => none) (fun _ => none) none (fun _ _ => none) (fun _ _ _ => none) (fun _ => none) (some false) ⟨⟩ (fun _ _ _ _ => ⟨⟩)
def nil2 : TV → BO := @TV.rec (fun _ => BO) (fun _ => PUnit) (fun _ => none) (fun _ _ => none) (fun _ => none) (fun _ _ => none) none (fun _ _ _ _ _ _ => none) none (fun _ => some false) (some true) (fun _ _ _ _ _ => none) none (fun _ _ _ => none) none (fun _ _ => none) (fun _ _ => none) (fun _ => none) none (fun _ _ => none) (fun _ _ _ => none) (fun _ => none) none ⟨⟩ (fun _ _ _ _ => ⟨⟩)
def nil3 : TV → BO := @TV.rec (fun _ => BO) (fun _ => PUnit) (fun _ => none) (fun _ _ => none) (fun _ => none) (fun _ _ => none) none (fun _ _ _ _ _ _ => none) none (fun _ => none) none (fun _ _ _ _ _ => some false) (some true) (fun _ _ _ => none) none (fun _ _ => none) (fun _ _ => none) (fun _ => none) none (fun _ _ => none) (fun _ _ _ => none) (fun _ => none) none ⟨⟩ (fun _ _ _ _ => ⟨⟩)
def nil4 : TV → BO := @TV.rec (fun _ => BO) (fun _ => PUnit) (fun _ => none) (fun _ _ => none) (fun _ => none) (fun _ _ => none) none (fun _ _ _ _ _ _ => none) none (fun _ => none) none (fun _ _ _ _ _ => none) none (fun _ _ _ => some false) (some true) (fun _ _ => none) (fun _ _ => none) (fun _ => none) none (fun _ _ => none) (fun _ _ _ => none) (fun _ => none) none ⟨⟩ (fun _ _ _ _ => ⟨⟩)
def nilU (t : BO) (x y : BO) : BO := (@Option.rec (Bool) (fun _ => BO) none (fun a => (@Option.rec (Bool) (fun _ => BO) none (fun b => (@Bool.rec (fun _ => BO) (@Bool.rec (fun _ => BO) none (some false) b) (@Bool.rec (fun _ => BO) (some false) t b) a)) y)) x)
def eqU (kind : Nat) (cst : Bool) (x y : TV) : BO := (@Nat.rec (fun _ => BO) (nilU (some true) (nil0 x) (nil0 y)) (fun k _ => (@Nat.rec (fun _ => BO) (nilU (some true) (nil1 x) (nil1 y)) (fun k _ => (@Nat.rec (fun _ => BO) (nilU (some true) (nil2 x) (nil2 y)) (fun k _ => (@Nat.rec (fun _ => BO) (nilU (some true) (nil3 x) (nil3 y)) (fun k _ => (@Nat.rec (fun _ => BO) (nilU (@Bool.rec (fun _ => BO) none (some true) cst) (nil4 x) (nil4 y)) (fun _ _ => none) k)) k)) k)) k)) kind)
theorem eqU_eq (kind : Nat) (cst : Bool) (x y : TV) : eqU kind cst x y = eqTV kind cst x y := by
  rcases kind with _ | _ | _ | _ | _ | k
  · cases x <;> first | rfl | (cases y <;> rfl)
  · cases x <;> first | rfl | (cases y <;> rfl)
  · cases x <;> first | rfl | (cases y <;> rfl)
  · cases x <;> first | rfl | (cases y <;> rfl)
  · cases x <;> first | rfl | (cases y <;> first | rfl | (cases cst <;> rfl))
  · rfl
def newSlU (ty esz len : Nat) (cells : List TV) (rest : Bool) (h : SH) : RS := (@Bool.rec (fun _ => RS) none (some (.sl h.nx (nat_lit 0) esz len len rest, newU h (.cells cells ty false))) (Nat.ble (Nat.succ h.nx) (nat_lit 4000000)))
theorem newSlU_eq (ty esz len : Nat) (cells : List TV) (rest : Bool) (h : SH) : newSlU ty esz len cells rest h = newSl ty esz len cells rest h := by
  show @Bool.rec (fun _ => RS) none (some (.sl h.nx 0 esz len len rest, newU h (.cells cells ty false))) (Nat.blt h.nx 4000000) = cond (Nat.blt h.nx 4000000) _ _
  rw [newU_eq]
  cases Nat.blt h.nx 4000000 <;> rfl
def srcB : TB → Nat → Nat → Nat → SH → Nat → RN := @TB.rec (fun _ => Nat → Nat → Nat → SH → Nat → RN) (fun l _ _ off n z h k => (@Option.rec (List TV) (fun _ => RN) none (fun q => some (q, n, h.see k)) (cutU off (Nat.mul n z) l))) (fun _ _ _ _ _ => none) (fun _ _ _ _ _ _ _ => none) (fun _ _ _ _ _ _ _ _ _ _ _ _ => none) (fun _ _ _ _ _ => none) (fun _ _ _ _ _ _ _ => none) (fun _ _ _ _ _ _ _ => none)
def srcU : TV → Nat → SH → RN := @TV.rec (fun _ => Nat → SH → RN) (fun _ => PUnit) (fun _ _ _ => none) (fun _ _ _ _ => none) (fun l z h => srcOf z (.s l) h) (fun _ _ _ _ => none) (fun _ _ => none) (fun k off sz n _ _ z h => (@Bool.rec (fun _ => RN) none (@Option.rec (TB) (fun _ => RN) none (fun b => srcB b off n z h k) (h.tr.gB k)) (Nat.beq sz z))) (fun _ h => some ([], 0, h)) (fun _ _ _ => none) (fun _ _ => none) (fun _ _ _ _ _ _ _ => none) (fun _ _ => none) (fun _ _ _ _ _ => none) (fun _ _ => none) (fun _ _ _ _ => none) (fun _ _ _ _ => none) (fun _ _ _ => none) (fun _ _ => none) (fun _ _ _ _ => none) (fun _ _ _ _ _ => none) (fun _ _ _ => none) (fun _ h => some ([], 0, h)) ⟨⟩ (fun _ _ _ _ => ⟨⟩)
theorem srcU_eq (v : TV) (z : Nat) (h : SH) : srcU v z h = srcOf z v h := by
  cases v with
  | sl k off sz n cap rest =>
    show @Bool.rec (fun _ => RN) none (@Option.rec TB (fun _ => RN) none (fun b => srcB b off n z h k) (h.tr.gB k)) (Nat.beq sz z) = _
    rw [gB_eq]
    simp only [srcOf, SH.get]
    cases Nat.beq sz z
    · rfl
    cases h.tr.get k with
    | none => rfl
    | some b => cases b with
      | cells l ty ro =>
        show @Option.rec (List TV) (fun _ => RN) none (fun q => some (q, n, h.see k)) (cutU off (n * z) l) = cond (Nat.ble (off + n * z) l.length) (some ((l.drop off).take (n * z), n, h.see k)) none
        rw [cutU_eq]
        cases Nat.ble (off + n * z) l.length <;> rfl
      | _ => rfl
  | _ => rfl
def aPick (c a b : Opd) (e : TE) (h : SH) : RS := (@Option.rec (Bool) (fun _ => RS) none (fun x => (@Bool.rec (fun _ => RS) (some (evU b e, h)) (some (evU a e, h)) x)) (toB (evU c e)))
theorem aPick_eq (c a b : Opd) (e : TE) (h : SH) : aPick c a b e h = xo (.pick c a b) e h := by
  unfold aPick; simp only [xo, evU_eq]; cases c.ev e with
  | b x => cases x <;> rfl
  | _ => rfl
def aBox (ty n : Nat) (x : Opd) (e : TE) (h : SH) : RS := (@Bool.rec (fun _ => RS) none (@Bool.rec (fun _ => RS) none (@Bool.rec (fun _ => RS) none (some (.p h.nx (nat_lit 0), newU h (.cells (cellsU (evU x e)) ty false))) (Nat.ble (Nat.succ h.nx) (nat_lit 4000000))) (Nat.beq (lenU (cellsU (evU x e))) n)) (notTuU (evU x e)))
theorem aBox_eq (ty n : Nat) (x : Opd) (e : TE) (h : SH) : aBox ty n x e h = xo (.box ty n x) e h := by
  show @Bool.rec (fun _ => RS) none (@Bool.rec (fun _ => RS) none (@Bool.rec (fun _ => RS) none (some (.p h.nx 0, newU h (.cells (cellsU (evU x e)) ty false))) (Nat.blt h.nx 4000000)) (Nat.beq (lenU (cellsU (evU x e))) n)) (notTuU (evU x e)) = _
  rw [newU_eq, evU_eq, cellsU_eq, lenU_eq, notTuU_eq]
  simp only [xo, SH.room]
  cases (x.ev e).notTu <;> cases Nat.beq (x.ev e).cells.length n <;> cases Nat.blt h.nx 4000000 <;> rfl
def aBld (z : List TV) (ps : List (Nat × Nat × Opd)) (e : TE) (h : SH) : RS := (@Option.rec (List TV) (fun _ => RS) none (fun l => some (.ag l, h)) (fillU ps z e))
theorem aBld_eq (z : List TV) (ps : List (Nat × Nat × Opd)) (e : TE) (h : SH) : aBld z ps e h = xo (.bld z ps) e h := by
  unfold aBld; simp only [xo, fillU_eq]; cases fillTV e z ps <;> rfl
def aBls (ty sz n : Nat) (z : List TV) (ps : List (Nat × Nat × Opd)) (e : TE) (h : SH) : RS := (@Option.rec (List TV) (fun _ => RS) none (fun l => newSlU ty sz n l false h) (fillU ps z e))
theorem aBls_eq (ty sz n : Nat) (z : List TV) (ps : List (Nat × Nat × Opd)) (e : TE) (h : SH) : aBls ty sz n z ps e h = xo (.bls ty sz n z ps) e h := by
  unfold aBls; simp only [xo, fillU_eq]; cases fillTV e z ps
  · rfl
  · exact newSlU_eq ..
def aLd (g : Bool) (n : Nat) (a : Opd) (e : TE) (h : SH) : RS := (@Option.rec (Nat × Nat) (fun _ => RS) none (fun q => loadU g n q.1 q.2 h) (toP (evU a e)))
theorem aLd_eq (g : Bool) (n : Nat) (a : Opd) (e : TE) (h : SH) : aLd g n a e h = xo (.ld g n a) e h := by
  unfold aLd; simp only [xo, evU_eq]; cases a.ev e with
  | p k off => exact loadU_eq ..
  | _ => rfl
def aSt (n : Nat) (a x : Opd) (e : TE) (h : SH) : RS := (@Option.rec (Nat × Nat) (fun _ => RS) none (fun q => (@Option.rec (SH) (fun _ => RS) none (fun g => some (.tu [], g)) (storeU n q.1 q.2 (evU x e) h))) (toP (evU a e)))
theorem aSt_eq (n : Nat) (a x : Opd) (e : TE) (h : SH) : aSt n a x e h = xo (.st n a x) e h := by
  unfold aSt; simp only [xo, evU_eq, storeU_eq]; cases a.ev e with
  | p k off => show @Option.rec SH (fun _ => RS) none (fun g => some (.tu [], g)) (storeAt n k off (x.ev e) h) = _; simp only; cases storeAt n k off (x.ev e) h <;> rfl
  | _ => rfl
def nckV : TV → SH → RS := @TV.rec (fun _ => SH → RS) (fun _ => PUnit) (fun _ _ => none) (fun _ _ _ => none) (fun _ _ => none) (fun k n h => some (.p k n, h)) (fun _ => none) (fun _ _ _ _ _ _ _ => none) (fun _ => none) (fun _ _ => none) (fun _ => none) (fun g a b _ _ h => @Fn.rec (fun _ => RS) (fun g => some (.f (.func g) a b, h)) (fun _ => none) (fun _ _ => none) (fun _ _ _ _ => none) (fun _ => none) g) (fun _ => none) (fun t v _ h => some (.ifc t v, h)) (fun _ => none) (fun _ _ _ => none) (fun _ _ _ => none) (fun _ _ => none) (fun _ => none) (fun _ _ _ => none) (fun _ _ _ _ => none) (fun _ _ => none) (fun _ => none) ⟨⟩ (fun _ _ _ _ => ⟨⟩)
def aNck (x : Opd) (e : TE) (h : SH) : RS := nckV (evU x e) h
theorem aNck_eq (x : Opd) (e : TE) (h : SH) : aNck x e h = xo (.nck x) e h := by
  unfold aNck; simp only [xo, evU_eq]; cases x.ev e with
  | f g a b => cases g <;> rfl
  | _ => rfl
def aBop (op : BinOp) (x y : Opd) (e : TE) (h : SH) : RS := (@Option.rec (TV) (fun _ => RS) none (fun v => some (v, h)) (bopU (evU x e) op (evU y e)))
theorem aBop_eq (op : BinOp) (x y : Opd) (e : TE) (h : SH) : aBop op x y e h = xo (.bop op x y) e h := by
  unfold aBop; simp only [xo, evU_eq, bopU_eq]; cases bop op (x.ev e) (y.ev e) <;> rfl
def aEq (kind : Nat) (n c : Bool) (x y : Opd) (e : TE) (h : SH) : RS := (@Option.rec (Bool) (fun _ => RS) none (fun r => some (.b (@Bool.rec (fun _ => Bool) r (@Bool.rec (fun _ => Bool) true false r) n), h)) (eqU kind c (evU x e) (evU y e)))
theorem aEq_eq (kind : Nat) (n c : Bool) (x y : Opd) (e : TE) (h : SH) : aEq kind n c x y e h = xo (.eq kind n c x y) e h := by
  unfold aEq; simp only [xo, evU_eq, eqU_eq]; cases eqTV kind c (x.ev e) (y.ev e) with
  | none => rfl
  | some r => cases n <;> cases r <;> rfl
def aBeq (n : Bool) (x y : Opd) (e : TE) (h : SH) : RS := (@Option.rec (Bool) (fun _ => RS) none (fun a => (@Option.rec (Bool) (fun _ => RS) none (fun b => some (.b (@Bool.rec (fun _ => Bool) (@Bool.rec (fun _ => Bool) (@Bool.rec (fun _ => Bool) true false b) b a) (@Bool.rec (fun _ => Bool) b (@Bool.rec (fun _ => Bool) true false b) a) n), h)) (toB (evU y e)))) (toB (evU x e)))
theorem aBeq_eq (n : Bool) (x y : Opd) (e : TE) (h : SH) : aBeq n x y e h = xo (.beq n x y) e h := by
  unfold aBeq; simp only [xo, evU_eq]; generalize x.ev e = u; generalize y.ev e = v; cases u with
  | b a => cases v with
    | b b => cases n <;> cases a <;> cases b <;> rfl
    | _ => rfl
  | _ => cases v <;> rfl
def unU : UnOp → TV → SH → RS := @UnOp.rec (fun _ => TV → SH → RS) (fun v h => (@Option.rec (IntKind × Int) (fun _ => RS) none (fun q => some (.i q.1 (kwU q.1 (subU (Int.ofNat (nat_lit 0)) q.2)), h)) (toI v))) (fun _ _ => none) (fun v h => (@Option.rec (Bool) (fun _ => RS) none (fun r => some (.b (@Bool.rec (fun _ => Bool) true false r), h)) (toB v))) (fun _ _ => none)
def aUn (op : UnOp) (x : Opd) (e : TE) (h : SH) : RS := unU op (evU x e) h
theorem aUn_eq (op : UnOp) (x : Opd) (e : TE) (h : SH) : aUn op x e h = xo (.un op x) e h := by
  unfold aUn; simp only [xo, evU_eq]; generalize x.ev e = v; cases op with
  | neg => cases v with
    | i k n => show some (TV.i k (kwU k (subU 0 n)), h) = _; rw [kwU_eq, subU_eq]
    | _ => rfl
  | not => cases v with
    | b r => cases r <;> rfl
    | _ => rfl
  | _ => cases v <;> rfl
def aCvi (k : IntKind) (x : Opd) (e : TE) (h : SH) : RS := (@Option.rec (IntKind × Int) (fun _ => RS) none (fun q => some (.i k (kwU k q.2), h)) (toI (evU x e)))
theorem aCvi_eq (k : IntKind) (x : Opd) (e : TE) (h : SH) : aCvi k x e h = xo (.cvi k x) e h := by
  unfold aCvi; simp only [xo, evU_eq, kwU_eq]; cases x.ev e <;> rfl
def aCvs (x : Opd) (e : TE) (h : SH) : RS := (@Option.rec (List Nat) (fun _ => RS) none (fun l => some (.s l, h)) (toS (evU x e)))
theorem aCvs_eq (x : Opd) (e : TE) (h : SH) : aCvs x e h = xo (.cvs x) e h := by
  unfold aCvs; simp only [xo, evU_eq]; cases x.ev e <;> rfl
def aMki (t : Nat) (x : Opd) (e : TE) (h : SH) : RS := some (.ifc t (evU x e), h)
theorem aMki_eq (t : Nat) (x : Opd) (e : TE) (h : SH) : aMki t x e h = xo (.mki t x) e h := by
  unfold aMki; simp only [xo, evU_eq]
def aMkf (g : Fn) (a b : List Opd) (e : TE) (h : SH) : RS := some (.f g (evsU a e) (evsU b e), h)
theorem aMkf_eq (g : Fn) (a b : List Opd) (e : TE) (h : SH) : aMkf g a b e h = xo (.mkf g a b) e h := by
  unfold aMkf; simp only [xo, evsU_eq]
def aFa (off : Nat) (x : Opd) (e : TE) (h : SH) : RS := (@Option.rec (Nat × Nat) (fun _ => RS) none (fun q => some (.p q.1 (Nat.add q.2 off), h)) (toP (evU x e)))
theorem aFa_eq (off : Nat) (x : Opd) (e : TE) (h : SH) : aFa off x e h = xo (.fa off x) e h := by
  unfold aFa; simp only [xo, evU_eq]; cases x.ev e <;> rfl
def aFld (g : Bool) (off n : Nat) (x : Opd) (e : TE) (h : SH) : RS := (@Option.rec (List TV) (fun _ => RS) none (fun l => (@Option.rec (TV) (fun _ => RS) none (fun v => some (v, h)) (aggU g (takeU n (dropU off l)) n))) (toAg (evU x e)))
theorem aFld_eq (g : Bool) (off n : Nat) (x : Opd) (e : TE) (h : SH) : aFld g off n x e h = xo (.fld g off n x) e h := by
  unfold aFld; simp only [xo, evU_eq, aggU_eq, takeU_eq, dropU_eq]; cases x.ev e with
  | ag l => show @Option.rec TV (fun _ => RS) none (fun v => some (v, h)) (aggOf g ((l.drop off).take n) n) = _; simp only; cases aggOf g ((l.drop off).take n) n <;> rfl
  | _ => rfl
def aIa (z : Nat) (x i : Opd) (e : TE) (h : SH) : RS := (@Option.rec (Nat × Nat × Nat × Nat) (fun _ => RS) none (fun q => (@Option.rec (Nat) (fun _ => RS) none (fun j => (@Bool.rec (fun _ => RS) none (@Bool.rec (fun _ => RS) none (some (.p q.1 (Nat.add q.2.1 (Nat.mul j z)), h)) (Nat.ble (Nat.succ j) q.2.2.2)) (Nat.beq q.2.2.1 z))) (toN (evU i e)))) (toSl (evU x e)))
theorem aIa_eq (z : Nat) (x i : Opd) (e : TE) (h : SH) : aIa z x i e h = xo (.ia z x i) e h := by
  unfold aIa; simp only [xo, evU_eq]; generalize x.ev e = u; generalize i.ev e = v; cases u with
  | sl k off sz n cap rest => cases v with
    | i ki m => cases m with
      | ofNat j =>
        show @Bool.rec (fun _ => RS) none (@Bool.rec (fun _ => RS) none (some (.p k (off + j * z), h)) (Nat.blt j n)) (Nat.beq sz z) = cond (Nat.beq sz z) (cond (Nat.blt j n) (some (.p k (off + j * z), h)) none) none
        cases Nat.beq sz z <;> cases Nat.blt j n <;> rfl
      | negSucc j => rfl
    | _ => rfl
  | _ => cases v <;> rfl
def aEx (x : Opd) (i : Nat) (e : TE) (h : SH) : RS := (@Option.rec (List TV) (fun _ => RS) none (fun l => (@Option.rec (TV) (fun _ => RS) none (fun v => some (v, h)) (nthV i l))) (toTu (evU x e)))
theorem aEx_eq (x : Opd) (i : Nat) (e : TE) (h : SH) : aEx x i e h = xo (.ex x i) e h := by
  unfold aEx; simp only [xo, evU_eq]; cases x.ev e with
  | tu l => show @Option.rec TV (fun _ => RS) none (fun v => some (v, h)) (nthV i l) = (match l.drop i with | v :: _ => some (v, h) | [] => none); rw [nthV_eq]; cases l.drop i <;> rfl
  | _ => rfl
def aIxS (x i : Opd) (e : TE) (h : SH) : RS := (@Option.rec (List Nat) (fun _ => RS) none (fun l => (@Option.rec (Nat) (fun _ => RS) none (fun j => (@Option.rec (Nat) (fun _ => RS) none (fun c => some (.i .u8 (Int.ofNat c), h)) (nthN j l))) (toN (evU i e)))) (toS (evU x e)))
theorem aIxS_eq (x i : Opd) (e : TE) (h : SH) : aIxS x i e h = xo (.ixS x i) e h := by
  unfold aIxS; simp only [xo, evU_eq]; generalize x.ev e = u; generalize i.ev e = v; cases u with
  | s l => cases v with
    | i ki m => cases m with
      | ofNat j => show @Option.rec Nat (fun _ => RS) none (fun c => some (.i .u8 (Int.ofNat c), h)) (nthN j l) = (match l.drop j with | c :: _ => some (.i .u8 (Int.ofNat c), h) | [] => none); rw [nthN_eq]; cases l.drop j <;> rfl
      | negSucc j => rfl
    | _ => rfl
  | _ => cases v <;> rfl
def taV : TV → Bool → Nat → TV → SH → RS := @TV.rec (fun _ => Bool → Nat → TV → SH → RS) (fun _ => PUnit) (fun _ _ _ _ _ => none) (fun _ _ _ _ _ _ => none) (fun _ _ _ _ _ => none) (fun _ _ _ _ _ _ => none) (fun _ _ _ _ => none) (fun _ _ _ _ _ _ _ _ _ _ => none) (fun _ _ _ _ => none) (fun _ _ _ _ _ => none) (fun _ _ _ _ => none) (fun _ _ _ _ _ _ _ _ _ => none) (fun _ _ _ _ => none) (fun t v _ ok a z h => (@Bool.rec (fun _ => RS) (@Bool.rec (fun _ => RS) none (some (.tu [z, .b false], h)) ok) (some ((@Bool.rec (fun _ => TV) v (.tu [v, .b true]) ok), h)) (Nat.beq t a))) (fun ok _ z h => (@Bool.rec (fun _ => RS) none (some (.tu [z, .b false], h)) ok)) (fun _ _ _ _ _ _ => none) (fun _ _ _ _ _ _ => none) (fun _ _ _ _ _ => none) (fun _ _ _ _ => none) (fun _ _ _ _ _ _ => none) (fun _ _ _ _ _ _ _ => none) (fun _ _ _ _ _ => none) (fun _ _ _ _ => none) ⟨⟩ (fun _ _ _ _ => ⟨⟩)
def aTa (ok : Bool) (a : Nat) (z : TV) (x : Opd) (e : TE) (h : SH) : RS := taV (evU x e) ok a z h
theorem aTa_eq (ok : Bool) (a : Nat) (z : TV) (x : Opd) (e : TE) (h : SH) : aTa ok a z x e h = xo (.ta ok a z x) e h := by
  unfold aTa; simp only [xo, evU_eq]; cases x.ev e with
  | ifc t v =>
    show @Bool.rec (fun _ => RS) (@Bool.rec (fun _ => RS) none (some (.tu [z, .b false], h)) ok) (some (@Bool.rec (fun _ => TV) v (.tu [v, .b true]) ok, h)) (Nat.beq t a) = cond (Nat.beq t a) (some (cond ok (.tu [v, .b true]) v, h)) (cond ok (some (.tu [z, .b false], h)) none)
    cases Nat.beq t a <;> cases ok <;> rfl
  | ifn => cases ok <;> rfl
  | _ => rfl
def aLen (kind : Nat) (x : Opd) (e : TE) (h : SH) : RS := @Nat.rec (fun _ => RS) (@Option.rec (List Nat) (fun _ => RS) none (fun l => some (.i .i64 (Int.ofNat (lenN l)), h)) (toS (evU x e))) (fun j _ => @Nat.rec (fun _ => RS) (@Option.rec (Nat) (fun _ => RS) none (fun n => some (.i .i64 (Int.ofNat n), h)) (lenSl (evU x e))) (fun _ _ => lenOfTV kind (evU x e) h) j) kind
theorem aLen_eq (kind : Nat) (x : Opd) (e : TE) (h : SH) : aLen kind x e h = xo (.len kind x) e h := by
  unfold aLen; simp only [xo, evU_eq]; generalize x.ev e = v; rcases kind with _ | _ | k
  · cases v with
    | s l => show some (TV.i .i64 (Int.ofNat (lenN l)), h) = _; rw [lenN_eq]; rfl
    | _ => rfl
  · cases v <;> rfl
  · rfl
def appB : TB → Nat → Nat → Nat → Nat → Nat → Bool → Nat → List TV → Nat → SH → RS := @TB.rec (fun _ => Nat → Nat → Nat → Nat → Nat → Bool → Nat → List TV → Nat → SH → RS) (fun l bty ro k off len cap z rest ty new n h => (@Bool.rec (fun _ => RS) none (@Bool.rec (fun _ => RS) (@Bool.rec (fun _ => RS) (newSlU ty z (Nat.add len n) (appU (takeU (Nat.mul len z) (dropU off l)) new) true (h.see k)) (@Bool.rec (fun _ => RS) (@Bool.rec (fun _ => RS) none (@Bool.rec (fun _ => RS) none (newSlU ty z (Nat.add len n) (appU (takeU (Nat.mul len z) (dropU off l)) new) true (wrtU h k .dead)) (Nat.ble (Nat.succ k) (nat_lit 4000000))) (Nat.beq bty ty)) none ro) rest) (@Bool.rec (fun _ => RS) (@Bool.rec (fun _ => RS) none (some (.sl k off z (Nat.add len n) cap rest, wrtU h k (.cells (splU (Nat.add off (Nat.mul len z)) new l) bty false))) (Nat.ble (Nat.succ k) (nat_lit 4000000))) none ro) (Nat.ble (Nat.add len n) cap)) (longU (Nat.add off (Nat.mul len z)) l))) (fun _ _ _ _ _ _ _ _ _ _ => none) (fun _ _ _ _ _ _ _ _ _ _ _ _ => none) (fun _ _ _ _ _ _ _ _ _ _ _ _ _ _ _ _ _ => none) (fun _ _ _ _ _ _ _ _ _ _ => none) (fun _ _ _ _ _ _ _ _ _ _ _ _ => none) (fun _ _ _ _ _ _ _ _ _ _ _ _ => none)
def appV : TV → Nat → Nat → List TV → Nat → SH → RS := @TV.rec (fun _ => Nat → Nat → List TV → Nat → SH → RS) (fun _ => PUnit) (fun _ _ _ _ _ _ => none) (fun _ _ _ _ _ _ _ => none) (fun _ _ _ _ _ _ => none) (fun _ _ _ _ _ _ _ => none) (fun _ _ _ _ _ => none) (fun k off sz len cap rest ty z new n h => (@Bool.rec (fun _ => RS) none (@Bool.rec (fun _ => RS) none (@Option.rec (TB) (fun _ => RS) none (fun b => appB b k off len cap z rest ty new n h) (h.tr.gB k)) (Nat.ble (Nat.succ (Nat.add len n)) (nat_lit 1000000))) (Nat.beq sz z))) (fun ty z new n h => newSlU ty z n new true h) (fun _ _ _ _ _ _ => none) (fun _ _ _ _ _ => none) (fun _ _ _ _ _ _ _ _ _ _ => none) (fun _ _ _ _ _ => none) (fun _ _ _ _ _ _ _ _ => none) (fun _ _ _ _ _ => none) (fun _ _ _ _ _ _ _ => none) (fun _ _ _ _ _ _ _ => none) (fun _ _ _ _ _ _ => none) (fun _ _ _ _ _ => none) (fun _ _ _ _ _ _ _ => none) (fun _ _ _ _ _ _ _ _ => none) (fun _ _ _ _ _ _ => none) (fun _ _ _ _ _ => none) ⟨⟩ (fun _ _ _ _ => ⟨⟩)
def app0 : TV → SH → RS := @TV.rec (fun _ => SH → RS) (fun _ => PUnit) (fun _ _ => none) (fun _ _ _ => none) (fun _ _ => none) (fun _ _ _ => none) (fun _ => none) (fun a b c d f g h => some (.sl a b c d f g, h)) (fun h => some (.sln, h)) (fun _ _ => none) (fun _ => none) (fun _ _ _ _ _ _ => none) (fun _ => none) (fun _ _ _ _ => none) (fun _ => none) (fun _ _ _ => none) (fun _ _ _ => none) (fun _ _ => none) (fun _ => none) (fun _ _ _ => none) (fun _ _ _ _ => none) (fun _ _ => none) (fun h => some (.ne, h)) ⟨⟩ (fun _ _ _ _ => ⟨⟩)
def appRU (ty z : Nat) (s : TV) (new : List TV) (n : Nat) (h : SH) : RS := (@Bool.rec (fun _ => RS) (@Bool.rec (fun _ => RS) none (appV s ty z new n h) (@Bool.rec (fun _ => Bool) false (@Bool.rec (fun _ => Bool) false (Nat.ble (Nat.succ n) (nat_lit 100000)) (Nat.beq (lenU new) (Nat.mul n z))) (allScalU new))) (app0 s h) (Nat.beq n (nat_lit 0)))
theorem appV_eq (s : TV) (ty z : Nat) (new : List TV) (n : Nat) (h : SH) : appV s ty z new n h = (match s with
    | .sln => newSl ty z n new true h
    | .sl k off sz len cap rest =>
      cond (Nat.beq sz z) (cond (Nat.blt (len + n) 1000000) (match h.get k with
        | some (.cells l bty ro) =>
          cond (Nat.ble (off + len * z) l.length) (
            cond (Nat.ble (len + n) cap) (cond ro none (cond (Nat.blt k 4000000) (some (.sl k off z (len + n) cap rest, h.wrt k (.cells (splice l (off + len * z) new) bty false))) none)) (
              match rest with
              | false => newSl ty z (len + n) ((l.drop off).take (len * z) ++ new) true (h.see k)
              | true => cond ro none (cond (Nat.beq bty ty) (cond (Nat.blt k 4000000) (newSl ty z (len + n) ((l.drop off).take (len * z) ++ new) true (h.wrt k .dead)) none) none))) none
        | _ => none) none) none
    | _ => none) := by
  cases s with
  | sln => exact newSlU_eq ..
  | sl k off sz len cap rest =>
    show @Bool.rec (fun _ => RS) none (@Bool.rec (fun _ => RS) none (@Option.rec TB (fun _ => RS) none (fun b => appB b k off len cap z rest ty new n h) (h.tr.gB k)) (Nat.blt (len + n) 1000000)) (Nat.beq sz z) = _
    rw [gB_eq]
    simp only [SH.get]
    cases Nat.beq sz z
    · rfl
    cases Nat.blt (len + n) 1000000
    · rfl
    cases h.tr.get k with
    | none => rfl
    | some b => cases b with
      | cells l bty ro =>
        show @Bool.rec (fun _ => RS) none (@Bool.rec (fun _ => RS) (@Bool.rec (fun _ => RS) (newSlU ty z (len + n) (appU (takeU (len * z) (dropU off l)) new) true (h.see k)) (@Bool.rec (fun _ => RS) (@Bool.rec (fun _ => RS) none (@Bool.rec (fun _ => RS) none (newSlU ty z (len + n) (appU (takeU (len * z) (dropU off l)) new) true (wrtU h k .dead)) (Nat.blt k 4000000)) (Nat.beq bty ty)) none ro) rest) (@Bool.rec (fun _ => RS) (@Bool.rec (fun _ => RS) none (some (.sl k off z (len + n) cap rest, wrtU h k (.cells (splU (off + len * z) new l) bty false))) (Nat.blt k 4000000)) none ro) (Nat.ble (len + n) cap)) (longU (off + len * z) l) = _
        rw [newSlU_eq, newSlU_eq, wrtU_eq, wrtU_eq, splU_eq, longU_eq, appU_eq, takeU_eq, dropU_eq]
        simp only
        cases Nat.ble (off + len * z) l.length <;> cases Nat.ble (len + n) cap <;> cases ro <;> cases rest <;> cases Nat.blt k 4000000 <;> cases Nat.beq bty ty <;> rfl
      | _ => rfl
  | _ => rfl
theorem appRU_eq (ty z : Nat) (s : TV) (new : List TV) (n : Nat) (h : SH) : appRU ty z s new n h = appendRow ty z s new n h := by
  show @Bool.rec (fun _ => RS) (@Bool.rec (fun _ => RS) none (appV s ty z new n h) (@Bool.rec (fun _ => Bool) false (@Bool.rec (fun _ => Bool) false (Nat.blt n 100000) (Nat.beq (lenU new) (n * z))) (allScalU new))) (app0 s h) (Nat.beq n 0) = _
  rw [appV_eq, lenU_eq, allScalU_eq]
  unfold appendRow
  cases Nat.beq n 0
  · cases allScal new <;> cases Nat.beq new.length (n * z) <;> cases Nat.blt n 100000 <;> rfl
  · cases s <;> rfl
def aApp (ty z : Nat) (s x : Opd) (e : TE) (h : SH) : RS := (@Option.rec (List TV × Nat × SH) (fun _ => RS) none (fun q => appRU ty z (evU s e) q.1 q.2.1 q.2.2) (srcU (evU x e) z h))
theorem aApp_eq (ty z : Nat) (s x : Opd) (e : TE) (h : SH) : aApp ty z s x e h = xo (.app ty z s x) e h := by
  unfold aApp; simp only [xo, evU_eq, srcU_eq, appendTo]; cases srcOf z (x.ev e) h with
  | none => rfl
  | some q => exact appRU_eq ..
def cslc (esz : Nat) (x : Opd) (lo hi mx : Option Opd) (e : TE) (h : SH) : RS := match x.ev e with
    | .sl k off sz len cap rest => cond (Nat.beq sz esz) (match bound e mx cap cap with
      | some m => match bound e hi len m with
        | some b => match bound e lo 0 b with
          | some a =>
            cond (Nat.beq m a) (cond (restOf mx rest) (cond (Nat.beq a 0) (some (.sl k off esz (b - a) (m - a) (restOf mx rest), h)) (some (.ne, h))) (some (.sl k off esz (b - a) (m - a) (restOf mx rest), h)))
              (some (.sl k (off + a * esz) esz (b - a) (m - a) (restOf mx rest), h))
          | none => none
        | none => none
      | none => none) none
    | .sln => match bound e mx 0 0 with
      | some m => match bound e hi 0 m with
        | some b => match bound e lo 0 b with
          | some _ => some (.sln, h)
          | none => none
        | none => none
      | none => none
    | .ne => match bound e mx 0 0 with
      | some m => match bound e hi 0 m with
        | some b => match bound e lo 0 b with
          | some _ => some (.ne, h)
          | none => none
        | none => none
      | none => none
    | _ => none
def cslcS (x : Opd) (lo hi : Option Opd) (e : TE) (h : SH) : RS := match x.ev e with
    | .s l => match bound e hi l.length l.length with
      | some b => match bound e lo 0 b with
        | some a => some (.s ((l.drop a).take (b - a)), h)
        | none => none
      | none => none
    | _ => none
def ciaA (len esz : Nat) (x ix : Opd) (e : TE) (h : SH) : RS := match x.ev e, ix.ev e with
    | .p k off, .i _ (.ofNat j) => cond (Nat.blt j len) (some (.p k (off + j * esz), h)) none
    | _, _ => none
def clk (str : KK) (ok : Bool) (zero : TV) (m k : Opd) (e : TE) (h : SH) : RS := match m.ev e with
    | .mn => cond (keyOk str (k.ev e)) (some (cond ok (.tu [zero, .b false]) zero, h)) none
    | .m b => match h.get b with
      | some (.mp es _) => match findK str (k.ev e) es 0 with
        | some (some (_, v)) => some (cond ok (.tu [v, .b true]) v, h.see b)
        | some none => some (cond ok (.tu [zero, .b false]) zero, h.see b)
        | none => none
      | _ => none
    | _ => none
def cins (str : KK) (m k v : Opd) (e : TE) (h : SH) : RS := match m.ev e with
    | .m b => match h.get b with
      | some (.mp es c) => match findK str (k.ev e) es 0 with
        | some (some (i, _)) => cond (Nat.blt b 4000000) (some (.tu [], h.wrt b (.mp (updK (k.ev e) (v.ev e) es i) c))) none
        | some none => cond (Nat.blt b 4000000) (some (.tu [], h.wrt b (.mp (es ++ [(k.ev e, v.ev e, c)]) (c + 1)))) none
        | none => none
      | _ => none
    | _ => none
def cvV : TV → Meth → CallT → List Opd → TE → SH → RS := @TV.rec (fun _ => Meth → CallT → List Opd → TE → SH → RS) (fun _ => PUnit) (fun _ _ _ _ _ _ => none) (fun _ _ _ _ _ _ _ => none) (fun _ _ _ _ _ _ => none) (fun _ _ _ _ _ _ _ => none) (fun _ _ _ _ _ => none) (fun _ _ _ _ _ _ _ _ _ _ _ => none) (fun _ _ _ _ _ => none) (fun _ _ _ _ _ _ => none) (fun _ _ _ _ _ => none) (fun g a b _ _ _ C l e h => @Fn.rec (fun _ => RS) (fun g => C (.fn g) (appU a (appU (evsU l e) b)) h) (fun _ => none) (fun _ _ => none) (fun _ _ _ _ => none) (fun _ => none) g) (fun _ _ _ _ _ => none) (fun _ _ _ _ _ _ _ _ => none) (fun _ _ _ _ _ => none) (fun _ _ _ _ _ _ _ => none) (fun _ _ _ _ _ _ _ => none) (fun _ _ _ _ _ _ => none) (fun _ _ _ _ _ => none) (fun _ _ _ _ _ _ _ => none) (fun _ _ _ _ _ _ _ _ => none) (fun k _ C l e h => C (.yd k) (evsU l e) h) (fun _ _ _ _ _ => none) ⟨⟩ (fun _ _ _ _ => ⟨⟩)
def inV : TV → String → Meth → CallT → List Opd → TE → SH → RS := @TV.rec (fun _ => String → Meth → CallT → List Opd → TE → SH → RS) (fun _ => PUnit) (fun _ _ _ _ _ _ _ => none) (fun _ _ _ _ _ _ _ _ => none) (fun _ _ _ _ _ _ _ => none) (fun _ _ _ _ _ _ _ _ => none) (fun _ _ _ _ _ _ => none) (fun _ _ _ _ _ _ _ _ _ _ _ _ => none) (fun _ _ _ _ _ _ => none) (fun _ _ _ _ _ _ _ => none) (fun _ _ _ _ _ _ => none) (fun _ _ _ _ _ _ _ _ _ _ _ => none) (fun _ _ _ _ _ _ => none) (fun t v _ s M C l e h => (@Option.rec (Nat) (fun _ => RS) none (fun g => C (.fn g) (v :: evsU l e) h) (M.m t s))) (fun _ _ _ _ _ _ => none) (fun _ _ _ _ _ _ _ _ => none) (fun _ _ _ _ _ _ _ _ => none) (fun _ _ _ _ _ _ _ => none) (fun _ _ _ _ _ _ => none) (fun _ _ _ _ _ _ _ _ => none) (fun _ _ _ _ _ _ _ _ _ => none) (fun _ _ _ _ _ _ _ => none) (fun _ _ _ _ _ _ => none) ⟨⟩ (fun _ _ _ _ => ⟨⟩)
def xoU : XO → Meth → CallT → TE → SH → RS := @XO.rec (fun _ => Meth → CallT → TE → SH → RS) (fun x _ _ e h => some (evU x e, h)) (fun x0 x1 x2 _ _ e h => aPick x0 x1 x2 e h) (fun x0 x1 x2 _ _ e h => aBox x0 x1 x2 e h) (fun x0 x1 _ _ e h => aBld x0 x1 e h) (fun x0 x1 x2 x3 x4 _ _ e h => aBls x0 x1 x2 x3 x4 e h) (fun x0 x1 x2 _ _ e h => aLd x0 x1 x2 e h) (fun x0 x1 x2 _ _ e h => aSt x0 x1 x2 e h) (fun x0 _ _ e h => aNck x0 e h) (fun x0 x1 x2 _ _ e h => aBop x0 x1 x2 e h) (fun x0 x1 x2 x3 x4 _ _ e h => aEq x0 x1 x2 x3 x4 e h) (fun x0 x1 x2 _ _ e h => aBeq x0 x1 x2 e h) (fun x0 x1 x2 x3 M C e h => opC M C (.eqw x0 x1 x2 x3) e h) (fun x0 x1 _ _ e h => aUn x0 x1 e h) (fun x0 x1 _ _ e h => aCvi x0 x1 e h) (fun x0 _ _ e h => aCvs x0 e h) (fun x0 M C e h => opC M C (.cvb x0) e h) (fun x0 x1 _ _ e h => aMki x0 x1 e h) (fun x0 x1 x2 _ _ e h => aMkf x0 x1 x2 e h) (fun x0 x1 x2 _ _ e h => cslcS x0 x1 x2 e h) (fun x0 x1 x2 x3 x4 _ _ e h => cslc x0 x1 x2 x3 x4 e h) (fun x0 x1 _ _ e h => aFa x0 x1 e h) (fun x0 x1 x2 x3 _ _ e h => aFld x0 x1 x2 x3 e h) (fun x0 x1 x2 _ _ e h => aIa x0 x1 x2 e h) (fun x0 x1 x2 x3 _ _ e h => ciaA x0 x1 x2 x3 e h) (fun x0 x1 _ _ e h => aIxS x0 x1 e h) (fun x0 x1 x2 x3 x4 M C e h => opC M C (.ixA x0 x1 x2 x3 x4) e h) (fun x0 x1 x2 x3 _ _ e h => aTa x0 x1 x2 x3 e h) (fun x0 x1 _ _ e h => aEx x0 x1 e h) (fun x0 x1 _ _ e h => aLen x0 x1 e h) (fun x0 x1 x2 x3 _ _ e h => aApp x0 x1 x2 x3 e h) (fun f l _ C e h => C (.fn f) (evsU l e) h) (fun f l M C e h => cvV (evU f e) M C l e h) (fun x s l M C e h => inV (evU x e) s M C l e h) (fun M C e h => opC M C .mkm e h) (fun x0 x1 x2 x3 _ _ e h => cins x0 x1 x2 x3 e h) (fun x0 x1 x2 x3 x4 _ _ e h => clk x0 x1 x2 x3 x4 e h) (fun x0 x1 x2 M C e h => opC M C (.del x0 x1 x2) e h) (fun x0 x1 x2 M C e h => opC M C (.mm x0 x1 x2) e h) (fun x0 x1 x2 x3 x4 x5 M C e h => opC M C (.slcA x0 x1 x2 x3 x4 x5) e h) (fun x0 x1 x2 x3 x4 M C e h => opC M C (.mks x0 x1 x2 x3 x4) e h) (fun x0 x1 x2 x3 M C e h => opC M C (.taI x0 x1 x2 x3) e h) (fun x0 x1 x2 M C e h => opC M C (.boxB x0 x1 x2) e h) (fun x0 M C e h => opC M C (.rgS x0) e h) (fun x0 M C e h => opC M C (.nxS x0) e h) (fun M C e h => opC M C .bad e h)
theorem xoU_eq (M : Meth) (C : CallT) (o : XO) (e : TE) (h : SH) : xoU o M C e h = opC M C o e h := by
  cases o with
  | mv x => show some (evU x e, h) = _; rw [evU_eq]; rfl
  | pick x0 x1 x2 => exact aPick_eq x0 x1 x2 e h
  | box x0 x1 x2 => exact aBox_eq x0 x1 x2 e h
  | bld x0 x1 => exact aBld_eq x0 x1 e h
  | bls x0 x1 x2 x3 x4 => exact aBls_eq x0 x1 x2 x3 x4 e h
  | ld x0 x1 x2 => exact aLd_eq x0 x1 x2 e h
  | st x0 x1 x2 => exact aSt_eq x0 x1 x2 e h
  | nck x0 => exact aNck_eq x0 e h
  | bop x0 x1 x2 => exact aBop_eq x0 x1 x2 e h
  | eq x0 x1 x2 x3 x4 => exact aEq_eq x0 x1 x2 x3 x4 e h
  | beq x0 x1 x2 => exact aBeq_eq x0 x1 x2 e h
  | un x0 x1 => exact aUn_eq x0 x1 e h
  | cvi x0 x1 => exact aCvi_eq x0 x1 e h
  | cvs x0 => exact aCvs_eq x0 e h
  | mki x0 x1 => exact aMki_eq x0 x1 e h
  | mkf x0 x1 x2 => exact aMkf_eq x0 x1 x2 e h
  | fa x0 x1 => exact aFa_eq x0 x1 e h
  | fld x0 x1 x2 x3 => exact aFld_eq x0 x1 x2 x3 e h
  | ia x0 x1 x2 => exact aIa_eq x0 x1 x2 e h
  | ixS x0 x1 => exact aIxS_eq x0 x1 e h
  | ta x0 x1 x2 x3 => exact aTa_eq x0 x1 x2 x3 e h
  | ex x0 x1 => exact aEx_eq x0 x1 e h
  | len x0 x1 => exact aLen_eq x0 x1 e h
  | app x0 x1 x2 x3 => exact aApp_eq x0 x1 x2 x3 e h
  | call f l => show C (.fn f) (evsU l e) h = _; rw [evsU_eq]; rfl
  | callv f l =>
    show cvV (evU f e) M C l e h = _
    rw [evU_eq]
    simp only [opC]
    cases f.ev e with
    | f g a b => cases g with
      | func g => show C (.fn g) (appU a (appU (evsU l e) b)) h = _; rw [evsU_eq, appU_eq, appU_eq]
      | _ => rfl
    | y k => show C (.yd k) (evsU l e) h = _; rw [evsU_eq]
    | _ => rfl
  | inv x s l =>
    show inV (evU x e) s M C l e h = _
    rw [evU_eq]
    simp only [opC]
    cases x.ev e with
    | ifc t v => show @Option.rec Nat (fun _ => RS) none (fun g => C (.fn g) (v :: evsU l e) h) (M.m t s) = (match M.m t s with | some g => C (.fn g) (v :: evs e l) h | none => none); rw [evsU_eq]; cases M.m t s <;> rfl
    | _ => rfl
  | _ => rfl
def op1U (o : XO) (M : Meth) (C : CallT) (e : TE) (h : SH) : RS := @Bool.rec (fun _ => RS) (xoU o M C e ⟨h.tr, h.nx, h.lg, h.wr, false, h.pa, h.ob⟩) (opO M C o e h) h.md
theorem op1U_eq (M : Meth) (C : CallT) (o : XO) (e : TE) (h : SH) : op1U o M C e h = op1 M C o e h := by
  unfold op1U op1
  rw [xoU_eq]
  obtain ⟨a, b, c, d, m, f, g⟩ := h
  cases m <;> rfl
def evRU (M : Meth) (C : CallT) : List RO → TE → SH → RT := @List.rec RO (fun _ => TE → SH → RT) (fun e h => some (e, h)) (fun r _ ih e h => (@Option.rec (Bool) (fun _ => RT) none (fun b => (@Bool.rec (fun _ => RT) (ih (putU r.dst e (.tu [])) h) (@Option.rec (TV × SH) (fun _ => RT) none (fun q => ih (putU r.dst e q.1) q.2) (op1U r.op M C e h)) b)) (wantU r.guard e)))
theorem evRU_eq (M : Meth) (C : CallT) : ∀ (l : List RO) (e : TE) (h : SH), evRU M C l e h = evR M C l e h
  | [], _, _ => rfl
  | r :: t, e, h => by
    show (@Option.rec (Bool) (fun _ => RT) none (fun b => (@Bool.rec (fun _ => RT) (evRU M C t (putU r.dst e (.tu [])) h) (@Option.rec (TV × SH) (fun _ => RT) none (fun q => evRU M C t (putU r.dst e q.1) q.2) (op1U r.op M C e h)) b)) (wantU r.guard e)) = _
    rw [evR]
    rw [wantU_eq, op1U_eq]
    cases want r.guard e with
    | none => rfl
    | some b => cases b with
      | false => show evRU M C t (putU r.dst e (.tu [])) h = _; rw [putU_eq, evRU_eq M C t]
      | true => cases op1 M C r.op e h with
        | none => rfl
        | some q => show evRU M C t (putU r.dst e q.1) q.2 = _; rw [putU_eq, evRU_eq M C t]
def evPU (M : Meth) (C : CallT) : List RO → TE → SH → LL → RP := @List.rec RO (fun _ => TE → SH → LL → RP) (fun e h acc => some (e, h, acc)) (fun r _ ih e h acc => (@Option.rec (Bool) (fun _ => RP) none (fun b => (@Bool.rec (fun _ => RP) (ih (putU r.dst e (.tu [])) h (([], []) :: acc)) (@Option.rec (TV × SH) (fun _ => RP) none (fun q => ih (putU r.dst e q.1) q.2 ((q.2.lg, q.2.wr) :: acc)) (op1U r.op M C e h.fresh)) b)) (wantU r.guard e)))
theorem evPU_eq (M : Meth) (C : CallT) : ∀ (l : List RO) (e : TE) (h : SH) (acc : LL), evPU M C l e h acc = evP M C l e h acc
  | [], _, _, _ => rfl
  | r :: t, e, h, acc => by
    show (@Option.rec (Bool) (fun _ => RP) none (fun b => (@Bool.rec (fun _ => RP) (evPU M C t (putU r.dst e (.tu [])) h (([], []) :: acc)) (@Option.rec (TV × SH) (fun _ => RP) none (fun q => evPU M C t (putU r.dst e q.1) q.2 ((q.2.lg, q.2.wr) :: acc)) (op1U r.op M C e h.fresh)) b)) (wantU r.guard e)) = _
    rw [evP]
    rw [wantU_eq, op1U_eq]
    cases want r.guard e with
    | none => rfl
    | some b => cases b with
      | false => show evPU M C t (putU r.dst e (.tu [])) h _ = _; rw [putU_eq, evPU_eq M C t]
      | true => cases op1 M C r.op e h.fresh with
        | none => rfl
        | some q => show evPU M C t (putU r.dst e q.1) q.2 _ = _; rw [putU_eq, evPU_eq M C t]
def bitsU : List Nat → Nat := @List.rec Nat (fun _ => Nat) (nat_lit 0) (fun k _ ih => Nat.lor (Nat.pow (nat_lit 2) k) ih)
theorem bitsU_bit (k : Nat) : ∀ l : List Nat, (bitsU l).testBit k = mem k l
  | [] => Nat.zero_testBit k
  | j :: r => by
    show (2 ^ j ||| bitsU r).testBit k = cond (Nat.beq k j) true (mem k r)
    rw [Nat.testBit_or, Nat.testBit_two_pow, bitsU_bit k r]
    by_cases e : j = k
    · subst e; simp
    · rw [decide_eq_false e, Bool.eq_false_iff.2 fun h => e (Nat.eq_of_beq_eq_true h).symm]; rfl
theorem meets_no (m : List Nat) : ∀ l : List Nat, meets l m = false → ∀ k, mem k l = true → mem k m = false
  | [], _, _, h => by cases h
  | j :: r, h, k, hk => by
    simp only [meets] at h
    simp only [mem] at hk
    cases e : mem j m with
    | true => rw [e] at h; cases h
    | false =>
      rw [e] at h
      cases e2 : Nat.beq k j with
      | true => rw [Nat.eq_of_beq_eq_true e2]; exact e
      | false => rw [e2] at hk; exact meets_no m r h k hk
theorem meets_yes (m : List Nat) : ∀ l : List Nat, meets l m = true → ∃ k, mem k l = true ∧ mem k m = true
  | [], h => by cases h
  | j :: r, h => by
    simp only [meets] at h
    cases e : mem j m with
    | true => exact ⟨j, by simp [mem], e⟩
    | false =>
      rw [e] at h
      obtain ⟨k, h1, h2⟩ := meets_yes m r h
      exact ⟨k, by simp only [mem]; rw [h1]; cases Nat.beq k j <;> rfl, h2⟩
def meetsU (x y : List Nat) : Bool := @Bool.rec (fun _ => Bool) true false (Nat.beq (Nat.land (bitsU x) (bitsU y)) (nat_lit 0))
theorem meetsU_eq (x y : List Nat) : meetsU x y = meets x y := by
  show @Bool.rec (fun _ => Bool) true false (Nat.beq (bitsU x &&& bitsU y) 0) = _
  cases h : meets x y with
  | false =>
    have : bitsU x &&& bitsU y = 0 := Nat.eq_of_testBit_eq fun k => by
      rw [Nat.testBit_and, bitsU_bit, bitsU_bit, Nat.zero_testBit]
      cases e : mem k x with
      | false => rfl
      | true => rw [meets_no y x h k e]; rfl
    rw [this]; rfl
  | true =>
    obtain ⟨k, h1, h2⟩ := meets_yes y x h
    have e : Nat.beq (bitsU x &&& bitsU y) 0 = false := Bool.eq_false_iff.2 fun q => by
      have q := congrArg (fun n => n.testBit k) (Nat.eq_of_beq_eq_true q)
      simp only [Nat.testBit_and, bitsU_bit, Nat.zero_testBit, h1, h2] at q
      cases q
    rw [e]
def okOneU (i : Nat) (x : LP) : List Nat → LL → Bool := @List.rec Nat (fun _ => LL → Bool) (fun _ => true) (fun a _ ih l => @List.rec (LP) (fun _ => Bool) true (fun y t _ => @Bool.rec (fun _ => Bool) (ih t) (@Bool.rec (fun _ => Bool) false (ih t) (Nat.testBit a i)) (@Bool.rec (fun _ => Bool) (meetsU y.2 x.1) true (meetsU x.2 y.1))) l)
theorem okOneU_eq (i : Nat) (x : LP) : ∀ (anc : List Nat) (l : LL), okOneU i x anc l = okOne i x anc l
  | [], l => by cases l <;> rfl
  | _ :: _, [] => rfl
  | a :: r, y :: t => by
    show @Bool.rec (fun _ => Bool) (okOneU i x r t) (@Bool.rec (fun _ => Bool) false (okOneU i x r t) (Nat.testBit a i)) (@Bool.rec (fun _ => Bool) (meetsU y.2 x.1) true (meetsU x.2 y.1)) = _
    rw [okOneU_eq i x r t, meetsU_eq, meetsU_eq, okOne, conf]
    cases meets x.2 y.1 <;> cases meets y.2 x.1 <;> cases Nat.testBit a i <;> rfl
def okParU : List Nat → Nat → LL → Bool := @List.rec Nat (fun _ => Nat → LL → Bool) (fun _ _ => true) (fun _ anc ih i l => @List.rec (LP) (fun _ => Bool) true (fun x t _ => @Bool.rec (fun _ => Bool) false (ih (Nat.succ i) t) (okOneU i x anc t)) l)
theorem okParU_eq : ∀ (anc : List Nat) (i : Nat) (l : LL), okParU anc i l = okPar i anc l
  | [], _, l => by cases l <;> rfl
  | _ :: _, _, [] => rfl
  | _ :: r, i, x :: t => by
    show @Bool.rec (fun _ => Bool) false (okParU r (i + 1) t) (okOneU i x r t) = _
    rw [okParU_eq r (i + 1) t, okOneU_eq, okPar]
    cases okOne i x r t <;> rfl
def appN : List Nat → List Nat → List Nat := @List.rec Nat (fun _ => List Nat → List Nat) (fun l => l) (fun a _ ih l => a :: ih l)
theorem appN_eq (m : List Nat) : ∀ l : List Nat, appN l m = l ++ m
  | [] => rfl
  | a :: t => congrArg (a :: ·) (appN_eq m t)
def allLogsU : LL → LP := @List.rec (LP) (fun _ => LP) ([], []) (fun x _ ih => (appN x.1 ih.1, appN x.2 ih.2))
theorem allLogsU_eq : ∀ l : LL, allLogsU l = allLogs l
  | [] => rfl
  | x :: r => by show (appN x.1 (allLogsU r).1, appN x.2 (allLogsU r).2) = _; rw [allLogsU_eq r, appN_eq, appN_eq]; rfl
def lpU (rd : Option Nat) (N : Nat) (ps : List Nat) (as bd : IC) (e : TE) (h : SH) : Option (Nat × List Nat × SH) :=
  match rd with
  | none => cond (Nat.blt h.nx 3999999) (some (h.nx + 1, [h.nx], newU (newU h .df) (.lp N ps as bd e 0 .nrm))) none
  | some k => match h.tr.gB k with
    | some (.lp ..) => cond h.room (some (h.nx, [], newU (h.see k) (.lp N ps as bd e 0 .nrm))) none
    | _ => none
theorem lpU_eq (rd : Option Nat) (N : Nat) (ps : List Nat) (as bd : IC) (e : TE) (h : SH) : lpU rd N ps as bd e h = evC.lpNew rd N ps as bd e h := by
  unfold lpU evC.lpNew
  simp only [newU_eq, gB_eq]
  rfl
def rngU (C : CallT) (rd : Option Nat) (N : Nat) (f : Opd) (ps : List Nat) (as bd : IC) (e : TE) (h : SH) : RC := match evU f e with
  | .f (.func g) [] cap => match lpU rd N ps as bd e h with
    | some (l, ms, h) => match C (.fn g) (.y l :: cap) h with
      | some (_, h) => match h.tr.gB l with
        | some (.lp _ _ _ _ _ st pd) => cond (Nat.beq st 1) none (cond (Nat.blt l 4000000) (some (pd, e, wrtU h l .dead, ms)) none)
        | _ => none
      | none => none
    | none => none
  | _ => none
def evCU (M : Meth) (C : CallT) (rd : Option Nat) : Nat → IC → TE → SH → RC := @Nat.rec (fun _ => IC → TE → SH → RC) (fun _ _ _ => none) (fun _ ih c => @IC.rec (fun _ => (IC → TE → SH → RC) → TE → SH → RC) (fun _ e h => some (.nrm, e, h, [])) (fun l _ e h => (@Option.rec (TE × SH) (fun _ => RC) none (fun q => some (.nrm, q.1, q.2, [])) (evRU M C l e h))) (fun l anc _ e h => (@Option.rec (TE × SH × LL) (fun _ => RC) none (fun q => (@Bool.rec (fun _ => RC) none (some (.nrm, q.1, ⟨q.2.1.tr, q.2.1.nx, appN (allLogsU q.2.2).1 h.lg, appN (allLogsU q.2.2).2 h.wr, q.2.1.md, q.2.1.pa, q.2.1.ob⟩, [])) (okParU anc (nat_lit 0) (revU q.2.2 [])))) (evPU M C l e h []))) (fun a b _ _ ih e h => (@Option.rec (QC) (fun _ => RC) none (fun q => (@EX.rec (fun _ => RC) (@Option.rec (QC) (fun _ => RC) none (fun p => some (p.1, p.2.1, p.2.2.1, appN p.2.2.2 q.2.2.2)) (ih b q.2.1 q.2.2.1)) (fun _ => some q) (some q) q.1)) (ih a e h))) (fun c a b _ _ ih e h => (@Option.rec (Bool) (fun _ => RC) none (fun x => (@Bool.rec (fun _ => RC) (ih b e h) (ih a e h) x)) (toB (evU c e)))) (fun id c _ ih e h => (@Option.rec (QC) (fun _ => RC) none (fun q => (@EX.rec (fun _ => RC) (some q) (fun j => some (@Bool.rec (fun _ => EX) (.exit j) .nrm (Nat.beq j id), q.2)) (some q) q.1)) (ih c e h))) (fun c _ ih e h => (@Option.rec (QC) (fun _ => RC) none (fun q => (@EX.rec (fun _ => RC) (@Option.rec (QC) (fun _ => RC) none (fun p => some (p.1, p.2.1, p.2.2.1, appN p.2.2.2 q.2.2.2)) (ih (.loop c) q.2.1 q.2.2.1)) (fun _ => some q) (some q) q.1)) (ih c e h))) (fun id _ e h => some (.exit id, e, h, [])) (fun c _ ih e h => ih c e h) (fun _ e h => some (.ret, e, h, [])) (fun N f ps as bd _ _ _ e h => rngU C rd N f ps as bd e h) (fun _ _ _ => none) c ih)
theorem more_eq (m : List Nat) (s : RC) : @Option.rec (QC) (fun _ => RC) none (fun p => some (p.1, p.2.1, p.2.2.1, appN p.2.2.2 m)) s = evC.more m s := by
  cases s with
  | none => rfl
  | some p => show some (p.1, p.2.1, p.2.2.1, appN p.2.2.2 m) = _; rw [appN_eq]; rfl
theorem evCU_eq (M : Meth) (C : CallT) (rd : Option Nat) : ∀ (n : Nat) (c : IC) (e : TE) (h : SH), evCU M C rd n c e h = evC M C rd n c e h
  | 0, _, _, _ => rfl
  | n + 1, c, e, h => by
    cases c with
    | skip => rfl
    | reg l =>
      show (@Option.rec (TE × SH) (fun _ => RC) none (fun q => some (.nrm, q.1, q.2, [])) (evRU M C l e h)) = _
      unfold evC
      simp only
      rw [evRU_eq]
      cases evR M C l e h <;> rfl
    | par l anc =>
      show (@Option.rec (TE × SH × LL) (fun _ => RC) none (fun q => (@Bool.rec (fun _ => RC) none (some (.nrm, q.1, ⟨q.2.1.tr, q.2.1.nx, appN (allLogsU q.2.2).1 h.lg, appN (allLogsU q.2.2).2 h.wr, q.2.1.md, q.2.1.pa, q.2.1.ob⟩, [])) (okParU anc (nat_lit 0) (revU q.2.2 [])))) (evPU M C l e h [])) = _
      unfold evC
      simp only
      rw [evPU_eq]
      cases evP M C l e h [] with
      | none => rfl
      | some q =>
        show @Bool.rec (fun _ => RC) none (some (.nrm, q.1, ⟨q.2.1.tr, q.2.1.nx, appN (allLogsU q.2.2).1 h.lg, appN (allLogsU q.2.2).2 h.wr, q.2.1.md, q.2.1.pa, q.2.1.ob⟩, [])) (okParU anc 0 (revU q.2.2 [])) = _
        rw [okParU_eq, revU_eq, List.append_nil, allLogsU_eq, appN_eq, appN_eq]
        obtain ⟨q1, q2, q3⟩ := q
        cases e1 : okPar 0 anc q3.reverse <;> simp only [e1]
    | seq a b =>
      show (@Option.rec (QC) (fun _ => RC) none (fun q => (@EX.rec (fun _ => RC) (@Option.rec (QC) (fun _ => RC) none (fun p => some (p.1, p.2.1, p.2.2.1, appN p.2.2.2 q.2.2.2)) (evCU M C rd n b q.2.1 q.2.2.1)) (fun _ => some q) (some q) q.1)) (evCU M C rd n a e h)) = _
      unfold evC
      simp only
      rw [evCU_eq M C rd n a]
      cases evC M C rd n a e h with
      | none => rfl
      | some q =>
        obtain ⟨x, q1, q2, q3⟩ := q
        cases x with
        | nrm => show (@Option.rec (QC) (fun _ => RC) none (fun p => some (p.1, p.2.1, p.2.2.1, appN p.2.2.2 q3)) (evCU M C rd n b q1 q2)) = _; rw [more_eq, evCU_eq M C rd n b]
        | _ => rfl
    | cond x a b =>
      show (@Option.rec (Bool) (fun _ => RC) none (fun y => (@Bool.rec (fun _ => RC) (evCU M C rd n b e h) (evCU M C rd n a e h) y)) (toB (evU x e))) = _
      unfold evC
      simp only
      rw [evU_eq]
      cases x.ev e with
      | b y => cases y with
        | true => exact evCU_eq M C rd n a e h
        | false => exact evCU_eq M C rd n b e h
      | _ => rfl
    | blk id c =>
      show (@Option.rec (QC) (fun _ => RC) none (fun q => (@EX.rec (fun _ => RC) (some q) (fun j => some (@Bool.rec (fun _ => EX) (.exit j) .nrm (Nat.beq j id), q.2)) (some q) q.1)) (evCU M C rd n c e h)) = _
      unfold evC
      simp only
      rw [evCU_eq M C rd n c]
      cases evC M C rd n c e h with
      | none => rfl
      | some q =>
        obtain ⟨x, q1, q2, q3⟩ := q
        cases x with
        | exit j => show some (@Bool.rec (fun _ => EX) (.exit j) .nrm (Nat.beq j id), q1, q2, q3) = some (_root_.cond (Nat.beq j id) .nrm (.exit j), q1, q2, q3); cases Nat.beq j id <;> rfl
        | _ => rfl
    | loop c =>
      show (@Option.rec (QC) (fun _ => RC) none (fun q => (@EX.rec (fun _ => RC) (@Option.rec (QC) (fun _ => RC) none (fun p => some (p.1, p.2.1, p.2.2.1, appN p.2.2.2 q.2.2.2)) (evCU M C rd n (.loop c) q.2.1 q.2.2.1)) (fun _ => some q) (some q) q.1)) (evCU M C rd n c e h)) = _
      unfold evC
      simp only
      rw [evCU_eq M C rd n c]
      cases evC M C rd n c e h with
      | none => rfl
      | some q =>
        obtain ⟨x, q1, q2, q3⟩ := q
        cases x with
        | nrm => show (@Option.rec (QC) (fun _ => RC) none (fun p => some (p.1, p.2.1, p.2.2.1, appN p.2.2.2 q3)) (evCU M C rd n (.loop c) q1 q2)) = _; rw [more_eq, evCU_eq M C rd n (.loop c)]
        | _ => rfl
    | exit id => rfl
    | scope c => exact evCU_eq M C rd n c e h
    | ret => rfl
    | rng N f ps as bd =>
      show rngU C rd N f ps as bd e h = _
      unfold rngU evC
      simp only [evU_eq, lpU_eq, gB_eq, wrtU_eq]
      rfl
    | bad => rfl
def initU : List TV → Nat → TE → TE := @List.rec TV (fun _ => Nat → TE → TE) (fun _ e => e) (fun v _ ih i e => ih (Nat.succ i) (Trie.sV (nat_lit 12) e i v))
theorem initU_eq : ∀ (l : List TV) (i : Nat) (e : TE), initU l i e = initE i l e
  | [], _, _ => rfl
  | v :: r, i, e => by show initU r (i + 1) (Trie.sV 12 e i v) = _; rw [initU_eq r, sV_eq]; rfl
def resU : List (Nat × Option (Bool × Nat)) → TE → SH → RE := @List.rec (Nat × Option (Bool × Nat)) (fun _ => TE → SH → RE) (fun _ h => some ([], h)) (fun p _ ih e h => @Option.rec (Bool × Nat) (fun _ => RE) (@Option.rec (List TV × SH) (fun _ => RE) none (fun q => some (getU e p.1 :: q.1, q.2)) (ih e h)) (fun g => (@Option.rec (Nat × Nat) (fun _ => RE) none (fun a => (@Option.rec (TV × SH) (fun _ => RE) none (fun v => (@Option.rec (List TV × SH) (fun _ => RE) none (fun q => some (v.1 :: q.1, q.2)) (ih e v.2))) (loadU g.1 g.2 a.1 a.2 h))) (toP (getU e p.1)))) p.2)
theorem resU_eq (e : TE) : ∀ (l : List (Nat × Option (Bool × Nat))) (h : SH), resU l e h = resE l e h
  | [], _ => rfl
  | (s, none) :: r, h => by
    show (@Option.rec (List TV × SH) (fun _ => RE) none (fun q => some (getU e s :: q.1, q.2)) (resU r e h)) = _
    rw [resU_eq e r, getU_eq]
    rw [resE]
    cases resE r e h <;> rfl
  | (s, some (g, n)) :: r, h => by
    show (@Option.rec (Nat × Nat) (fun _ => RE) none (fun a => (@Option.rec (TV × SH) (fun _ => RE) none (fun v => (@Option.rec (List TV × SH) (fun _ => RE) none (fun q => some (v.1 :: q.1, q.2)) (resU r e v.2))) (loadU g n a.1 a.2 h))) (toP (getU e s))) = _
    rw [getU_eq]
    rw [resE]
    cases getE e s with
    | p k off =>
      show (@Option.rec (TV × SH) (fun _ => RE) none (fun v => (@Option.rec (List TV × SH) (fun _ => RE) none (fun q => some (v.1 :: q.1, q.2)) (resU r e v.2))) (loadU g n k off h)) = _
      rw [loadU_eq]
      simp only
      cases loadAt g n k off h with
      | none => rfl
      | some v => show (@Option.rec (List TV × SH) (fun _ => RE) none (fun q => some (v.1 :: q.1, q.2)) (resU r e v.2)) = _; rw [resU_eq e r]; simp only; cases resE r e v.2 <;> rfl
    | _ => rfl
def tupU : List TV → TV := @List.rec TV (fun _ => TV) (.tu []) (fun v t _ => @List.rec TV (fun _ => TV) v (fun a r _ => .tu (v :: a :: r)) t)
theorem tupU_eq (l : List TV) : tupU l = tupOf l := by
  cases l with
  | nil => rfl
  | cons a t => cases t <;> rfl
def unmarkU : List Nat → SH → Option SH := @List.rec Nat (fun _ => SH → Option SH) some (fun d _ ih h => match h.tr.gB d with
  | some .df => cond (Nat.blt d 4000000) (ih (wrtU h d .dead)) none
  | _ => none)
theorem unmarkU_eq : ∀ (l : List Nat) (h : SH), unmarkU l h = unmark l h
  | [], _ => rfl
  | d :: r, h => by
    show (match h.tr.gB d with
      | some .df => cond (Nat.blt d 4000000) (unmarkU r (wrtU h d .dead)) none
      | _ => none) = (match h.tr.get d with
      | some .df => cond (Nat.blt d 4000000) (unmark r (h.wrt d .dead)) none
      | _ => none)
    rw [gB_eq, wrtU_eq, unmarkU_eq r]
def evFU (M : Meth) (C : CallT) (fuel : Nat) (x : XF) (args : List TV) (h : SH) : RS := (@Bool.rec (fun _ => RS) none (@Option.rec (QC) (fun _ => RS) none (fun q => (@EX.rec (fun _ => RS) (@Option.rec (SH) (fun _ => RS) none (fun g => (@Option.rec (List TV × SH) (fun _ => RS) none (fun r => some (tupU r.1, r.2)) (resU x.res q.2.1 g))) (unmarkU q.2.2.2 q.2.2.1)) (fun _ => none) (@Option.rec (SH) (fun _ => RS) none (fun g => (@Option.rec (List TV × SH) (fun _ => RS) none (fun r => some (tupU r.1, r.2)) (resU x.res q.2.1 g))) (unmarkU q.2.2.2 q.2.2.1)) q.1)) (evCU M C none fuel x.body (initU args (nat_lit 0) .lf) h)) (Nat.beq (lenU args) x.np))
theorem finU_eq (x : XF) (e : TE) (h : SH) (m : List Nat) : (@Option.rec (SH) (fun _ => RS) none (fun g => (@Option.rec (List TV × SH) (fun _ => RS) none (fun r => some (tupU r.1, r.2)) (resU x.res e g))) (unmarkU m h)) = (match unmark m h with
    | some h => match resE x.res e h with
      | some (l, h) => some (tupOf l, h)
      | none => none
    | none => none) := by
  rw [unmarkU_eq]
  cases unmark m h with
  | none => rfl
  | some g => show (@Option.rec (List TV × SH) (fun _ => RS) none (fun r => some (tupU r.1, r.2)) (resU x.res e g)) = _; rw [resU_eq]; simp only; cases resE x.res e g with
    | none => rfl
    | some r => show some (tupU r.1, r.2) = _; rw [tupU_eq]
theorem evFU_eq (M : Meth) (C : CallT) (fuel : Nat) (x : XF) (args : List TV) (h : SH) : evFU M C fuel x args h = evF M C fuel x args h := by
  show (@Bool.rec (fun _ => RS) none (@Option.rec (QC) (fun _ => RS) none (fun q => (@EX.rec (fun _ => RS) (@Option.rec (SH) (fun _ => RS) none (fun g => (@Option.rec (List TV × SH) (fun _ => RS) none (fun r => some (tupU r.1, r.2)) (resU x.res q.2.1 g))) (unmarkU q.2.2.2 q.2.2.1)) (fun _ => none) (@Option.rec (SH) (fun _ => RS) none (fun g => (@Option.rec (List TV × SH) (fun _ => RS) none (fun r => some (tupU r.1, r.2)) (resU x.res q.2.1 g))) (unmarkU q.2.2.2 q.2.2.1)) q.1)) (evCU M C none fuel x.body (initU args 0 .lf) h)) (Nat.beq (lenU args) x.np)) = _
  rw [lenU_eq, initU_eq, evCU_eq]
  unfold evF
  cases Nat.beq args.length x.np
  · rfl
  cases evC M C none fuel x.body (initE 0 args .lf) h with
  | none => rfl
  | some q =>
    obtain ⟨y, q1, q2, q3⟩ := q
    cases y with
    | exit j => rfl
    | nrm => exact finU_eq x q1 q2 q3
    | ret => exact finU_eq x q1 q2 q3
def setU (e : TE) : List Nat → List TV → TE
  | p :: ps, v :: vs => setU (Trie.sV 12 e p v) ps vs
  | _, _ => e
theorem setU_eq : ∀ (ps : List Nat) (vs : List TV) (e : TE), setU e ps vs = setPs e ps vs
  | [], vs, _ => by cases vs <;> rfl
  | _ :: _, [], _ => rfl
  | p :: ps, v :: vs, e => by show setU (Trie.sV 12 e p v) ps vs = _; rw [setU_eq ps vs, sV_eq]; rfl
def evYU (meth : Meth) (call : CallT) (fuel : Nat) (k : Nat) (args : List TV) (h : SH) : RS :=
  match h.tr.gB k with
  | some (.lp _ ps as bd e _ _) => cond (Nat.beq args.length ps.length) (cond (Nat.blt k 4000000) (
    match evCU meth call (some k) fuel as (setU e ps args) (h.see k) with
    | some (.nrm, e1, h1, []) => match h1.tr.gB k with
      | some (.lp N' ps' as' bd' e' 0 pd') => match evCU meth call (some k) fuel bd e1 (wrtU h1 k (.lp N' ps' as' bd' e' 1 pd')) with
        | some (ex, _, h2, []) => match h2.tr.gB k with
          | some (.lp N2 ps2 as2 bd2 e2 _ _) => match ex with
            | .nrm => some (.b true, wrtU h2 k (.lp N2 ps2 as2 bd2 e2 0 .nrm))
            | ex => some (.b false, wrtU h2 k (.lp N2 ps2 as2 bd2 e2 2 ex))
          | _ => none
        | _ => none
      | _ => none
    | _ => none) none) none
  | _ => none
theorem evCU_fun (M : Meth) (C : CallT) (rd : Option Nat) (n : Nat) : evCU M C rd n = evC M C rd n := funext fun c => funext fun e => funext fun h => evCU_eq M C rd n c e h
theorem evYU_eq (M : Meth) (C : CallT) (fuel k : Nat) (args : List TV) (h : SH) : evYU M C fuel k args h = evY M C fuel k args h := by
  unfold evYU evY
  simp only [evCU_fun, gB_eq, wrtU_eq, setU_eq]
  rfl
def runU (M : Meth) (tab : Trie XF) (orc : Nat → Option (List TV → SH → RS)) (fuel : Nat) : Nat → CallT := @Nat.rec (fun _ => CallT) (fun _ _ _ => none) (fun _ ih t => @Tgt.rec (fun _ => List TV → SH → RS) (fun f args h => @Option.rec (List TV → SH → RS) (fun _ => RS) (@Option.rec (XF) (fun _ => RS) none (fun x => evFU M ih fuel x args h) (tab.gX f)) (fun g => g args h) (orc f)) (fun k args h => evYU M ih fuel k args h) t)
theorem runU_eq (M : Meth) (tab : Trie XF) (orc : Nat → Option (List TV → SH → RS)) (fuel : Nat) : ∀ n, runU M tab orc fuel n = run M tab orc fuel n
  | 0 => rfl
  | n + 1 => by
    funext t args h
    cases t with
    | fn f =>
      show @Option.rec (List TV → SH → RS) (fun _ => RS) (@Option.rec (XF) (fun _ => RS) none (fun x => evFU M (runU M tab orc fuel n) fuel x args h) (tab.gX f)) (fun g => g args h) (orc f) = _
      rw [gX_eq, runU_eq M tab orc fuel n]
      unfold run
      cases orc f with
      | some g => rfl
      | none => cases tab.get f with
        | none => rfl
        | some x => exact evFU_eq ..
    | yd k =>
      show evYU M (runU M tab orc fuel n) fuel k args h = _
      rw [runU_eq M tab orc fuel n]
      exact evYU_eq ..
def orcU : List (Nat × (List TV → SH → RS)) → Nat → Option (List TV → SH → RS) := @List.rec (Nat × (List TV → SH → RS)) (fun _ => Nat → Option (List TV → SH → RS)) (fun _ => none) (fun p _ ih i => @Bool.rec (fun _ => Option (List TV → SH → RS)) (ih i) (some p.2) (Nat.beq i p.1))
theorem orcU_eq : ∀ l : List (Nat × (List TV → SH → RS)), orcU l = listOrc l
  | [] => rfl
  | p :: r => by
    funext i
    show @Bool.rec (fun _ => Option (List TV → SH → RS)) (orcU r i) (some p.2) (Nat.beq i p.1) = _
    rw [orcU_eq r]
    show _ = cond (Nat.beq i p.1) (some p.2) (listOrc r i)
    cases Nat.beq i p.1 <;> rfl
theorem run_u (M : Meth) (tab : Trie XF) (l : List (Nat × (List TV → SH → RS))) (fuel n : Nat) : run M tab (listOrc l) fuel n = runU M tab (orcU l) fuel n := by rw [orcU_eq, runU_eq]
end
end Go.Proofs.YtgjfdbbghefdbaaGreatDoor.Sx
namespace Go.Proofs.YtgjfdbbghefdbaaGreatDoor.Sx
open Go.RowKit
section
variable {P : Program} {ρ : Cx} {B : Nat} {D : Nat → Prop} {σ : Emb} {w : World}
end
end Go.Proofs.YtgjfdbbghefdbaaGreatDoor.Sx
