/-
  A runner of the program that the kernel evaluates; its values, its memory; data that stays.
-/
import Derived.Orders
import Derived.Scope
import Derived.Tactics
import Derived.KernelRfl
import Derived.Laws.World
namespace Go.Proofs.YtgjfdbbghefdbaaGreatDoor.Sx
inductive Trie (α : Type) where
  | lf : Trie α
  | nd (l : Trie α) (v : Option α) (r : Trie α) : Trie α
def Trie.get {α : Type} : Trie α → Nat → Option α
  | .lf, _ => none
  | .nd l v r, k => cond (Nat.beq k 0) v (cond (Nat.beq (k % 2) 1) (l.get (k / 2)) (r.get (k / 2 - 1)))
def Trie.set {α : Type} : Nat → Trie α → Nat → α → Trie α
  | 0, t, _, _ => t
  | f + 1, .lf, k, x => cond (Nat.beq k 0) (.nd .lf (some x) .lf) (cond (Nat.beq (k % 2) 1) (.nd (Trie.set f .lf (k / 2) x) none .lf) (.nd .lf none (Trie.set f .lf (k / 2 - 1) x)))
  | f + 1, .nd l v r, k, x => cond (Nat.beq k 0) (.nd l (some x) r) (cond (Nat.beq (k % 2) 1) (.nd (Trie.set f l (k / 2) x) v r) (.nd l v (Trie.set f r (k / 2 - 1) x)))
theorem Trie.get_set {α : Type} : ∀ (f : Nat) (t : Trie α) (k : Nat) (x : α) (j : Nat), k + 1 < 2 ^ f → (Trie.set f t k x).get j = if j = k then some x else t.get j := by
  intro f
  induction f with
  | zero => intro t k x j h; simp at h
  | succ f ih =>
    intro t k x j h
    have hp : 2 ^ (f + 1) = 2 * 2 ^ f := by rw [Nat.pow_succ]; omega
    have side : ∀ (c d : Nat), Nat.beq c d = decide (c = d) := by
      intro c d
      by_cases e : c = d
      · subst e; simp
      · rw [decide_eq_false e]; exact Bool.eq_false_iff.2 fun h => e (Nat.eq_of_beq_eq_true h)
    cases t with
    | lf =>
      unfold Trie.set
      simp only [side]
      by_cases hk : k = 0
      · subst hk
        by_cases hj : j = 0
        · subst hj; simp [Trie.get]
        · simp [Trie.get, side, hj]
      · by_cases hm : k % 2 = 1
        · simp only [hk, hm, decide_false, decide_true, cond_false, cond_true]
          by_cases hj : j = 0
          · subst hj
            rw [if_neg (by omega)]
            simp [Trie.get]
          · simp only [Trie.get, side, hj, decide_false, cond_false]
            by_cases hjm : j % 2 = 1
            · simp only [hjm, decide_true, cond_true]
              rw [ih _ _ _ _ (by omega)]
              by_cases e : j = k
              · subst e; simp
              · rw [if_neg (by omega), if_neg e]; rfl
            · simp only [hjm, decide_false, cond_false]
              rw [if_neg (by omega)]
        · simp only [hk, hm, decide_false, cond_false]
          by_cases hj : j = 0
          · subst hj
            rw [if_neg (by omega)]
            simp [Trie.get]
          · simp only [Trie.get, side, hj, decide_false, cond_false]
            by_cases hjm : j % 2 = 1
            · simp only [hjm, decide_true, cond_true]
              rw [if_neg (by omega)]
            · simp only [hjm, decide_false, cond_false]
              rw [ih _ _ _ _ (by omega)]
              by_cases e : j = k
              · subst e; simp
              · rw [if_neg (by omega), if_neg e]; rfl
    | nd l v r =>
      unfold Trie.set
      simp only [side]
      by_cases hk : k = 0
      · subst hk
        by_cases hj : j = 0
        · subst hj; simp [Trie.get]
        · simp [Trie.get, side, hj]
      · by_cases hm : k % 2 = 1
        · simp only [hk, hm, decide_false, decide_true, cond_false, cond_true]
          by_cases hj : j = 0
          · subst hj
            rw [if_neg (by omega)]
            simp [Trie.get]
          · simp only [Trie.get, side, hj, decide_false, cond_false]
            by_cases hjm : j % 2 = 1
            · simp only [hjm, decide_true, cond_true]
              rw [ih _ _ _ _ (by omega)]
              by_cases e : j = k
              · subst e; simp
              · rw [if_neg (by omega), if_neg e]
            · simp only [hjm, decide_false, cond_false]
              rw [if_neg (by omega)]
        · simp only [hk, hm, decide_false, cond_false]
          by_cases hj : j = 0
          · subst hj
            rw [if_neg (by omega)]
            simp [Trie.get]
          · simp only [Trie.get, side, hj, decide_false, cond_false]
            by_cases hjm : j % 2 = 1
            · simp only [hjm, decide_true, cond_true]
              rw [if_neg (by omega)]
            · simp only [hjm, decide_false, cond_false]
              rw [ih _ _ _ _ (by omega)]
              by_cases e : j = k
              · subst e; simp
              · rw [if_neg (by omega), if_neg e]
inductive Dat where
  | i (n : Int)
  | s (l : List Nat)
  | b (x : Bool)
  | r (rows : List (List Dat))
  | f (g : Nat)
  | o
def Dat.int : Dat → Int
  | .i n => n
  | _ => 0
def Dat.str : Dat → List Nat
  | .s l => l
  | _ => []
def Dat.bool : Dat → Bool
  | .b x => x
  | _ => false
def Dat.rows : Dat → List (List Dat)
  | .r l => l
  | _ => []
def Dat.fnc : Dat → Nat
  | .f g => g
  | _ => 0
inductive Kd where
  | i (k : IntKind)
  | s
  | b
  | sl (T : Nat)
  | fn
  | o
inductive TV where
  | b (x : Bool)
  | i (k : IntKind) (n : Int)
  | s (l : List Nat)
  | p (k off : Nat)
  | pn
  | sl (k off esz len cap : Nat) (rest : Bool)
  | sln
  | m (k : Nat)
  | mn
  | f (g : Fn) (first cap : List TV)
  | fn
  | ifc (t : Nat) (v : TV)
  | ifn
  | ag (l : List TV)
  | tu (l : List TV)
  | x (j : Nat)
  | any
  | es (T : Nat) (d : Dat)
  | ep (T off : Nat) (row : List Dat)
  | y (k : Nat)
  | ne
abbrev Mem := Nat → Option (Array Value)
def Mem.le (M M' : Mem) : Prop := ∀ b c, M b = some c → M' b = some c
structure Emb where
  at' : Nat → Option (Nat × Nat × Nat)
  mem : Mem
instance : CoeFun Emb (fun _ => Nat → Option (Nat × Nat × Nat)) := ⟨Emb.at'⟩
structure Cx where
  val : Nat → Value
  lay : Nat → List Kd
  tl : List (Nat × List Value)
  prog : Program
instance : CoeFun Cx (fun _ => Nat → Value) := ⟨Cx.val⟩
def bytesOf (l : List Nat) : ByteArray := ⟨(l.map UInt8.ofNat).toArray⟩
def okS : List Nat → Bool
  | [] => true
  | n :: r => cond (Nat.blt n 256) (okS r) false
inductive DR (lay : Nat → List Kd) (M : Mem) : Kd → Dat → Value → Prop where
  | i (k : IntKind) (d : Dat) : DR lay M (.i k) d (.int k d.int)
  | s (d : Dat) (h : okS d.str = true) : DR lay M .s d (.string (bytesOf d.str))
  | b (d : Dat) : DR lay M .b d (.bool d.bool)
  | fn (d : Dat) : DR lay M .fn d (.func (.func d.fnc) #[] #[])
  | nil (T : Nat) (d : Dat) (p : Option Addr) (c : Nat) (h : d.rows = []) : DR lay M (.sl T) d (.slice p 0 c)
  | sl (T : Nat) (d : Dat) (b o c : Nat) (val : Nat → Nat → Value) (h1 : d.rows.length ≤ c) (h2 : ∀ (i : Nat) (row : List Dat), d.rows[i]? = some row → row.length = (lay T).length)
      (h3 : ∀ (i : Nat) (row : List Dat), d.rows[i]? = some row → ∀ (j : Nat), j < (lay T).length → ∃ cs, M b = some cs ∧ cs[o + i * (lay T).length + j]? = some (val i j))
      (h4 : ∀ (i : Nat) (row : List Dat), d.rows[i]? = some row → ∀ (j : Nat) (k : Kd) (u : Dat), (lay T)[j]? = some k → row[j]? = some u → DR lay M k u (val i j)) : DR lay M (.sl T) d (.slice (some ⟨b, o, none⟩) d.rows.length c)
def RowR (lay : Nat → List Kd) (M : Mem) (T : Nat) (row : List Dat) (b o : Nat) : Prop :=
  row.length = (lay T).length ∧ ∃ val : Nat → Value, (∀ j, j < (lay T).length → ∃ cs, M b = some cs ∧ cs[o + j]? = some (val j)) ∧
    ∀ (j : Nat) (k : Kd) (u : Dat), (lay T)[j]? = some k → row[j]? = some u → DR lay M k u (val j)
theorem DR.mono {lay : Nat → List Kd} {M M' : Mem} (h : M.le M') {k : Kd} {d : Dat} {v : Value} (x : DR lay M k d v) : DR lay M' k d v := by
  induction x with
  | i k d => exact .i k d
  | s d h => exact .s d h
  | b d => exact .b d
  | fn d => exact .fn d
  | nil T d p c h => exact .nil T d p c h
  | sl T d b o c val h1 h2 h3 h4 ih => exact .sl T d b o c val h1 h2 (fun i row hr j hj => (h3 i row hr j hj).imp fun cs e => ⟨h _ _ e.1, e.2⟩) ih
theorem RowR.mono {lay : Nat → List Kd} {M M' : Mem} (h : M.le M') {T : Nat} {row : List Dat} {b o : Nat} (x : RowR lay M T row b o) : RowR lay M' T row b o := by
  obtain ⟨x1, val, x2, x3⟩ := x
  exact ⟨x1, val, fun j hj => (x2 j hj).imp fun cs e => ⟨h _ _ e.1, e.2⟩, fun j k u e1 e2 => (x3 j k u e1 e2).mono h⟩
def VR (ρ : Cx) (σ : Emb) : TV → Value → Prop
  | .b x, v => v = .bool x
  | .i k n, v => v = .int k n
  | .s l, v => v = .string (bytesOf l) ∧ okS l = true
  | .p k off, v => ∃ y, σ k = some y ∧ v = .pointer (some ⟨y.1, y.2.1 + off, none⟩)
  | .pn, v => v = .pointer none
  | .sl k off esz len cap rest, v => ∃ y c, σ k = some y ∧ v = .slice (some ⟨y.1, y.2.1 + off, none⟩) len c ∧ cap ≤ c ∧ (rest = false → c = cap) ∧ off + c * esz ≤ y.2.2 ∧ len ≤ cap
  | .sln, v => v = .slice none 0 0
  | .m k, v => ∃ y, σ k = some y ∧ v = .map (some y.1)
  | .mn, v => v = .map none
  | .f g first cap, v => ∃ a c, v = .func g a c ∧ VRs ρ σ first a.toList ∧ VRs ρ σ cap c.toList
  | .fn, v => v = .nilFunc
  | .ifc t u, v => ∃ z, v = .iface t z ∧ VR ρ σ u z
  | .ifn, v => v = .nilIface
  | .ag l, v => ∃ a, v = .agg a ∧ VRs ρ σ l a.toList
  | .tu l, v => ∃ a, v = .tuple a ∧ VRs ρ σ l a.toList
  | .x j, v => v = ρ j
  | .any, _ => True
  | .es T d, v => DR ρ.lay σ.mem (.sl T) d v
  | .ep T off row, v => ∃ b o, v = .pointer (some ⟨b, o + off, none⟩) ∧ RowR ρ.lay σ.mem T row b o
  | .y k, v => ∃ y, σ k = some y ∧ v = .func (.yield y.1) #[] #[]
  | .ne, v => ∃ a c, v = .slice (some a) 0 c
where VRs (ρ : Cx) (σ : Emb) : List TV → List Value → Prop
  | [], vs => vs = []
  | t :: r, vs => ∃ v q, vs = v :: q ∧ VR ρ σ t v ∧ VRs ρ σ r q
abbrev VRs := VR.VRs
structure Emb.le (σ σ' : Emb) : Prop where
  at' : ∀ k y, σ k = some y → σ' k = some y
  mem : σ.mem.le σ'.mem
theorem Emb.le.refl (σ : Emb) : σ.le σ := ⟨fun _ _ x => x, fun _ _ x => x⟩
theorem Emb.le.trans {a b c : Emb} (h : a.le b) (k : b.le c) : a.le c := ⟨fun j y x => k.at' j y (h.at' j y x), fun j y x => k.mem j y (h.mem j y x)⟩
theorem VR_mono {ρ : Cx} {σ σ' : Emb} (h : σ.le σ') : ∀ (t : TV) (v : Value), VR ρ σ t v → VR ρ σ' t v := by
  intro t
  induction t using TV.rec (motive_2 := fun l => ∀ vs, VRs ρ σ l vs → VRs ρ σ' l vs) with
  | p k off => rintro v ⟨y, h1, h2⟩; exact ⟨y, h.at' _ _ h1, h2⟩
  | sl k off esz len cap rest => rintro v ⟨y, c, h1, h2⟩; exact ⟨y, c, h.at' _ _ h1, h2⟩
  | m k => rintro v ⟨y, h1, h2⟩; exact ⟨y, h.at' _ _ h1, h2⟩
  | f g a c ih1 ih2 => rintro v ⟨x, y, h1, h2, h3⟩; exact ⟨x, y, h1, ih1 _ h2, ih2 _ h3⟩
  | ifc t u ih => rintro v ⟨z, h1, h2⟩; exact ⟨z, h1, ih _ h2⟩
  | ag l ih => rintro v ⟨a, h1, h2⟩; exact ⟨a, h1, ih _ h2⟩
  | tu l ih => rintro v ⟨a, h1, h2⟩; exact ⟨a, h1, ih _ h2⟩
  | es T d => exact fun v hv => DR.mono h.mem hv
  | ep T off row => rintro v ⟨b, o, h1, h2⟩; exact ⟨b, o, h1, h2.mono h.mem⟩
  | y k => rintro v ⟨y, h1, h2⟩; exact ⟨y, h.at' _ _ h1, h2⟩
  | nil => rename_i h; exact h
  | cons t r ih1 ih2 => rename_i h; obtain ⟨v, q, h1, h2, h3⟩ := h; exact ⟨v, q, h1, ih1 _ h2, ih2 _ h3⟩
  | _ => exact fun v hv => hv
theorem VRs_mono {ρ : Cx} {σ σ' : Emb} (h : σ.le σ') : ∀ (l : List TV) (vs : List Value), VRs ρ σ l vs → VRs ρ σ' l vs
  | [], _, hv => hv
  | t :: r, _, ⟨v, q, h1, h2, h3⟩ => ⟨v, q, h1, VR_mono h t v h2, VRs_mono h r q h3⟩
theorem VRs_len {ρ : Cx} {σ : Emb} : ∀ {l : List TV} {vs : List Value}, VRs ρ σ l vs → vs.length = l.length
  | [], _, h => by cases h; rfl
  | _ :: _, _, ⟨v, q, h1, _, h3⟩ => by subst h1; simp [VRs_len h3]
theorem VRs_get {ρ : Cx} {σ : Emb} : ∀ {l : List TV} {vs : List Value}, VRs ρ σ l vs → ∀ {j : Nat} {t : TV}, l[j]? = some t → ∃ v, vs[j]? = some v ∧ VR ρ σ t v
  | [], _, _, j, t, h => by simp at h
  | u :: r, _, ⟨v, q, h1, h2, h3⟩, j, t, h => by
    subst h1
    cases j with
    | zero => simp at h; subst h; exact ⟨v, by simp, h2⟩
    | succ j => simp at h; obtain ⟨x, e1, e2⟩ := VRs_get h3 h; exact ⟨x, by simpa using e1, e2⟩
theorem VRs_of {ρ : Cx} {σ : Emb} : ∀ {l : List TV} {vs : List Value}, vs.length = l.length → (∀ (j : Nat) (t : TV), l[j]? = some t → ∃ v, vs[j]? = some v ∧ VR ρ σ t v) → VRs ρ σ l vs
  | [], vs, h, _ => by cases vs with | nil => rfl | cons _ _ => simp at h
  | t :: r, vs, h, hg => by
    cases vs with
    | nil => simp at h
    | cons v q =>
      obtain ⟨v', e1, e2⟩ := hg 0 t (by simp)
      simp at e1; subst e1
      exact ⟨v, q, rfl, e2, VRs_of (by simpa using h) fun j u hu => by
        obtain ⟨x, e3, e4⟩ := hg (j + 1) u (by simpa using hu)
        exact ⟨x, by simpa using e3, e4⟩⟩
theorem VRs_append {ρ : Cx} {σ : Emb} : ∀ {l r : List TV} {vs us : List Value}, VRs ρ σ l vs → VRs ρ σ r us → VRs ρ σ (l ++ r) (vs ++ us)
  | [], _, _, _, h1, h2 => by cases h1; exact h2
  | _ :: _, _, _, _, ⟨v, q, h1, h2, h3⟩, h4 => by subst h1; exact ⟨v, q ++ _, rfl, h2, VRs_append h3 h4⟩
end Go.Proofs.YtgjfdbbghefdbaaGreatDoor.Sx
namespace Go.Proofs.YtgjfdbbghefdbaaGreatDoor.Sx
inductive Opd where
  | t (n : Nat)
  | c (v : TV)
inductive KK where
  | n
  | s
  | w (l : List Nat)
inductive XO where
  | mv (x : Opd)
  | pick (c a b : Opd)
  | box (ty n : Nat) (x : Opd)
  | bld (zero : List TV) (parts : List (Nat × Nat × Opd))
  | bls (ty esz len : Nat) (zero : List TV) (parts : List (Nat × Nat × Opd))
  | ld (agg : Bool) (n : Nat) (a : Opd)
  | st (n : Nat) (a x : Opd)
  | nck (x : Opd)
  | bop (op : BinOp) (x y : Opd)
  | eq (kind : Nat) (neg cst : Bool) (x y : Opd)
  | beq (neg : Bool) (x y : Opd)
  | eqw (neg : Bool) (ks : List Nat) (x y : Opd)
  | un (op : UnOp) (x : Opd)
  | cvi (k : IntKind) (x : Opd)
  | cvs (x : Opd)
  | cvb (x : Opd)
  | mki (t : Nat) (x : Opd)
  | mkf (g : Fn) (first cap : List Opd)
  | slcS (x : Opd) (lo hi : Option Opd)
  | slc (esz : Nat) (x : Opd) (lo hi mx : Option Opd)
  | fa (off : Nat) (x : Opd)
  | fld (agg : Bool) (off n : Nat) (x : Opd)
  | ia (esz : Nat) (x ix : Opd)
  | iaA (len esz : Nat) (x ix : Opd)
  | ixS (x ix : Opd)
  | ixA (agg : Bool) (len esz : Nat) (x ix : Opd)
  | ta (ok : Bool) (asserted : Nat) (zero : TV) (x : Opd)
  | ex (x : Opd) (i : Nat)
  | len (kind : Nat) (x : Opd)
  | app (ty esz : Nat) (s x : Opd)
  | call (f : Nat) (args : List Opd)
  | callv (f : Opd) (args : List Opd)
  | inv (x : Opd) (name : String) (args : List Opd)
  | mkm
  | ins (str : KK) (m k v : Opd)
  | lk (str : KK) (ok : Bool) (zero : TV) (m k : Opd)
  | del (str : KK) (m k : Opd)
  | mm (most : Bool) (x y : Opd)
  | slcA (n esz : Nat) (x : Opd) (lo hi mx : Option Opd)
  | mks (ty esz : Nat) (zero : List TV) (l c : Opd)
  | taI (ok : Bool) (asserted : Nat) (zero : TV) (x : Opd)
  | boxB (ty n : Nat) (x : Opd)
  | rgS (x : Opd)
  | nxS (x : Opd)
  | bad
structure RO where
  dst : Option Nat
  guard : Option (Nat × Bool)
  op : XO
inductive IC where
  | skip
  | reg (l : List RO)
  | par (l : List RO) (anc : List Nat)
  | seq (a b : IC)
  | cond (c : Opd) (a b : IC)
  | blk (id : Nat) (c : IC)
  | loop (c : IC)
  | exit (id : Nat)
  | scope (c : IC)
  | ret
  | rng (n : Nat) (f : Opd) (ps : List Nat) (as bd : IC)
  | bad
inductive EX where
  | nrm
  | exit (id : Nat)
  | ret
inductive TB where
  | cells (l : List TV) (ty : Nat) (ro : Bool)
  | dead
  | mp (es : List (TV × TV × Nat)) (clock : Nat)
  | lp (n : Nat) (ps : List Nat) (as bd : IC) (e : Trie TV) (st : Nat) (pd : EX)
  | df
  | it (s : List Nat) (pos : Nat)
  | bd (l : List TV) (ty : Nat)
inductive Ob where
  | eqb (x d : Bool)
  | call (f : Nat) (args : List TV) (v : TV)
  | loop (x : IC) (e : Trie TV) (t : Trie TB) (n : Nat) (ex : EX) (e' : Trie TV) (t' : Trie TB) (n' : Nat)
  | stt (e : Trie TV) (t : Trie TB) (n : Nat) (e' : Trie TV) (t' : Trie TB) (n' : Nat)
  | pr (p : Prop)
inductive AK where
  | as
  | ptr (T : Nat)
  | agg (T : Nat)
  | sl (T : Nat)
  | fn (l : List AK)
  | ifc (k : AK)
inductive PA where
  | br (d : Bool)
  | kp
  | cl (ks : List AK) (v : TV)
  | go
  | lp (keep : List Nat) (n : Nat) (ex : EX) (e' : Trie TV) (t' : Trie TB) (n' : Nat)
  | cf (ks : List AK) (v : TV)
  | st (keep : List Nat) (n : Nat) (e' : Trie TV) (t' : Trie TB) (n' : Nat)
  | rs (ks : List AK)
  | cc
  | mf (r : Option (Nat × TV))
structure SH where
  tr : Trie TB
  nx : Nat
  lg : List Nat
  wr : List Nat
  md : Bool
  pa : List PA
  ob : List Ob
def SH.get (h : SH) (k : Nat) : Option TB := h.tr.get k
def SH.see (h : SH) (k : Nat) : SH := ⟨h.tr, h.nx, k :: h.lg, h.wr, h.md, h.pa, h.ob⟩
def SH.wrt (h : SH) (k : Nat) (b : TB) : SH := ⟨h.tr.set 24 k b, h.nx, k :: h.lg, k :: h.wr, h.md, h.pa, h.ob⟩
def SH.new (h : SH) (b : TB) : SH := ⟨h.tr.set 24 h.nx b, h.nx + 1, h.nx :: h.lg, h.nx :: h.wr, h.md, h.pa, h.ob⟩
def SH.fresh (h : SH) : SH := ⟨h.tr, h.nx, [], [], h.md, h.pa, h.ob⟩
def SH.told (h : SH) (pa : List PA) : SH := ⟨h.tr, h.nx, h.lg, h.wr, h.md, pa, h.ob⟩
def SH.owe (h : SH) (o : Ob) : SH := ⟨h.tr, h.nx, h.lg, h.wr, h.md, h.pa, o :: h.ob⟩
def SH.out (h : SH) (pa : List PA) (ob : List Ob) : SH := ⟨h.tr, h.nx, h.lg, h.wr, h.md, pa, ob⟩
def SH.shut (h : SH) : SH := ⟨h.tr, h.nx, h.lg, h.wr, false, h.pa, h.ob⟩
def SH.unshut (h : SH) (pa : List PA) : SH := ⟨h.tr, h.nx, h.lg, h.wr, true, pa, h.ob⟩
def SH.room (h : SH) : Bool := Nat.blt h.nx 4000000
def getE (e : Trie TV) (n : Nat) : TV :=
  match e.get n with
  | some v => v
  | none => .any
def Opd.ev (e : Trie TV) : Opd → TV
  | .t n => getE e n
  | .c v => v
def evs (e : Trie TV) : List Opd → List TV
  | [] => []
  | o :: r => o.ev e :: evs e r
def TV.scal : TV → Bool
  | .ag _ | .tu _ | .any => false
  | _ => true
def allScal : List TV → Bool
  | [] => true
  | v :: r => cond v.scal (allScal r) false
def TV.notTu : TV → Bool
  | .tu _ | .any => false
  | _ => true
def TV.known : TV → Bool
  | .any => false
  | _ => true
def TV.cells : TV → List TV
  | .ag l => l
  | v => [v]
def ieq : Int → Int → Bool
  | .ofNat a, .ofNat b => Nat.beq a b
  | .negSucc a, .negSucc b => Nat.beq a b
  | _, _ => false
def ilt : Int → Int → Bool
  | .ofNat a, .ofNat b => Nat.blt a b
  | .negSucc a, .negSucc b => Nat.blt b a
  | .negSucc _, .ofNat _ => true
  | .ofNat _, .negSucc _ => false
def ile (a b : Int) : Bool := cond (ilt b a) false true
def inR : IntKind → Int → Bool
  | .i64, .ofNat n => Nat.blt n 9223372036854775808
  | .i64, .negSucc n => Nat.blt n 9223372036854775808
  | .i8, .ofNat n => Nat.blt n 128
  | .i8, .negSucc n => Nat.blt n 128
  | .i32, .ofNat n => Nat.blt n 2147483648
  | .u8, .ofNat n => Nat.blt n 256
  | .u64, .ofNat n => Nat.blt n 18446744073709551616
  | .u32, .ofNat n => Nat.blt n 4294967296
  | _, _ => false
def kw (k : IntKind) (n : Int) : Int := cond (inR k n) n (k.wrap n)
def lEq : List Nat → List Nat → Bool
  | [], [] => true
  | a :: x, b :: y => cond (Nat.beq a b) (lEq x y) false
  | _, _ => false
def lLt : List Nat → List Nat → Bool
  | _, [] => false
  | [], _ :: _ => true
  | a :: x, b :: y => cond (Nat.blt a b) true (cond (Nat.beq a b) (lLt x y) false)
def iop (op : BinOp) (k : IntKind) (x y : Int) : Option TV :=
  match op with
  | .add => some (.i k (kw k (x + y)))
  | .sub => some (.i k (kw k (x - y)))
  | .mul => some (.i k (kw k (x * y)))
  | .quo => cond (ieq y 0) none (some (.i k (kw k (x.tdiv y))))
  | .rem => cond (ieq y 0) none (some (.i k (x.tmod y)))
  | .and => some (.i k (kw k (BitVec.ofInt k.bits x &&& BitVec.ofInt k.bits y).toNat))
  | .or => some (.i k (kw k (BitVec.ofInt k.bits x ||| BitVec.ofInt k.bits y).toNat))
  | .eql => some (.b (ieq x y))
  | .neq => some (.b (cond (ieq x y) false true))
  | .lss => some (.b (ilt x y))
  | .leq => some (.b (ile x y))
  | .gtr => some (.b (ilt y x))
  | .geq => some (.b (ile y x))
  | _ => none
def sop (op : BinOp) (x y : List Nat) : Option TV :=
  match op with
  | .add => cond (Nat.blt (x.length + y.length) 1000000) (some (.s (x ++ y))) none
  | .eql => some (.b (lEq x y))
  | .neq => some (.b (cond (lEq x y) false true))
  | .lss => some (.b (lLt x y))
  | .leq => some (.b (cond (lLt x y) true (lEq x y)))
  | .gtr => some (.b (cond (cond (lLt x y) true (lEq x y)) false true))
  | .geq => some (.b (cond (lLt x y) false true))
  | _ => none
def shv (left : Bool) (k : IntKind) (x y : Int) : Option TV :=
  cond (ilt y 0) none (cond left (some (.i k (kw k (x * 2 ^ min y.toNat k.bits)))) (some (.i k (x.fdiv (2 ^ min y.toNat k.bits)))))
def bop (op : BinOp) : TV → TV → Option TV
  | .i k x, .i k' y => match op with
    | .shl => shv true k x y
    | .shr => shv false k x y
    | _ => if k = k' then iop op k x y else none
  | .s x, .s y => sop op x y
  | _, _ => none
def eqTV (kind : Nat) (cst : Bool) (x y : TV) : Option Bool :=
  match kind with
  | 0 => match x, y with
    | .pn, .pn => some true
    | .pn, .p _ _ => some false
    | .p _ _, .pn => some false
    | _, _ => none
  | 1 => match x, y with
    | .sln, .sln => some true
    | .sln, .sl .. => some false
    | .sl .., .sln => some false
    | .sln, .ne => some false
    | .ne, .sln => some false
    | _, _ => none
  | 2 => match x, y with
    | .mn, .mn => some true
    | .mn, .m _ => some false
    | .m _, .mn => some false
    | _, _ => none
  | 3 => match x, y with
    | .fn, .fn => some true
    | .fn, .f .. => some false
    | .f .., .fn => some false
    | _, _ => none
  | 4 => match x, y with
    | .ifn, .ifn => cond cst (some true) none
    | .ifn, .ifc .. => some false
    | .ifc .., .ifn => some false
    | _, _ => none
  | _ => none
def bound (e : Trie TV) (o : Option Opd) (dflt most : Nat) : Option Nat :=
  match o with
  | none => some dflt
  | some o => match o.ev e with
    | .i _ (.ofNat n) => cond (Nat.ble n most) (some n) none
    | _ => none
def splice (l : List TV) (off : Nat) (vs : List TV) : List TV := l.take off ++ (vs ++ l.drop (off + vs.length))
def fillTV (e : Trie TV) (cells : List TV) : List (Nat × Nat × Opd) → Option (List TV)
  | [] => some cells
  | (off, size, o) :: r =>
    cond (o.ev e).known (cond (Nat.beq (o.ev e).cells.length size) (cond (Nat.ble (off + size) cells.length) (fillTV e (splice cells off (o.ev e).cells) r) none) none) none
def aggOf (agg : Bool) (l : List TV) (n : Nat) : Option TV :=
  match agg with
  | true => cond (Nat.beq l.length n) (some (.ag l)) none
  | false => match l with
    | [v] => some v
    | _ => none
def rowOf : Option TB → Option (List TV)
  | some (.cells l _ _) => some l
  | some (.bd l _) => some l
  | _ => none
def ownRow : Option TB → Option (List TV × (List TV → TB))
  | some (.cells l ty false) => some (l, fun l' => .cells l' ty false)
  | some (.bd l ty) => some (l, fun l' => .bd l' ty)
  | _ => none
def loadAt (agg : Bool) (n k off : Nat) (h : SH) : Option (TV × SH) :=
  match rowOf (h.get k) with
  | some l => cond (Nat.ble (off + n) l.length) (match aggOf agg ((l.drop off).take n) n with
    | some v => some (v, h.see k)
    | none => none) none
  | _ => none
def storeAt (n k off : Nat) (v : TV) (h : SH) : Option SH :=
  match ownRow (h.get k) with
  | some (l, mk) => cond (Nat.beq v.cells.length n) (cond (Nat.ble (off + n) l.length) (cond (allScal v.cells) (cond (Nat.blt k 4000000) (some (h.wrt k (mk (splice l off v.cells)))) none) none) none) none
  | _ => none
def srcOf (esz : Nat) (v : TV) (h : SH) : Option (List TV × Nat × SH) :=
  match v with
  | .sln => some ([], 0, h)
  | .s l => some (l.map fun n => .i .u8 (Int.ofNat n), l.length, h)
  | .sl k off sz n _ _ => cond (Nat.beq sz esz) (match h.get k with
    | some (.cells l _ _) => cond (Nat.ble (off + n * esz) l.length) (some ((l.drop off).take (n * esz), n, h.see k)) none
    | _ => none) none
  | .ne => some ([], 0, h)
  | _ => none
def bytesL : List TV → Option (List Nat)
  | [] => some []
  | .i .u8 (.ofNat n) :: r => cond (Nat.blt n 256) (match bytesL r with | some l => some (n :: l) | none => none) none
  | _ => none
def newSl (ty esz len : Nat) (cells : List TV) (rest : Bool) (h : SH) : Option (TV × SH) :=
  cond h.room (some (.sl h.nx 0 esz len len rest, h.new (.cells cells ty false))) none
def appendRow (ty esz : Nat) (s : TV) (new : List TV) (n : Nat) (h : SH) : Option (TV × SH) :=
    cond (Nat.beq n 0) (match s with | .sln => some (.sln, h) | .sl .. => some (s, h) | .ne => some (s, h) | _ => none) <|
    cond (cond (allScal new) (cond (Nat.beq new.length (n * esz)) (Nat.blt n 100000) false) false) (match s with
    | .sln => newSl ty esz n new true h
    | .sl k off sz len cap rest =>
      cond (Nat.beq sz esz) (cond (Nat.blt (len + n) 1000000) (match h.get k with
        | some (.cells l bty ro) =>
          cond (Nat.ble (off + len * esz) l.length) (
            cond (Nat.ble (len + n) cap) (cond ro none (cond (Nat.blt k 4000000) (some (.sl k off esz (len + n) cap rest, h.wrt k (.cells (splice l (off + len * esz) new) bty false))) none)) (
              match rest with
              | false => newSl ty esz (len + n) ((l.drop off).take (len * esz) ++ new) true (h.see k)
              | true => cond ro none (cond (Nat.beq bty ty) (cond (Nat.blt k 4000000) (newSl ty esz (len + n) ((l.drop off).take (len * esz) ++ new) true (h.wrt k .dead)) none) none))) none
        | _ => none) none) none
    | _ => none) none
def appendTo (ty esz : Nat) (s x : TV) (h : SH) : Option (TV × SH) :=
  match srcOf esz x h with
  | none => none
  | some (new, n, h) => appendRow ty esz s new n h
def scEq (x y : TV) : Option Bool := match x, y with
  | .i k a, .i k' b => if k = k' then some (ieq a b) else none
  | .s a, .s b => some (lEq a b)
  | .b a, .b b => some (a == b)
  | _, _ => none
def scEqL : List TV → List TV → Option Bool
  | [], [] => some true
  | x :: r, y :: q => match scEq x y, scEqL r q with
    | some c, some d => some (cond c d false)
    | _, _ => none
  | _, _ => none
def shp (c : Nat) (t : TV) : Bool := match t with
  | .i _ _ => Nat.beq c 0
  | .s _ => Nat.beq c 1
  | .b _ => Nat.beq c 2
  | _ => false
def shpL : List Nat → List TV → Bool
  | [], [] => true
  | c :: r, t :: q => cond (shp c t) (shpL r q) false
  | _, _ => false
def keyOk (str : KK) (k : TV) : Bool :=
  match str with
  | .n => true
  | .s => true
  | .w ks => match k with
    | .ag l => shpL ks l
    | _ => false
def keyEq (str : KK) (x y : TV) : Option Bool :=
  match str with
  | .n => match x, y with
    | .i k a, .i k' b => if k = k' then some (ieq a b) else none
    | _, _ => none
  | .s => match x, y with
    | .s a, .s b => some (lEq a b)
    | _, _ => none
  | .w ks => match x, y with
    | .ag a, .ag b => cond (shpL ks a) (cond (shpL ks b) (scEqL a b) none) none
    | _, _ => none
def findK (str : KK) (k : TV) : List (TV × TV × Nat) → Nat → Option (Option (Nat × TV))
  | [], _ => cond (keyOk str k) (some none) none
  | en :: r, i => match keyEq str k en.1 with
    | some true => some (some (i, en.2.1))
    | some false => findK str k r (i + 1)
    | none => none
def updK (k v : TV) : List (TV × TV × Nat) → Nat → List (TV × TV × Nat)
  | [], _ => []
  | en :: r, 0 => (k, v, en.2.2) :: r
  | en :: r, i + 1 => en :: updK k v r i
def delK : List (TV × TV × Nat) → Nat → List (TV × TV × Nat)
  | [], _ => []
  | _ :: r, 0 => r
  | en :: r, i + 1 => en :: delK r i
def repl (z : List TV) : Nat → List TV
  | 0 => []
  | n + 1 => z ++ repl z n
def lenOfTV (kind : Nat) (x : TV) (h : SH) : Option (TV × SH) :=
  match kind with
  | 0 => match x with
    | .s l => some (.i .i64 (Int.ofNat l.length), h)
    | _ => none
  | 1 => match x with
    | .sl _ _ _ n _ _ => some (.i .i64 (Int.ofNat n), h)
    | .sln => some (.i .i64 0, h)
    | .ne => some (.i .i64 0, h)
    | _ => none
  | 2 => match x with
    | .mn => some (.i .i64 0, h)
    | .m k => match h.get k with
      | some (.mp es _) => some (.i .i64 (Int.ofNat es.length), h.see k)
      | _ => none
    | _ => none
  | _ => none
def restOf (mx : Option Opd) (rest : Bool) : Bool :=
  match mx with
  | some _ => false
  | none => rest
def xo (o : XO) (e : Trie TV) (h : SH) : Option (TV × SH) :=
  match o with
  | .mv x => some (x.ev e, h)
  | .pick c a b => match c.ev e with
    | .b true => some (a.ev e, h)
    | .b false => some (b.ev e, h)
    | _ => none
  | .box ty n x => cond (x.ev e).notTu (cond (Nat.beq (x.ev e).cells.length n) (cond h.room (some (.p h.nx 0, h.new (.cells (x.ev e).cells ty false))) none) none) none
  | .bld zero parts => match fillTV e zero parts with
    | some l => some (.ag l, h)
    | none => none
  | .bls ty esz len zero parts => match fillTV e zero parts with
    | some l => newSl ty esz len l false h
    | none => none
  | .ld agg n a => match a.ev e with
    | .p k off => loadAt agg n k off h
    | _ => none
  | .st n a x => match a.ev e with
    | .p k off => match storeAt n k off (x.ev e) h with
      | some h => some (.tu [], h)
      | none => none
    | _ => none
  | .nck x => match x.ev e with
    | .p k off => some (.p k off, h)
    | .f (.func g) first cap => some (.f (.func g) first cap, h)
    | .ifc t v => some (.ifc t v, h)
    | _ => none
  | .bop op x y => match bop op (x.ev e) (y.ev e) with
    | some v => some (v, h)
    | none => none
  | .eq kind neg cst x y => match eqTV kind cst (x.ev e) (y.ev e) with
    | some r => some (.b (cond neg (cond r false true) r), h)
    | none => none
  | .beq neg x y => match x.ev e, y.ev e with
    | .b a, .b b => some (.b (cond neg (cond a (cond b false true) b) (cond a b (cond b false true))), h)
    | _, _ => none
  | .eqw neg ks x y => match x.ev e, y.ev e with
    | .ag a, .ag b => cond (shpL ks a) (cond (shpL ks b) (match scEqL a b with
      | some r => some (.b (cond neg (cond r false true) r), h)
      | none => none) none) none
    | _, _ => none
  | .un op x => match op, x.ev e with
    | .not, .b r => some (.b (cond r false true), h)
    | .neg, .i k n => some (.i k (kw k (0 - n)), h)
    | _, _ => none
  | .cvi k x => match x.ev e with
    | .i _ n => some (.i k (kw k n), h)
    | _ => none
  | .cvs x => match x.ev e with
    | .s l => some (.s l, h)
    | _ => none
  | .cvb x => match x.ev e with
    | .sln => some (.s [], h)
    | .sl k off sz n cap rest => match srcOf 1 (.sl k off sz n cap rest) h with
      | some (l, _, h) => match bytesL l with
        | some ns => some (.s ns, h)
        | none => none
      | none => none
    | _ => none
  | .mki t x => some (.ifc t (x.ev e), h)
  | .mkf g first cap => some (.f g (evs e first) (evs e cap), h)
  | .slcS x lo hi => match x.ev e with
    | .s l => match bound e hi l.length l.length with
      | some b => match bound e lo 0 b with
        | some a => some (.s ((l.drop a).take (b - a)), h)
        | none => none
      | none => none
    | _ => none
  | .slc esz x lo hi mx => match x.ev e with
    | .sl k off sz len cap rest => cond (Nat.beq sz esz) (match bound e mx cap cap with
      | some m => match bound e hi len m with
        | some b => match bound e lo 0 b with
          | some a =>
            cond (Nat.beq m a) (cond (restOf mx rest) (cond (Nat.beq a 0) (some (.sl k off esz (b - a) (m - a) (restOf mx rest), h)) (some (.ne, h))) (some (.sl k off esz (b - a) (m - a) (restOf mx rest), h)))
              (some (.sl k (off + a * esz) esz (b - a) (m - a) (restOf mx rest), h))
          | none => none
        | none => none
      | none => none) none
    | .sln => match bound e mx 0 0 with
      | some m => match bound e hi 0 m with
        | some b => match bound e lo 0 b with
          | some _ => some (.sln, h)
          | none => none
        | none => none
      | none => none
    | .ne => match bound e mx 0 0 with
      | some m => match bound e hi 0 m with
        | some b => match bound e lo 0 b with
          | some _ => some (.ne, h)
          | none => none
        | none => none
      | none => none
    | _ => none
  | .fa off x => match x.ev e with
    | .p k o => some (.p k (o + off), h)
    | _ => none
  | .fld agg off n x => match x.ev e with
    | .ag l => match aggOf agg ((l.drop off).take n) n with
      | some v => some (v, h)
      | none => none
    | _ => none
  | .ia esz x ix => match x.ev e, ix.ev e with
    | .sl k off sz len _ _, .i _ (.ofNat j) => cond (Nat.beq sz esz) (cond (Nat.blt j len) (some (.p k (off + j * esz), h)) none) none
    | _, _ => none
  | .iaA len esz x ix => match x.ev e, ix.ev e with
    | .p k off, .i _ (.ofNat j) => cond (Nat.blt j len) (some (.p k (off + j * esz), h)) none
    | _, _ => none
  | .ixS x ix => match x.ev e, ix.ev e with
    | .s l, .i _ (.ofNat j) => match l.drop j with
      | c :: _ => some (.i .u8 (Int.ofNat c), h)
      | [] => none
    | _, _ => none
  | .ixA agg len esz x ix => match x.ev e, ix.ev e with
    | .ag l, .i _ (.ofNat j) => cond (Nat.blt j len) (match aggOf agg ((l.drop (j * esz)).take esz) esz with
      | some v => some (v, h)
      | none => none) none
    | _, _ => none
  | .ta ok asserted zero x => match x.ev e with
    | .ifc t v => cond (Nat.beq t asserted) (some (cond ok (.tu [v, .b true]) v, h)) (cond ok (some (.tu [zero, .b false], h)) none)
    | .ifn => cond ok (some (.tu [zero, .b false], h)) none
    | _ => none
  | .ex x i => match x.ev e with
    | .tu l => match l.drop i with
      | v :: _ => some (v, h)
      | [] => none
    | _ => none
  | .len kind x => lenOfTV kind (x.ev e) h
  | .app ty esz s x => appendTo ty esz (s.ev e) (x.ev e) h
  | .mkm => cond h.room (some (.m h.nx, h.new (.mp [] 0))) none
  | .ins str m k v => match m.ev e with
    | .m b => match h.get b with
      | some (.mp es c) => match findK str (k.ev e) es 0 with
        | some (some (i, _)) => cond (Nat.blt b 4000000) (some (.tu [], h.wrt b (.mp (updK (k.ev e) (v.ev e) es i) c))) none
        | some none => cond (Nat.blt b 4000000) (some (.tu [], h.wrt b (.mp (es ++ [(k.ev e, v.ev e, c)]) (c + 1)))) none
        | none => none
      | _ => none
    | _ => none
  | .lk str ok zero m k => match m.ev e with
    | .mn => cond (keyOk str (k.ev e)) (some (cond ok (.tu [zero, .b false]) zero, h)) none
    | .m b => match h.get b with
      | some (.mp es _) => match findK str (k.ev e) es 0 with
        | some (some (_, v)) => some (cond ok (.tu [v, .b true]) v, h.see b)
        | some none => some (cond ok (.tu [zero, .b false]) zero, h.see b)
        | none => none
      | _ => none
    | _ => none
  | .del str m k => match m.ev e with
    | .m b => match h.get b with
      | some (.mp es c) => match findK str (k.ev e) es 0 with
        | some (some (i, _)) => cond (Nat.blt b 4000000) (some (.tu [], h.wrt b (.mp (delK es i) c))) none
        | some none => some (.tu [], h.see b)
        | none => none
      | _ => none
    | _ => none
  | .mm most x y => match x.ev e, y.ev e with
    | .i k a, .i _ b => some (.i k (cond most (cond (ilt a b) b a) (cond (ilt b a) b a)), h)
    | _, _ => none
  | .slcA n esz x lo hi mx => match x.ev e with
    | .p k off => match bound e mx n n with
      | some m => match bound e hi n m with
        | some b => match bound e lo 0 b with
          | some a => match h.get k with
            | some (.cells l _ _) => cond (Nat.ble (off + n * esz) l.length) (some (.sl k (cond (Nat.beq m a) off (off + a * esz)) esz (b - a) (m - a) false, h.see k)) none
            | _ => none
          | none => none
        | none => none
      | none => none
    | _ => none
  | .mks ty esz zero l c => match l.ev e, c.ev e with
    | .i _ (.ofNat a), .i _ (.ofNat b) => cond (Nat.ble a b) (cond (Nat.blt b 100000) (cond h.room (some (.sl h.nx 0 esz a b false, h.new (.cells (repl zero b) ty false))) none) none) none
    | _, _ => none
  | .boxB ty n x => cond (x.ev e).notTu (cond (Nat.beq (x.ev e).cells.length n) (cond h.room (some (.p h.nx 0, h.new (.bd (x.ev e).cells ty))) none) none) none
  | .rgS x => match x.ev e with
    | .s l => cond h.room (some (.p h.nx 0, h.new (.it l 0))) none
    | _ => none
  | .nxS x => match x.ev e with
    | .p k off => cond (Nat.beq off 0) (match h.get k with
      | some (.it l pos) => match l.drop pos with
        | c :: _ => cond (Nat.blt c 128) (cond (Nat.blt k 4000000) (some (.tu [.b true, .i .i64 (Int.ofNat pos), .i .i32 (Int.ofNat c)], h.wrt k (.it l (pos + 1)))) none) none
        | [] => some (.tu [.b false], h.see k)
      | _ => none) none
    | _ => none
  | _ => none
def putE (e : Trie TV) (d : Option Nat) (v : TV) : Trie TV :=
  match d with
  | some d => e.set 12 d v
  | none => e
def want (g : Option (Nat × Bool)) (e : Trie TV) : Option Bool :=
  match g with
  | none => some true
  | some (s, b) => match getE e s with
    | .b x => some (bEq x b)
    | .x _ => none
    | .any => none
    | _ => some false
where bEq (x y : Bool) : Bool := _root_.cond x y (_root_.cond y false true)
end Go.Proofs.YtgjfdbbghefdbaaGreatDoor.Sx
namespace Go.Proofs.YtgjfdbbghefdbaaGreatDoor.Sx
inductive Tgt where
  | fn (f : Nat)
  | yd (k : Nat)
abbrev CallT := Tgt → List TV → SH → Option (TV × SH)
structure Meth where
  m : Nat → String → Option Nat
  i : Nat → Nat → Option Bool
  lay : Nat → List Kd
def opC (meth : Meth) (call : CallT) (o : XO) (e : Trie TV) (h : SH) : Option (TV × SH) :=
  match o with
  | .call f args => call (.fn f) (evs e args) h
  | .callv f args => match f.ev e with
    | .f (.func g) first cap => call (.fn g) (first ++ (evs e args ++ cap)) h
    | .y k => call (.yd k) (evs e args) h
    | _ => none
  | .inv x name args => match x.ev e with
    | .ifc t v => match meth.m t name with
      | some g => call (.fn g) (v :: evs e args) h
      | none => none
    | _ => none
  | .taI ok asserted zero x => match x.ev e with
    | .ifc t v => match meth.i t asserted with
      | some true => some (cond ok (.tu [.ifc t v, .b true]) (.ifc t v), h)
      | some false => cond ok (some (.tu [zero, .b false], h)) none
      | none => none
    | .ifn => cond ok (some (.tu [zero, .b false], h)) none
    | _ => none
  | o => xo o e h
-- A run over values that are not known.
def inK (k : IntKind) (n : Int) : Bool := decide (k.min ≤ n) && decide (n ≤ k.max)
def inB (j : Int) (n : Nat) : Bool := decide (0 ≤ j) && decide (j < (n : Int))
def inS (lo hi : Int) (n : Nat) : Bool := decide (0 ≤ lo) && (decide (lo ≤ hi) && decide (hi ≤ (n : Int)))
def decB (x : Bool) (h : SH) : Option (TV × SH) :=
  match h.pa with
  | .br d :: r => some (.b d, (h.told r).owe (.eqb x d))
  | .kp :: r => some (.b x, h.told r)
  | _ => none
def iopO (op : BinOp) (k : IntKind) (x y : Int) (h : SH) : Option (TV × SH) :=
  match op with
  | .add => some (.i k (x + y), h.owe (.eqb (inK k (x + y)) true))
  | .sub => some (.i k (x - y), h.owe (.eqb (inK k (x - y)) true))
  | .mul => some (.i k (x * y), h.owe (.eqb (inK k (x * y)) true))
  | .quo => some (.i k (x.tdiv y), (h.owe (.eqb (decide (y = 0)) false)).owe (.eqb (inK k (x.tdiv y)) true))
  | .rem => some (.i k (x.tmod y), h.owe (.eqb (decide (y = 0)) false))
  | .eql => decB (decide (x = y)) h
  | .neq => decB (!decide (x = y)) h
  | .lss => decB (decide (x < y)) h
  | .leq => decB (decide (x ≤ y)) h
  | .gtr => decB (decide (y < x)) h
  | .geq => decB (decide (y ≤ x)) h
  | _ => none
def sopO (op : BinOp) (x y : List Nat) (h : SH) : Option (TV × SH) :=
  match op with
  | .add => some (.s (x ++ y), h.owe (.eqb (decide (x.length + y.length < 1000000)) true))
  | .eql => decB (decide (x = y)) h
  | .neq => decB (!decide (x = y)) h
  | .lss => decB (lLt x y) h
  | .gtr => decB (!(lLt x y || decide (x = y))) h
  | .leq => decB (lLt x y || decide (x = y)) h
  | .geq => decB (!lLt x y) h
  | _ => none
def keyQ (str : KK) (x y : TV) : Option Bool :=
  match str with
  | .n => match x, y with
    | .i k a, .i k' b => if k = k' then some (decide (a = b)) else none
    | _, _ => none
  | .s => match x, y with
    | .s a, .s b => some (decide (a = b))
    | _, _ => none
  | .w ks => keyEq (.w ks) x y
def findO (str : KK) (k : TV) : List (TV × TV × Nat) → SH → Option (Option TV × SH)
  | [], h => cond (keyOk str k) (some (none, h)) none
  | en :: r, h => match keyQ str k en.1 with
    | none => none
    | some x => match h.pa with
      | .br true :: p => some (some en.2.1, (h.told p).owe (.eqb x true))
      | .br false :: p => findO str k r ((h.told p).owe (.eqb x false))
      | _ => none
def findM (str : KK) (k : TV) (es : List (TV × TV × Nat)) (h : SH) : Option (Option (Nat × TV) × SH) := match h.pa with
  | .mf r :: p => some (r, (h.told p).owe (.pr (findK str k es 0 = some r)))
  | _ => none
def kdTV : Kd → Dat → TV
  | .i k, d => .i k d.int
  | .s, d => .s d.str
  | .b, d => .b d.bool
  | .fn, d => .f (.func d.fnc) [] []
  | .sl T, d => .es T d
  | .o, _ => .any
def kdTVs : List Kd → List Dat → Nat → Nat → List TV
  | [], _, _, _ => []
  | _ :: _, _, _, 0 => []
  | k :: r, row, off, n + 1 => kdTV k (row.getD off .o) :: kdTVs r row (off + 1) n
def ldE (ks : List Kd) (agg : Bool) (n off : Nat) (row : List Dat) (h : SH) : Option (TV × SH) :=
  match agg with
  | true => cond (Nat.blt 0 n) (cond (Nat.ble (off + n) ks.length) (some (.ag (kdTVs (ks.drop off) row off n), h)) none) none
  | false => match ks.drop off with
    | .b :: _ => cond (Nat.beq n 1) (decB (row.getD off .o).bool h) none
    | k :: _ => cond (Nat.beq n 1) (some (kdTV k (row.getD off .o), h)) none
    | [] => none
def bdO (e : Trie TV) (o : Option Opd) (dflt : Int) : Option Int :=
  match o with
  | none => some dflt
  | some o => match o.ev e with
    | .i _ n => some n
    | _ => none
mutual
/-- A value of the run's own as data that stays. -/
def toDat (lay : Nat → List Kd) : Nat → Kd → TV → SH → Option (Dat × SH)
  | 0, _, _, _ => none
  | _ + 1, .i k, .i k' n, h => if k = k' then some (.i n, h) else none
  | _ + 1, .s, .s l, h => some (.s l, h)
  | _ + 1, .b, .b x, h => some (.b x, h)
  | _ + 1, .fn, .f (.func g) [] [], h => some (.f g, h)
  | _ + 1, .sl T, .es T' d, h => cond (Nat.beq T T') (some (d, h)) none
  | _ + 1, .sl _, .sln, h => some (.r [], h)
  | f + 1, .sl T, .sl k off esz len _ _, h => cond (Nat.beq esz (lay T).length) (match h.get k with
    | some (.cells l _ _) => cond (Nat.ble (off + len * esz) l.length) (match rowsDat lay f T len (l.drop off) (h.see k) with
      | some (rows, h) => some (.r rows, h)
      | none => none) none
    | _ => none) none
  | _ + 1, _, _, _ => none
def rowDat (lay : Nat → List Kd) : Nat → List Kd → List TV → SH → Option (List Dat × SH)
  | 0, _, _, _ => none
  | _ + 1, [], _, h => some ([], h)
  | f + 1, k :: ks, t :: r, h => match toDat lay f k t h with
    | some (d, h) => match rowDat lay f ks r h with
      | some (l, h) => some (d :: l, h)
      | none => none
    | none => none
  | _ + 1, _ :: _, [], _ => none
def rowsDat (lay : Nat → List Kd) : Nat → Nat → Nat → List TV → SH → Option (List (List Dat) × SH)
  | 0, _, _, _, _ => none
  | _ + 1, _, 0, _, h => some ([], h)
  | f + 1, T, n + 1, l, h => match rowDat lay f (lay T) l h with
    | some (row, h) => match rowsDat lay f T n (l.drop (lay T).length) h with
      | some (rows, h) => some (row :: rows, h)
      | none => none
    | none => none
end
def resCells (lay : Nat → List Kd) : List Kd → List TV → SH → Option (List TV × SH)
  | [], [], h => some ([], h)
  | .sl T :: ks, t :: r, h => match toDat lay 100 (.sl T) t h with
    | some (d, h) => match resCells lay ks r h with
      | some (l, h) => some (.es T d :: l, h)
      | none => none
    | none => none
  | _ :: ks, t :: r, h => match resCells lay ks r h with
      | some (l, h) => some (t :: l, h)
      | none => none
  | _, _, _ => none
-- Values that name no block of the run's own.
mutual
def TV.free : TV → Bool
  | .p _ _ | .sl .. | .m _ | .y _ => false
  | .f _ a c => cond (freeL a) (freeL c) false
  | .ifc _ v => v.free
  | .ag l | .tu l => freeL l
  | _ => true
def freeL : List TV → Bool
  | [] => true
  | t :: r => cond t.free (freeL r) false
end
mutual
/-- An argument, told to a function that only reads. -/
def resA (lay : Nat → List Kd) : Nat → AK → TV → SH → Option (TV × SH)
  | 0, _, _, _ => none
  | _ + 1, .as, t, h => some (t, h.owe (.eqb t.free true))
  | _ + 1, .ptr T, .p k off, h => match h.get k with
    | some (.cells l _ _) => cond (Nat.ble (off + (lay T).length) l.length) (match rowDat lay 100 (lay T) (l.drop off) (h.see k) with
      | some (row, h) => some (.ep T 0 row, h)
      | none => none) none
    | _ => none
  | f + 1, .ifc k, .ifc t u, h => match resA lay f k u h with
    | some (u, h) => some (.ifc t u, h)
    | none => none
  | _ + 1, .agg T, .ag l, h => match resCells lay (lay T) l h with
    | some (l, h) => some (.ag l, h.owe (.eqb (freeL l) true))
    | none => none
  | _ + 1, .sl T, t, h => match toDat lay 100 (.sl T) t h with
    | some (d, h) => some (.es T d, h)
    | none => none
  | f + 1, .fn ks, .f g [] cap, h => match resL lay f ks cap h with
    | some (l, h) => some (.f g [] l, h)
    | none => none
  | _ + 1, _, _, _ => none
def resL (lay : Nat → List Kd) : Nat → List AK → List TV → SH → Option (List TV × SH)
  | 0, _, _, _ => none
  | _ + 1, [], l, h => some (l, h.owe (.eqb (freeL l) true))
  | f + 1, k :: ks, t :: r, h => match resA lay f k t h with
    | some (t, h) => match resL lay f ks r h with
      | some (l, h) => some (t :: l, h)
      | none => none
    | none => none
  | _ + 1, _ :: _, [], _ => none
end
mutual
/-- Does a value lead nowhere? -/
def TV.flat : TV → Bool
  | .b _ | .i _ _ | .s _ => true
  | .ag l | .tu l => flatL l
  | _ => false
def flatL : List TV → Bool
  | [] => true
  | t :: r => cond t.flat (flatL r) false
end
def frz (h0 : SH) : List Nat → SH → Option SH
  | [], h => some h
  | k :: r, h => match h0.get k with
    | some (.cells _ _ false) => cond (Nat.blt k 4000000) (frz h0 r (h.wrt k .dead)) none
    | _ => none
def callO (lay : Nat → List Kd) (call : CallT) (f : Nat) (args : List TV) (h : SH) : Option (TV × SH) :=
  match h.pa with
  | .cl ks v :: r => cond v.flat (match resL lay 100 ks args h with
    | some (l, h) => some (v, (h.told r).owe (.call f l v))
    | none => none) none
  | .cf ks v :: r => cond v.free (match resL lay 100 ks args h.fresh with
    | some (l, h2) => match frz h h2.lg h with
      | some h3 => some (v, (h3.out r h2.ob).owe (.call f l v))
      | none => none
    | none => none) none
  | .go :: r => call (.fn f) args (h.told r)
  | .cc :: r => match call (.fn f) args h.shut with
    | some (v, h) => some (v, h.unshut r)
    | none => none
  | _ => none
def opO (meth : Meth) (call : CallT) (o : XO) (e : Trie TV) (h : SH) : Option (TV × SH) :=
  match o with
  | .ld agg n a => match a.ev e with
    | .ep T off row => ldE (meth.lay T) agg n off row h
    | _ => xo (.ld agg n a) e h
  | .fa off x => match x.ev e with
    | .ep T o row => some (.ep T (o + off) row, h)
    | _ => xo (.fa off x) e h
  | .nck x => match x.ev e with
    | .ep T o row => some (.ep T o row, h)
    | _ => xo (.nck x) e h
  | .ia esz x ix => match x.ev e, ix.ev e with
    | .es T d, .i _ j => cond (Nat.beq esz (meth.lay T).length) (some (.ep T 0 (d.rows.getD j.toNat []), h.owe (.eqb (inB j d.rows.length) true))) none
    | _, _ => xo (.ia esz x ix) e h
  | .len kind x => match x.ev e with
    | .es _ d => cond (Nat.beq kind 1) (some (.i .i64 (d.rows.length : Int), h)) none
    | _ => xo (.len kind x) e h
  | .bop op x y => match x.ev e, y.ev e with
    | .i k a, .i k' b => if k = k' then iopO op k a b h else none
    | .s a, .s b => sopO op a b h
    | _, _ => none
  | .beq neg x y => match x.ev e, y.ev e with
    | .b a, .b b => decB (cond neg (!decide (a = b)) (decide (a = b))) h
    | _, _ => none
  | .eqw neg ks x y => match x.ev e, y.ev e with
    | .ag a, .ag b => cond (shpL ks a) (cond (shpL ks b) (match scEqL a b with
      | some r => decB (cond neg (cond r false true) r) h
      | none => none) none) none
    | _, _ => none
  | .slc esz x lo hi mx => match x.ev e with
    | .es T d => cond (Nat.beq esz (meth.lay T).length) (match bdO e lo 0, bdO e hi (d.rows.length : Int) with
      | some a, some b => match bdO e mx (d.rows.length : Int) with
        | some m => some (.es T (.r ((d.rows.drop a.toNat).take (b - a).toNat)), (h.owe (.eqb (inS a b d.rows.length) true)).owe (.eqb (inS b m d.rows.length) true))
        | none => none
      | _, _ => none) none
    | _ => xo (.slc esz x lo hi mx) e h
  | .ixS x ix => match x.ev e, ix.ev e with
    | .s l, .i _ j => some (.i .u8 (Int.ofNat (l.getD j.toNat 0)), h.owe (.eqb (inB j l.length) true))
    | _, _ => none
  | .slcS x lo hi => match x.ev e with
    | .s l => match bdO e lo 0, bdO e hi (l.length : Int) with
      | some a, some b => some (.s ((l.drop a.toNat).take (b - a).toNat), h.owe (.eqb (inS a b l.length) true))
      | _, _ => none
    | _ => none
  | .cvi k x => match x.ev e with
    | .i _ n => some (.i k n, h.owe (.eqb (inK k n) true))
    | _ => none
  | .lk str ok zero m k => match m.ev e with
    | .m b => match h.get b with
      | some (.mp es _) => match findM str (k.ev e) es h with
        | some (some (_, v), h) => some (cond ok (.tu [v, .b true]) v, h.see b)
        | some (none, h) => some (cond ok (.tu [zero, .b false]) zero, h.see b)
        | none => match findO str (k.ev e) es h with
          | some (some v, h) => some (cond ok (.tu [v, .b true]) v, h.see b)
          | some (none, h) => some (cond ok (.tu [zero, .b false]) zero, h.see b)
          | none => none
      | _ => none
    | _ => xo (.lk str ok zero m k) e h
  | .ins str m k v => match m.ev e with
    | .m b => match h.get b with
      | some (.mp es c) => match findM str (k.ev e) es h with
        | some (some (i, _), h) => cond (Nat.blt b 4000000) (some (.tu [], h.wrt b (.mp (updK (k.ev e) (v.ev e) es i) c))) none
        | some (none, h) => cond (Nat.blt b 4000000) (some (.tu [], h.wrt b (.mp (es ++ [(k.ev e, v.ev e, c)]) (c + 1)))) none
        | none => xo (.ins str m k v) e h
      | _ => none
    | _ => none
  | .call f args => callO meth.lay call f (evs e args) h
  | .callv f args => match f.ev e with
    | .f (.func g) first cap => callO meth.lay call g (first ++ (evs e args ++ cap)) h
    | _ => none
  | .inv x name args => match x.ev e with
    | .ifc t v => match meth.m t name with
      | some g => callO meth.lay call g (v :: evs e args) h
      | none => none
    | _ => none
  | o => opC meth call o e h
def op1 (meth : Meth) (call : CallT) (o : XO) (e : Trie TV) (h : SH) : Option (TV × SH) :=
  match h.md with
  | false => opC meth call o e h
  | true => opO meth call o e h
def evR (meth : Meth) (call : CallT) : List RO → Trie TV → SH → Option (Trie TV × SH)
  | [], e, h => some (e, h)
  | r :: rest, e, h =>
    match want r.guard e with
    | none => none
    | some false => evR meth call rest (putE e r.dst (.tu [])) h
    | some true => match op1 meth call r.op e h with
      | some (v, h) => evR meth call rest (putE e r.dst v) h
      | none => none
def evP (meth : Meth) (call : CallT) : List RO → Trie TV → SH → List (List Nat × List Nat) → Option (Trie TV × SH × List (List Nat × List Nat))
  | [], e, h, acc => some (e, h, acc)
  | r :: rest, e, h, acc =>
    match want r.guard e with
    | none => none
    | some false => evP meth call rest (putE e r.dst (.tu [])) h (([], []) :: acc)
    | some true => match op1 meth call r.op e h.fresh with
      | some (v, h) => evP meth call rest (putE e r.dst v) h ((h.lg, h.wr) :: acc)
      | none => none
def mem (k : Nat) : List Nat → Bool
  | [] => false
  | j :: r => cond (Nat.beq k j) true (mem k r)
def meets : List Nat → List Nat → Bool
  | [], _ => false
  | k :: r, l => cond (mem k l) true (meets r l)
def conf (x y : List Nat × List Nat) : Bool := cond (meets x.2 y.1) true (meets y.2 x.1)
def okOne (i : Nat) (x : List Nat × List Nat) : List Nat → List (List Nat × List Nat) → Bool
  | a :: anc, y :: logs => cond (conf x y) (cond (Nat.testBit a i) (okOne i x anc logs) false) (okOne i x anc logs)
  | _, _ => true
def okPar : Nat → List Nat → List (List Nat × List Nat) → Bool
  | i, _ :: anc, x :: logs => cond (okOne i x anc logs) (okPar (i + 1) anc logs) false
  | _, _, _ => true
def allLogs : List (List Nat × List Nat) → List Nat × List Nat
  | [] => ([], [])
  | x :: r => (x.1 ++ (allLogs r).1, x.2 ++ (allLogs r).2)
def evC (meth : Meth) (call : CallT) (rd : Option Nat) : Nat → IC → Trie TV → SH → Option (EX × Trie TV × SH × List Nat)
  | 0, _, _, _ => none
  | n + 1, c, e, h =>
    match c with
    | .skip => some (.nrm, e, h, [])
    | .reg l => match evR meth call l e h with
      | some (e, h) => some (.nrm, e, h, [])
      | none => none
    | .par l anc => match evP meth call l e h [] with
      | some (e, h', acc) => match okPar 0 anc acc.reverse with
        | true => some (.nrm, e, ⟨h'.tr, h'.nx, (allLogs acc).1 ++ h.lg, (allLogs acc).2 ++ h.wr, h'.md, h'.pa, h'.ob⟩, [])
        | false => none
      | none => none
    | .seq a b => match evC meth call rd n a e h with
      | some (.nrm, e, h, m) => more m (evC meth call rd n b e h)
      | r => r
    | .cond c a b => match c.ev e with
      | .b true => evC meth call rd n a e h
      | .b false => evC meth call rd n b e h
      | _ => none
    | .blk id c => match evC meth call rd n c e h with
      | some (.exit j, e, h, m) => some (cond (Nat.beq j id) .nrm (.exit j), e, h, m)
      | r => r
    | .loop c => match evC meth call rd n c e h with
      | some (.nrm, e, h, m) => more m (evC meth call rd n (.loop c) e h)
      | r => r
    | .exit id => some (.exit id, e, h, [])
    | .scope c => evC meth call rd n c e h
    | .ret => some (.ret, e, h, [])
    | .rng N f ps as bd => match f.ev e with
      | .f (.func g) [] cap => match lpNew rd N ps as bd e h with
        | some (l, ms, h) => match call (.fn g) (.y l :: cap) h with
          | some (_, h) => match h.get l with
            | some (.lp _ _ _ _ _ st pd) => cond (Nat.beq st 1) none (cond (Nat.blt l 4000000) (some (pd, e, h.wrt l .dead, ms)) none)
            | _ => none
          | none => none
        | none => none
      | _ => none
    | .bad => none
where
  more (m : List Nat) : Option (EX × Trie TV × SH × List Nat) → Option (EX × Trie TV × SH × List Nat)
    | some (ex, e, h, m') => some (ex, e, h, m' ++ m)
    | none => none
  /-- A loop over a function begins: its record, and, where it is no loop within a round, its mark. -/
  lpNew (rd : Option Nat) (N : Nat) (ps : List Nat) (as bd : IC) (e : Trie TV) (h : SH) : Option (Nat × List Nat × SH) :=
    match rd with
    | none => cond (Nat.blt h.nx 3999999) (some (h.nx + 1, [h.nx], (h.new .df).new (.lp N ps as bd e 0 .nrm))) none
    | some k => match h.get k with
      | some (.lp ..) => cond h.room (some (h.nx, [], (h.see k).new (.lp N ps as bd e 0 .nrm))) none
      | _ => none
def setPs (e : Trie TV) : List Nat → List TV → Trie TV
  | p :: ps, v :: vs => setPs (e.set 12 p v) ps vs
  | _, _ => e
def evY (meth : Meth) (call : CallT) (fuel : Nat) (k : Nat) (args : List TV) (h : SH) : Option (TV × SH) :=
  match h.get k with
  | some (.lp _ ps as bd e _ _) => cond (Nat.beq args.length ps.length) (cond (Nat.blt k 4000000) (
    match evC meth call (some k) fuel as (setPs e ps args) (h.see k) with
    | some (.nrm, e1, h1, []) => match h1.get k with
      | some (.lp N' ps' as' bd' e' 0 pd') => match evC meth call (some k) fuel bd e1 (h1.wrt k (.lp N' ps' as' bd' e' 1 pd')) with
        | some (ex, _, h2, []) => match h2.get k with
          | some (.lp N2 ps2 as2 bd2 e2 _ _) => match ex with
            | .nrm => some (.b true, h2.wrt k (.lp N2 ps2 as2 bd2 e2 0 .nrm))
            | ex => some (.b false, h2.wrt k (.lp N2 ps2 as2 bd2 e2 2 ex))
          | _ => none
        | _ => none
      | _ => none
    | _ => none) none) none
  | _ => none
structure XF where
  n : Nat
  np : Nat
  res : List (Nat × Option (Bool × Nat))
  body : IC
def initE : Nat → List TV → Trie TV → Trie TV
  | _, [], e => e
  | i, v :: r, e => initE (i + 1) r (e.set 12 i v)
def resE : List (Nat × Option (Bool × Nat)) → Trie TV → SH → Option (List TV × SH)
  | [], _, h => some ([], h)
  | (s, none) :: r, e, h => match resE r e h with
    | some (l, h) => some (getE e s :: l, h)
    | none => none
  | (s, some (agg, n)) :: r, e, h => match getE e s with
    | .p k off => match loadAt agg n k off h with
      | some (v, h) => match resE r e h with
        | some (l, h) => some (v :: l, h)
        | none => none
      | none => none
    | _ => none
def tupOf : List TV → TV
  | [v] => v
  | l => .tu l
def unmark : List Nat → SH → Option SH
  | [], h => some h
  | d :: r, h => match h.get d with
    | some .df => cond (Nat.blt d 4000000) (unmark r (h.wrt d .dead)) none
    | _ => none
def evF (meth : Meth) (call : CallT) (fuel : Nat) (x : XF) (args : List TV) (h : SH) : Option (TV × SH) :=
  cond (Nat.beq args.length x.np) (
  match evC meth call none fuel x.body (initE 0 args .lf) h with
  | some (.exit _, _, _, _) => none
  | some (_, e, h, ms) => match unmark ms h with
    | some h => match resE x.res e h with
      | some (l, h) => some (tupOf l, h)
      | none => none
    | none => none
  | none => none) none
def run (meth : Meth) (tab : Trie XF) (orc : Nat → Option (List TV → SH → Option (TV × SH))) (fuel : Nat) : Nat → CallT
  | 0, _, _, _ => none
  | n + 1, .fn f, args, h => match orc f with
    | some g => g args h
    | none => match tab.get f with
      | some x => evF meth (run meth tab orc fuel n) fuel x args h
      | none => none
  | n + 1, .yd k, args, h => evY meth (run meth tab orc fuel n) fuel k args h
-- From the model's code to the runner's.
def nats (s : ByteArray) : List Nat := s.data.toList.map UInt8.toNat
def ofScal : Value → Option TV
  | .bool b => some (.b b)
  | .int k n => some (.i k n)
  | .string s => some (.s (nats s))
  | .pointer none => some .pn
  | .slice none 0 0 => some .sln
  | .map none => some .mn
  | .nilFunc => some .fn
  | .nilIface => some .ifn
  | .func g ⟨[]⟩ ⟨[]⟩ => some (.f g [] [])
  | _ => none
def ofScals : List Value → Option (List TV)
  | [] => some []
  | v :: r => match ofScal v, ofScals r with
    | some t, some l => some (t :: l)
    | _, _ => none
def ofVal : Value → Option TV
  | .agg a => (ofScals a.toList).map .ag
  | .iface t v => (ofScal v).map (.ifc t)
  | v => ofScal v
def cOpd (P : Program) : Operand → Option Opd
  | .tmp t => some (.t t)
  | .const v => (ofVal v).map .c
  | .global g => if g < P.globals.size then some (.c (.p g 0)) else none
  | .func f => some (.c (.f (.func f) [] []))
def cOpds (P : Program) : List Operand → Option (List Opd)
  | [] => some []
  | o :: r => match cOpd P o, cOpds P r with
    | some x, some l => some (x :: l)
    | _, _ => none
def cOpt (P : Program) : Option Operand → Option (Option Opd)
  | none => some none
  | some o => (cOpd P o).map some
def isIntD : TypeDesc → Bool
  | .int _ => true
  | _ => false
def isAggD : TypeDesc → Bool
  | .struct _ | .array _ _ => true
  | _ => false
def aggOfT (P : Program) (t : TypeId) : Option (Bool × Nat) :=
  match P.underlying t, P.info? t with
  | some d, some i => some (isAggD d, i.size)
  | _, _ => none
def zeroOf (P : Program) (t : TypeId) : Option TV :=
  match P.info? t with
  | some i => match i.zero with
    | some z => ofVal z
    | none => none
  | none => none
def sizeT (P : Program) (t : TypeId) : Option Nat := (P.info? t).map (·.size)
def cParts (P : Program) (place : Nat → Option (Nat × Nat)) : List (Nat × Operand) → Option (List (Nat × Nat × Opd))
  | [] => some []
  | (i, o) :: r => match place i, cOpd P o, cParts P place r with
    | some (off, size), some x, some l => some ((off, size, x) :: l)
    | _, _, _ => none
def fieldPlaces (P : Program) : List Field → Option (List (Nat × Nat))
  | [] => some []
  | f :: r => match sizeT P f.type, fieldPlaces P r with
    | some s, some l => some ((f.offset, s) :: l)
    | _, _ => none
def constNil : Operand → Bool
  | .const _ => true
  | _ => false
def plainD : TypeDesc → Bool
  | .int _ | .string => true
  | _ => false
def boolD : TypeDesc → Bool
  | .bool => true
  | _ => false
def nilD : TypeDesc → Option Nat
  | .pointer _ => some 0
  | .slice _ => some 1
  | .map _ _ => some 2
  | .func _ _ _ => some 3
  | .interface _ => some 4
  | _ => none
def clsT (P : Program) (t : TypeId) : Option Nat := match P.underlying t with
  | some (.int _) => some 0
  | some .string => some 1
  | some .bool => some 2
  | _ => none
def clsL (P : Program) : List Field → Nat → Option (List Nat)
  | [], _ => some []
  | f :: r, i => cond (Nat.beq f.offset i) (cond (f.name == "_") none (match clsT P f.type, clsL P r (i + 1) with
    | some c, some l => some (c :: l)
    | _, _ => none)) none
def wideT (P : Program) (t : TypeId) : TypeDesc → Option (List Nat)
  | .struct fs => cond (P.stoodInHeld t) none (clsL P fs.toList 0)
  | .array n e => match clsT P e, sizeT P e with
    | some c, some 1 => some (List.replicate n c)
    | _, _ => none
  | _ => none
def KD (P : Program) (kt : TypeId) (kd : KK) (d : TypeDesc) : Prop := (kd = .n ∧ ∃ k, d = TypeDesc.int k) ∨ (kd = .s ∧ d = .string) ∨ ∃ ks, kd = .w ks ∧ wideT P kt d = some ks
def keyT (P : Program) (t : TypeId) : Option (KK × TypeId) :=
  match P.underlying t with
  | some (.map k el) => match P.underlying k with
    | some (.int _) => some (.n, el)
    | some .string => some (.s, el)
    | some d => match wideT P k d with
      | some ks => some (.w ks, el)
      | none => none
    | _ => none
  | _ => none
def isBld (P : Program) (t : TypeId) : Bool :=
  match P.info? t with
  | some i => i.str == "strings.Builder" || (match P.underlying t with
    | some (.struct ⟨[f]⟩) => (match P.info? f.type with
      | some j => j.str == "strings.Builder"
      | none => false)
    | _ => false)
  | none => false
def cOp? (P : Program) (op : Op) : Option XO :=
  match op with
  | .move x | .assign x => (cOpd P x).map .mv
  | .pick c a b => match cOpd P c, cOpd P a, cOpd P b with
    | some c, some a, some b => some (.pick c a b)
    | _, _, _ => none
  | .alloc t => match zeroOf P t with
    | some z => some (if isBld P t then .boxB t z.cells.length (.c z) else .box t z.cells.length (.c z))
    | none => none
  | .box t x => match cOpd P x, sizeT P t with
    | some x, some n => some (if isBld P t then .boxB t n x else .box t n x)
    | _, _ => none
  | .build t parts => match P.underlying t, zeroOf P t with
    | some (.struct fs), some (.ag z) => match fieldPlaces P fs.toList with
      | some pl => (cParts P (pl[·]?) parts.toList).map (.bld z)
      | none => none
    | some (.array _ el), some (.ag z) => match sizeT P el with
      | some s => (cParts P (fun i => some (i * s, s)) parts.toList).map (.bld z)
      | none => none
    | _, _ => none
  | .buildSlice t len parts => match P.underlying t with
    | some (.slice el) => match sizeT P el, zeroOf P el with
      | some s, some z => if z.cells.length = s ∧ 0 < s ∧ len * s < 100000 then (cParts P (fun i => some (i * s, s)) parts.toList).map (.bls el s len (repl z.cells len)) else none
      | _, _ => none
    | _ => none
  | .load t a => match aggOfT P t, cOpd P a with
    | some (g, n), some a => some (.ld g (if g then n else 1) a)
    | _, _ => none
  | .store t a x => match sizeT P t, cOpd P a, cOpd P x with
    | some n, some a, some x => some (.st n a x)
    | _, _, _ => none
  | .nilCheck x => (cOpd P x).map .nck
  | .binOp op t x y _ => match P.underlying t, cOpd P x, cOpd P y with
    | some d, some a, some b => if plainD d then some (.bop op a b) else if boolD d then (match op with
      | .eql => some (.beq false a b)
      | .neq => some (.beq true a b)
      | _ => none) else (match nilD d, op with
      | some k, .eql => some (.eq k false (constNil x || constNil y) a b)
      | some k, .neq => some (.eq k true (constNil x || constNil y) a b)
      | _, _ => match wideT P t d, op with
        | some ks, .eql => if P.eqGuardType P.depth t = true then none else some (.eqw false ks a b)
        | some ks, .neq => if P.eqGuardType P.depth t = true then none else some (.eqw true ks a b)
        | _, _ => none)
    | _, _, _ => none
  | .unOp op _ x => (cOpd P x).map (.un op)
  | .convert src dst x => match P.underlying src, P.underlying dst, cOpd P x with
    | some _, some (.int k), some x => some (.cvi k x)
    | some .string, some .string, some x => some (.cvs x)
    | some (.slice el), some .string, some x => match P.underlying el with
      | some (.int .u8) => some (.cvb x)
      | _ => none
    | _, _, _ => none
  | .makeInterface t x => match P.underlying t, cOpd P x with
    | some (.interface _), _ => none
    | some _, some x => some (.mki t x)
    | _, _ => none
  | .makeFunc g first cap => match cOpds P first.toList, cOpds P cap.toList with
    | some a, some b => some (.mkf g a b)
    | _, _ => none
  | .slice t x lo hi mx => match P.underlying t, cOpd P x, cOpt P lo, cOpt P hi, cOpt P mx with
    | some .string, some x, some lo, some hi, some none => some (.slcS x lo hi)
    | some (.slice el), some x, some lo, some hi, some mx => match sizeT P el with
      | some s => if hi.isNone ∧ mx.isSome then none else some (.slc s x lo hi mx)
      | none => none
    | some (.array n el), some x, some lo, some hi, some mx => match sizeT P el with
      | some s => if hi.isNone ∧ mx.isSome then none else some (.slcA n s x lo hi mx)
      | none => none
    | _, _, _, _, _ => none
  | .fieldAddr t x i => match P.underlying t, cOpd P x with
    | some (.struct fs), some x => match fs[i]? with
      | some f => match sizeT P f.type with
        | some (_ + 1) => some (.fa f.offset x)
        | _ => none
      | none => none
    | _, _ => none
  | .field t x i => match P.underlying t, cOpd P x with
    | some (.struct fs), some x => match fs[i]? with
      | some f => match aggOfT P f.type with
        | some (g, n) => some (.fld g f.offset (if g then n else 1) x)
        | none => none
      | none => none
    | _, _ => none
  | .indexAddr t x ix => match P.underlying t, cOpd P x, cOpd P ix with
    | some (.slice el), some x, some ix => match sizeT P el with
      | some s => some (.ia s x ix)
      | none => none
    | some (.array n el), some x, some ix => match sizeT P el with
      | some s => some (.iaA n s x ix)
      | none => none
    | _, _, _ => none
  | .index t x ix => match P.underlying t, cOpd P x, cOpd P ix with
    | some .string, some x, some ix => some (.ixS x ix)
    | some (.array n el), some x, some ix => match aggOfT P el with
      | some (g, s) => if g = true ∨ s = 1 then some (.ixA g n s x ix) else none
      | none => none
    | _, _, _ => none
  | .typeAssert x _ asserted ok => match P.underlying asserted, zeroOf P asserted, cOpd P x with
    | some (.interface _), some z, some x => some (.taI ok asserted z x)
    | some _, some z, some x => some (.ta ok asserted z x)
    | _, _, _ => none
  | .extract x i => (cOpd P x).map (.ex · i)
  | .call { callee := .builtin .len, args := ⟨[x]⟩, argTypes := ⟨[t]⟩ } => match P.underlying t, cOpd P x with
    | some .string, some x => some (.len 0 x)
    | some (.slice _), some x => some (.len 1 x)
    | some (.map _ _), some x => some (.len 2 x)
    | _, _ => none
  | .call { callee := .builtin .append, args := ⟨[s, x]⟩, argTypes := ⟨[t, u]⟩ } => match P.underlying t, P.underlying u, cOpd P s, cOpd P x with
    | some (.slice el), some d, some s, some x => match P.info? el, zeroOf P el with
      | some i, some z => if z.cells.length = i.size ∧ 0 < i.size ∧ i.bytes < 100000 ∧ 0 < i.bytes ∧ isIntD d = false then some (.app el i.size s x) else none
      | _, _ => none
    | _, _, _, _ => none
  | .call { callee := .builtin .max, args := ⟨[x, y]⟩, .. } => match cOpd P x, cOpd P y with
    | some x, some y => some (.mm true x y)
    | _, _ => none
  | .call { callee := .builtin .min, args := ⟨[x, y]⟩, .. } => match cOpd P x, cOpd P y with
    | some x, some y => some (.mm false x y)
    | _, _ => none
  | .call { callee := .builtin .delete, args := ⟨[m, k]⟩, argTypes := ⟨t :: _⟩ } => match keyT P t, cOpd P m, cOpd P k with
    | some (str, _), some m, some k => some (.del str m k)
    | _, _, _ => none
  | .call { callee := .builtin _, .. } => none
  | .call { callee := .value (.func f), args, .. } => (cOpds P args.toList).map (.call f)
  | .call { callee := .value f, args, .. } => match cOpd P f, cOpds P args.toList with
    | some f, some l => some (.callv f l)
    | _, _ => none
  | .call { callee := .invoke x name, args, .. } => match cOpd P x, cOpds P args.toList with
    | some x, some l => some (.inv x name l)
    | _, _ => none
  | .makeMap t none => match P.underlying t with
    | some (.map _ _) => some .mkm
    | _ => none
  | .insert t m k v | .mapUpdate t m k v => match keyT P t, cOpd P m, cOpd P k, cOpd P v with
    | some (str, _), some m, some k, some v => some (.ins str m k v)
    | _, _, _, _ => none
  | .lookup t m k ok => match keyT P t, cOpd P m, cOpd P k with
    | some (str, el), some m, some k => match zeroOf P el with
      | some z => some (.lk str ok z m k)
      | none => none
    | _, _, _ => none
  | .range t x => match P.underlying t, cOpd P x with
    | some .string, some x => some (.rgS x)
    | _, _ => none
  | .next x str => if str then (cOpd P x).map .nxS else none
  | .makeSlice t l c => match P.underlying t, cOpd P l, cOpd P c with
    | some (.slice el), some l, some c => match P.info? el, zeroOf P el with
      | some i, some z => if z.cells.length = i.size ∧ 0 < i.size ∧ i.bytes < 100000 then some (.mks el i.size z.cells l c) else none
      | _, _ => none
    | _, _, _ => none
  | _ => none
def cOp (P : Program) (op : Op) : XO := (cOp? P op).getD .bad
def slotOf (ops : List Oper) (j : Nat) : Option Nat :=
  match ops[j]? with
  | some o => o.dst
  | none => none
def dstOk (N : Nat) : Option Nat → Bool
  | some d => Nat.blt d N
  | none => true
def cRO (P : Program) (N : Nat) (ops : List Oper) (o : Oper) : Option RO :=
    let x := cOp P o.op
    if dstOk N o.dst = true then
      match o.guard with
      | none => some ⟨o.dst, none, x⟩
      | some (j, b) => match slotOf ops j with
        | some s => some ⟨o.dst, some (s, b), x⟩
        | none => none
    else none
def cROs (P : Program) (N : Nat) (ops : List Oper) : List Oper → Option (List RO)
  | [] => some []
  | o :: r => match cRO P N ops o, cROs P N ops r with
    | some x, some l => some (x :: l)
    | _, _ => none
def maskOf (i : Nat) (ms : List Nat) : List Edge → Option Nat
  | [] => some 0
  | e :: r => match maskOf i ms r with
    | none => none
    | some m => if Region.binds .any e then (match ms[e.on]? with
      | some q => if e.on < i then some (m ||| (2 ^ e.on ||| q)) else none
      | none => none) else some m
def masksOf : Nat → List Nat → List Oper → Option (List Nat)
  | _, ms, [] => some ms
  | i, ms, o :: r => match maskOf i ms o.after.toList with
    | some m => masksOf (i + 1) (ms ++ [m]) r
    | none => none
def Opd.slots : Opd → List Nat
  | .t n => [n]
  | .c _ => []
def slotsL : List Opd → List Nat
  | [] => []
  | o :: r => o.slots ++ slotsL r
def slotsP : List (Nat × Nat × Opd) → List Nat
  | [] => []
  | (_, _, o) :: r => o.slots ++ slotsP r
def slotsO : Option Opd → List Nat
  | none => []
  | some o => o.slots
def XO.uses : XO → List Nat
  | .mv x | .nck x | .un _ x | .cvi _ x | .cvs x | .cvb x | .mki _ x | .fa _ x | .fld _ _ _ x | .ta _ _ _ x | .ex x _ | .taI _ _ _ x | .len _ x | .box _ _ x | .ld _ _ x | .rgS x | .nxS x | .boxB _ _ x => x.slots
  | .pick c a b => c.slots ++ (a.slots ++ b.slots)
  | .bld _ ps | .bls _ _ _ _ ps => slotsP ps
  | .st _ a x => a.slots ++ x.slots
  | .bop _ x y | .eq _ _ _ x y | .beq _ x y | .eqw _ _ x y | .ia _ x y | .iaA _ _ x y | .ixS x y | .ixA _ _ _ x y | .app _ _ x y | .mm _ x y | .del _ x y | .mks _ _ _ x y => x.slots ++ y.slots
  | .mkf _ a b => slotsL a ++ slotsL b
  | .slcS x lo hi => x.slots ++ (slotsO lo ++ slotsO hi)
  | .slc _ x lo hi mx => x.slots ++ (slotsO lo ++ (slotsO hi ++ slotsO mx))
  | .call _ l => slotsL l
  | .callv f l | .inv f _ l => f.slots ++ slotsL l
  | .mkm | .bad => []
  | .slcA _ _ x lo hi mx => x.slots ++ (slotsO lo ++ (slotsO hi ++ slotsO mx))
  | .ins _ m k v => m.slots ++ (k.slots ++ v.slots)
  | .lk _ _ _ m k => m.slots ++ k.slots
def RO.uses (r : RO) : List Nat :=
  match r.guard with
  | some (s, _) => s :: r.op.uses
  | none => r.op.uses
def notIn (d : Option Nat) (l : List Nat) : Bool :=
  match d with
  | some d => cond (mem d l) false true
  | none => true
def unlike (a b : Option Nat) : Bool :=
  match a, b with
  | some x, some y => cond (Nat.beq x y) false true
  | _, _ => true
def apartR (x y : RO) : Bool := cond (notIn x.dst y.uses) (notIn y.dst x.uses) false
def okStatOne (i : Nat) (x : RO) : List Nat → List RO → Bool
  | a :: anc, y :: l => cond (unlike x.dst y.dst) (cond (cond (Nat.testBit a i) true (apartR x y)) (okStatOne i x anc l) false) false
  | _, _ => true
def okStat : Nat → List Nat → List RO → Bool
  | i, _ :: anc, x :: l => cond (okStatOne i x anc l) (okStat (i + 1) anc l) false
  | _, _, _ => true
def cCode (P : Program) (N : Nat) : Code → Option IC
  | .skip => some .skip
  | .label _ => some .skip
  | .region _ ops draw => match cROs P N ops.toList ops.toList with
    | none => none
    | some l => if draw then (match masksOf 0 [] ops.toList with
      | some ms => if okStat 0 ms l then some (.par l ms) else none
      | none => none) else some (.reg l)
  | .seq a b => match cCode P N a, cCode P N b with
    | some x, some y => some (.seq x y)
    | _, _ => none
  | .cond c a b => match cOpd P c, cCode P N a, cCode P N b with
    | some c, some x, some y => some (.cond c x y)
    | _, _, _ => none
  | .block id c => (cCode P N c).map (.blk id)
  | .loop c => (cCode P N c).map .loop
  | .exit id => some (.exit id)
  | .scope c => (cCode P N c).map .scope
  | .ret => some .ret
  | .rangeFunc f ps as bd => match cOpd P f, cCode P N as, cCode P N bd with
    | some f, some x, some y => if ps.toList.all (fun p => Nat.blt p N) = true then some (.rng N f ps.toList x y) else none
    | _, _, _ => none
  | _ => some .bad
def cRes (P : Program) : List ResultVar → Option (List (Nat × Option (Bool × Nat)))
  | [] => some []
  | .tmp t :: r => (cRes P r).map ((t, none) :: ·)
  | .cell a t :: r => match aggOfT P t, cRes P r with
    | some (g, n), some l => some ((a, some (g, if g then n else 1)) :: l)
    | _, _ => none
def cFunc (P : Program) (fn : Func) : Option XF :=
  match fn.body with
  | none => none
  | some c => if fn.name == "runtime.NumGoroutine" then none else if fn.ntmps < 4000 then (match cCode P fn.ntmps c, cRes P fn.results.toList with
    | some b, some r => if fn.params.size + fn.nfree ≤ fn.ntmps then some ⟨fn.ntmps, fn.params.size + fn.nfree, r, b⟩ else none
    | _, _ => none) else none
end Go.Proofs.YtgjfdbbghefdbaaGreatDoor.Sx
namespace Go.Proofs.YtgjfdbbghefdbaaGreatDoor.Sx
def scalV : Value → Prop
  | .agg _ | .tuple _ => False
  | _ => True
def TB.own : TB → Prop
  | .cells _ _ ro => ro = false
  | .dead => False
  | .mp _ _ | .lp .. | .df | .it _ _ | .bd _ _ => True
def Own (h : SH) (k : Nat) : Prop := ∃ b, h.get k = some b ∧ b.own
def ER (ρ : Cx) (σ : Emb) : List (TV × TV × Nat) → List MapEntry → Prop
  | [], l => l = []
  | x :: r, l => ∃ en q, l = en :: q ∧ VR ρ σ x.1 en.key ∧ VR ρ σ x.2.1 en.val ∧ en.born = x.2.2 ∧ ER ρ σ r q
theorem ER_mono {ρ : Cx} {σ σ' : Emb} (h : σ.le σ') : ∀ (l : List (TV × TV × Nat)) (es : List MapEntry), ER ρ σ l es → ER ρ σ' l es
  | [], _, he => he
  | _ :: r, _, ⟨en, q, h1, h2, h3, h4, h5⟩ => ⟨en, q, h1, VR_mono h _ _ h2, VR_mono h _ _ h3, h4, ER_mono h r q h5⟩
def EnvR (ρ : Cx) (σ : Emb) (e : Trie TV) (tmps : Array Value) : Prop := ∀ t, VR ρ σ (getE e t) (tmps.getD t undef)
theorem EnvR.mono {ρ : Cx} {σ σ' : Emb} {e : Trie TV} {tmps : Array Value} (h : EnvR ρ σ e tmps) (hu : σ.le σ') : EnvR ρ σ' e tmps := fun t => VR_mono hu _ _ (h t)
def pendOf : EX → Option Code
  | .nrm => none
  | .exit id => some (.exit id)
  | .ret => some .ret
def stOf : Nat → LoopState
  | 0 => .ready
  | 1 => .busy
  | _ => .done
structure LpR (ρ : Cx) (σ : Emb) (r : Loop) (n : Nat) (ps : List Nat) (as bd : IC) (e : Trie TV) (st : Nat) (pd : EX) : Prop where
  hps : r.params.toList = ps
  hlt : ∀ p, p ∈ ps → p < n
  hn : n ≤ 4000
  hsz : n ≤ r.tmps.size
  has : cCode ρ.prog n r.assign = some as
  hbd : cCode ρ.prog n r.body = some bd
  he : EnvR ρ σ e r.tmps
  hst : r.state = stOf st
  hpd : r.pending = pendOf pd
def BR (ρ : Cx) (B : Nat) (σ : Emb) (w : World) (k : Nat) : TB → Prop
  | .cells l ty ro => ∃ y c fz, σ k = some y ∧ w.heap[y.1]? = some (.cells c ty fz) ∧ (ro = false → B ≤ y.1 ∧ fz = (0, 0)) ∧ (ro = true → y.1 < B) ∧ c.size = y.2.1 + y.2.2 ∧ l.length ≤ y.2.2 ∧
      ∀ (j : Nat) (t : TV), l[j]? = some t → ∃ v, c[y.2.1 + j]? = some v ∧ VR ρ σ t v
  | .dead => True
  | .mp es clock => ∃ y a, σ k = some y ∧ w.heap[y.1]? = some (.map a clock) ∧ B ≤ y.1 ∧ ER ρ σ es a.toList
  | .lp n ps as bd e st pd => ∃ y r, σ k = some y ∧ w.heap[y.1]? = some (.loop r) ∧ B ≤ y.1 ∧ LpR ρ σ r n ps as bd e st pd
  | .df => ∃ y, σ k = some y ∧ w.heap[y.1]? = some (.deferred (some [])) ∧ B ≤ y.1
  | .bd l ty => ∃ y c, σ k = some y ∧ w.heap[y.1]? = some (.cells c ty (0, 0)) ∧ B ≤ y.1 ∧ y.2.1 = 0 ∧ y.2.2 = c.size ∧ c.size = l.length ∧ ∀ (j : Nat) (t : TV), l[j]? = some t → ∃ v, c[j]? = some v ∧ VR ρ σ t v
  | .it l pos => ∃ y, σ k = some y ∧ w.heap[y.1]? = some (.stringIter (bytesOf l) pos) ∧ B ≤ y.1 ∧ okS l = true ∧ y.2.1 = 0
structure HR (ρ : Cx) (B : Nat) (D : Nat → Prop) (σ : Emb) (h : SH) (w : World) : Prop where
  base : B ≤ w.heap.size
  wf : ∀ k b, h.get k = some b → k < h.nx
  blk : ∀ k b, D k → h.get k = some b → BR ρ B σ w k b
  inj : ∀ k k', D k → D k' → Own h k → Own h k' → k ≠ k' → ∀ y y', σ k = some y → σ k' = some y' → y.1 ≠ y'.1
  mem : ∀ b c, σ.mem b = some c → (∃ ty fz, w.heap[b]? = some (.cells c ty fz)) ∧ ∀ k y, D k → Own h k → σ k = some y → y.1 ≠ b
  tl : ∀ p, p ∈ ρ.tl → ∃ c, σ.mem p.1 = some c ∧ (∀ (j : Nat) (v : Value), p.2[j]? = some v → c[j]? = some v) ∧ c.size = p.2.length
def Out (w w' : World) : Prop := w'.os = w.os ∧ w'.tape = w.tape ∧ w'.output = w.output
theorem Out.refl (w : World) : Out w w := ⟨rfl, rfl, rfl⟩
theorem Out.trans {a b c : World} (h : Out a b) (k : Out b c) : Out a c := ⟨k.1.trans h.1, k.2.1.trans h.2.1, k.2.2.trans h.2.2⟩
structure Tr (ρ : Cx) (B : Nat) (D : Nat → Prop) (σ : Emb) (h : SH) (w : World) (σ' : Emb) (h' : SH) (w' : World) : Prop where
  up : σ.le σ'
  no : ∀ k, σ k = none → (k < h.nx ∨ h'.nx ≤ k) → σ' k = none
  nw : ∀ k y, σ k = none → σ' k = some y → w.heap.size ≤ y.1 ∨ ∃ k0 y0, D k0 ∧ Own h k0 ∧ σ k0 = some y0 ∧ y0.1 = y.1
  nm : ∀ b c, σ'.mem b = some c → σ.mem b = some c ∨ w.heap.size ≤ b ∨ ∃ k0 y0, D k0 ∧ Own h k0 ∧ σ k0 = some y0 ∧ y0.1 = b
  out : Out w w'
  sz : w.heap.size ≤ w'.heap.size
  fr : ∀ b, b < w.heap.size → (∀ k y, D k → Own h k → σ k = some y → y.1 ≠ b) → w'.heap[b]? = w.heap[b]?
  hr : HR ρ B (fun k => D k ∨ (h.nx ≤ k ∧ k < h'.nx)) σ' h' w'
structure TF (h h' : SH) : Prop where
  nx : h.nx ≤ h'.nx
  lg : ∀ k, k ∈ h.lg → k ∈ h'.lg
  wr : ∀ k, k ∈ h.wr → k ∈ h'.wr
  wl : ∀ k, k ∈ h'.wr → k ∈ h.wr ∨ k ∈ h'.lg
  nl : ∀ k, h.nx ≤ k → k < h'.nx → k ∈ h'.wr
  same : ∀ k, k ∉ h'.wr → h'.get k = h.get k
  own : ∀ k, k < h.nx → Own h' k → Own h k
  ob : ∀ o, o ∈ h.ob → o ∈ h'.ob
  wf : (∀ k b, h.get k = some b → k < h.nx) → ∀ k b, h'.get k = some b → k < h'.nx
def Free (σ : Emb) (n n' : Nat) : Prop := ∀ k, n ≤ k → k < n' → σ k = none
def Hand (D : Nat → Prop) (h h' : SH) : Prop := ∀ k, k ∈ h'.lg → k < h.nx → D k
theorem TF.refl (h : SH) : TF h h := ⟨Nat.le_refl _, fun _ x => x, fun _ x => x, fun _ x => .inl x, fun _ h1 h2 => absurd h1 (by omega), fun _ _ => rfl, fun _ _ x => x, fun _ x => x, fun x => x⟩
theorem TF.trans {h g1 h2 : SH} (a : TF h g1) (b : TF g1 h2) : TF h h2 where
  nx := Nat.le_trans a.nx b.nx
  lg := fun k x => b.lg k (a.lg k x)
  wr := fun k x => b.wr k (a.wr k x)
  wl := fun k x => by
    rcases b.wl k x with y | y
    · rcases a.wl k y with z | z
      · exact .inl z
      · exact .inr (b.lg k z)
    · exact .inr y
  nl := fun k h1 h2 => by
    by_cases h3 : k < g1.nx
    · exact b.wr k (a.nl k h1 h3)
    · exact b.nl k (by omega) h2
  same := fun k x => (b.same k x).trans (a.same k fun y => x (b.wr k y))
  own := fun k x y => a.own k x (b.own k (Nat.lt_of_lt_of_le x a.nx) y)
  ob := fun o x => b.ob o (a.ob o x)
  wf := fun x => b.wf (a.wf x)
theorem TF.see (h : SH) (k : Nat) : TF h (h.see k) :=
  ⟨Nat.le_refl _, fun _ x => List.mem_cons_of_mem _ x, fun _ x => x, fun _ x => .inl x, fun _ h1 h2 => absurd h1 (Nat.not_le.2 h2), fun _ _ => rfl, fun _ _ x => x, fun _ x => x, fun x => x⟩
theorem SH.get_wrt {h : SH} {k : Nat} (b : TB) (hk : k < 4000000) (j : Nat) : (h.wrt k b).get j = if j = k then some b else h.get j :=
  Trie.get_set 24 h.tr k b j (by omega)
theorem SH.get_new {h : SH} (b : TB) (hk : h.nx < 4000000) (j : Nat) : (h.new b).get j = if j = h.nx then some b else h.get j :=
  Trie.get_set 24 h.tr h.nx b j (by omega)
theorem TF.wrt {h : SH} {k : Nat} {b b0 : TB} (hk : k < 4000000) (h0 : h.get k = some b0) (ho : b.own → b0.own) : TF h (h.wrt k b) where
  nx := Nat.le_refl _
  lg := fun _ x => List.mem_cons_of_mem _ x
  wr := fun _ x => List.mem_cons_of_mem _ x
  wl := fun j x => by
    rcases List.mem_cons.1 x with rfl | x
    · exact .inr (List.mem_cons_self ..)
    · exact .inl x
  nl := fun _ h1 h2 => absurd h1 (Nat.not_le.2 h2)
  same := fun j x => by
    rw [SH.get_wrt b hk, if_neg]
    rintro rfl
    exact x (List.mem_cons_self ..)
  own := fun j _ ⟨b1, h1, h2⟩ => by
    rw [SH.get_wrt b hk] at h1
    by_cases e : j = k
    · subst e
      rw [if_pos rfl] at h1
      cases h1
      exact ⟨b0, h0, ho h2⟩
    · rw [if_neg e] at h1
      exact ⟨b1, h1, h2⟩
  ob := fun _ x => x
  wf := fun x j b1 e1 => by
    rw [SH.get_wrt b hk] at e1
    by_cases e : j = k
    · subst e; exact x _ _ h0
    · rw [if_neg e] at e1; exact x j b1 e1
theorem TF.new {h : SH} {b : TB} (hk : h.nx < 4000000) : TF h (h.new b) where
  nx := Nat.le_succ _
  lg := fun _ x => List.mem_cons_of_mem _ x
  wr := fun _ x => List.mem_cons_of_mem _ x
  wl := fun j x => by
    rcases List.mem_cons.1 x with rfl | x
    · exact .inr (List.mem_cons_self ..)
    · exact .inl x
  nl := fun k h1 h2 => by
    have : k = h.nx := by
      have : (h.new b).nx = h.nx + 1 := rfl
      omega
    subst this
    exact List.mem_cons_self ..
  same := fun j x => by
    rw [SH.get_new b hk, if_neg]
    rintro rfl
    exact x (List.mem_cons_self ..)
  own := fun j hj ⟨b1, h1, h2⟩ => by
    rw [SH.get_new b hk, if_neg (by omega)] at h1
    exact ⟨b1, h1, h2⟩
  ob := fun _ x => x
  wf := fun x j b1 e1 => by
    have hn : (h.new b).nx = h.nx + 1 := rfl
    rw [SH.get_new b hk] at e1
    by_cases e : j = h.nx
    · omega
    · rw [if_neg e] at e1
      have := x j b1 e1
      omega
theorem HR.mono {ρ : Cx} {B : Nat} {D D' : Nat → Prop} {σ : Emb} {h : SH} {w : World} (hr : HR ρ B D σ h w) (hd : ∀ k, D' k → D k) : HR ρ B D' σ h w :=
  ⟨hr.base, hr.wf, fun k b x y => hr.blk k b (hd k x) y, fun k k' x y => hr.inj k k' (hd k x) (hd k' y), fun b c e => ⟨(hr.mem b c e).1, fun k y x => (hr.mem b c e).2 k y (hd k x)⟩, hr.tl⟩
theorem own_of_tr {h h' : SH} (e : h'.tr = h.tr) {k : Nat} : Own h' k ↔ Own h k := by unfold Own SH.get; rw [e]
theorem HR.of_tr {ρ : Cx} {B : Nat} {D : Nat → Prop} {σ : Emb} {h h' : SH} {w : World} (hr : HR ρ B D σ h w) (e : h'.tr = h.tr) (en : h'.nx = h.nx) : HR ρ B D σ h' w :=
  ⟨hr.base, fun k b x => by rw [en]; exact hr.wf k b (by unfold SH.get at *; rw [← e]; exact x), fun k b x y => hr.blk k b x (by unfold SH.get at *; rw [← e]; exact y), fun k k' x y z u => hr.inj k k' x y ((own_of_tr e).1 z) ((own_of_tr e).1 u), fun b c q => ⟨(hr.mem b c q).1, fun k y x z => (hr.mem b c q).2 k y x ((own_of_tr e).1 z)⟩, hr.tl⟩
theorem tr_same {ρ : Cx} {B : Nat} {D : Nat → Prop} {σ : Emb} {h h' : SH} {w : World} (hr : HR ρ B D σ h w) (e : h'.tr = h.tr) (en : h'.nx = h.nx) : Tr ρ B D σ h w σ h' w where
  up := Emb.le.refl _
  no := fun _ x _ => x
  nw := fun k y x z => by rw [x] at z; cases z
  nm := fun b c e => .inl e
  out := Out.refl w
  sz := Nat.le_refl _
  fr := fun _ _ _ => rfl
  hr := (hr.of_tr e en).mono fun k x => x.elim id fun y => absurd y.2 (by omega)
theorem BR_mono {ρ : Cx} {B : Nat} {σ σ' : Emb} {w w' : World} {k : Nat} {b : TB} (h : BR ρ B σ w k b) (hu : σ.le σ') (hw : ∀ y, σ k = some y → y.1 < w.heap.size → w'.heap[y.1]? = w.heap[y.1]?) : BR ρ B σ' w' k b := by
  cases b with
  | cells l ty ro =>
    obtain ⟨y, c, fz, h1, h2, h3, h3', h4, h5, h6⟩ := h
    refine ⟨y, c, fz, hu.at' _ _ h1, ?_, h3, h3', h4, h5, fun j t ht => ?_⟩
    · rw [hw y h1 (Array.getElem?_eq_some_iff.1 h2).1]; exact h2
    · obtain ⟨v, e1, e2⟩ := h6 j t ht
      exact ⟨v, e1, VR_mono hu _ _ e2⟩
  | dead => trivial
  | mp es clock =>
    obtain ⟨y, a, h1, h2, h3, h4⟩ := h
    refine ⟨y, a, hu.at' _ _ h1, ?_, h3, ER_mono hu _ _ h4⟩
    rw [hw y h1 (Array.getElem?_eq_some_iff.1 h2).1]; exact h2
  | lp n ps as bd e st pd =>
    obtain ⟨y, r, h1, h2, h3, h4⟩ := h
    refine ⟨y, r, hu.at' _ _ h1, ?_, h3, h4.hps, h4.hlt, h4.hn, h4.hsz, h4.has, h4.hbd, h4.he.mono hu, h4.hst, h4.hpd⟩
    rw [hw y h1 (Array.getElem?_eq_some_iff.1 h2).1]; exact h2
  | df =>
    obtain ⟨y, h1, h2, h3⟩ := h
    refine ⟨y, hu.at' _ _ h1, ?_, h3⟩
    rw [hw y h1 (Array.getElem?_eq_some_iff.1 h2).1]; exact h2
  | bd l ty =>
    obtain ⟨y, c, h1, h2, h3, h4, h4', h5, h6⟩ := h
    refine ⟨y, c, hu.at' _ _ h1, ?_, h3, h4, h4', h5, fun j t ht => ?_⟩
    · rw [hw y h1 (Array.getElem?_eq_some_iff.1 h2).1]; exact h2
    · obtain ⟨v, e1, e2⟩ := h6 j t ht
      exact ⟨v, e1, VR_mono hu _ _ e2⟩
  | it l pos =>
    obtain ⟨y, h1, h2, h3, h4⟩ := h
    refine ⟨y, hu.at' _ _ h1, ?_, h3, h4⟩
    rw [hw y h1 (Array.getElem?_eq_some_iff.1 h2).1]; exact h2
theorem BR_block {ρ : Cx} {B : Nat} {σ : Emb} {w : World} {k : Nat} {b : TB} (h : BR ρ B σ w k b) (hb : b.own) : ∃ y, σ k = some y ∧ y.1 < w.heap.size ∧ B ≤ y.1 := by
  cases b with
  | cells l ty ro =>
    obtain ⟨y, c, fz, h1, h2, h3, _⟩ := h
    exact ⟨y, h1, (Array.getElem?_eq_some_iff.1 h2).1, (h3 hb).1⟩
  | dead => exact hb.elim
  | mp es clock =>
    obtain ⟨y, a, h1, h2, h3, _⟩ := h
    exact ⟨y, h1, (Array.getElem?_eq_some_iff.1 h2).1, h3⟩
  | lp n ps as bd e st pd =>
    obtain ⟨y, r, h1, h2, h3, _⟩ := h
    exact ⟨y, h1, (Array.getElem?_eq_some_iff.1 h2).1, h3⟩
  | df =>
    obtain ⟨y, h1, h2, h3⟩ := h
    exact ⟨y, h1, (Array.getElem?_eq_some_iff.1 h2).1, h3⟩
  | bd l ty =>
    obtain ⟨y, c, h1, h2, h3, _⟩ := h
    exact ⟨y, h1, (Array.getElem?_eq_some_iff.1 h2).1, h3⟩
  | it l pos =>
    obtain ⟨y, h1, h2, h3, _⟩ := h
    exact ⟨y, h1, (Array.getElem?_eq_some_iff.1 h2).1, h3⟩
theorem Tr.trans {ρ : Cx} {B : Nat} {D : Nat → Prop} {σ σ1 σ2 : Emb} {h h1 h2 : SH} {w w1 w2 : World} (f : TF h h1) (a : Tr ρ B D σ h w σ1 h1 w1)
    (g : TF h1 h2) (b : Tr ρ B (fun k => D k ∨ (h.nx ≤ k ∧ k < h1.nx)) σ1 h1 w1 σ2 h2 w2) (hf : Free σ h.nx h2.nx) : Tr ρ B D σ h w σ2 h2 w2 where
  up := a.up.trans b.up
  no := fun k x y => by
    have h1n := f.nx
    have h2n := g.nx
    refine b.no k (a.no k x ?_) ?_
    · rcases y with y | y
      · exact .inl y
      · exact .inr (by omega)
    · rcases y with y | y
      · exact .inl (by omega)
      · exact .inr y
  nw := fun k y x z => by
    cases hk : σ1 k with
    | some y1 =>
      have e := b.up.at' k y1 hk
      rw [z] at e; cases e
      exact a.nw k y x hk
    | none =>
      rcases b.nw k y hk z with q | ⟨k0, y0, q1, q2, q3, q4⟩
      · exact .inl (Nat.le_trans a.sz q)
      · cases hk0 : σ k0 with
        | none =>
          rcases a.nw k0 y0 hk0 q3 with r | ⟨k1, y1, r1, r2, r3, r4⟩
          · exact .inl (by omega)
          · exact .inr ⟨k1, y1, r1, r2, r3, r4.trans q4⟩
        | some y1 =>
          have e := a.up.at' k0 y1 hk0
          rw [q3] at e; cases e
          obtain ⟨bb, e1, e2⟩ := q2
          have hk1 := a.hr.wf k0 bb e1
          have hlt : k0 < h.nx := by
            rcases Nat.lt_or_ge k0 h.nx with r | r
            · exact r
            · rw [hf k0 r (Nat.lt_of_lt_of_le hk1 g.nx)] at hk0; cases hk0
          rcases q1 with q1 | q1
          · exact .inr ⟨k0, y0, q1, f.own k0 hlt ⟨bb, e1, e2⟩, hk0, q4⟩
          · omega
  nm := fun bb c e => by
      rcases b.nm bb c e with e | q | ⟨k0, y0, q1, q2, q3, q4⟩
      · exact a.nm bb c e
      · exact .inr (.inl (Nat.le_trans a.sz q))
      · cases hk0 : σ k0 with
        | none =>
          rcases a.nw k0 y0 hk0 q3 with r | ⟨k1, y1, r1, r2, r3, r4⟩
          · exact .inr (.inl (by omega))
          · exact .inr (.inr ⟨k1, y1, r1, r2, r3, r4.trans q4⟩)
        | some y1 =>
          have ee := a.up.at' k0 y1 hk0
          rw [q3] at ee; cases ee
          obtain ⟨bb, e1, e2⟩ := q2
          have hk1 := a.hr.wf k0 bb e1
          have hlt : k0 < h.nx := by
            rcases Nat.lt_or_ge k0 h.nx with r | r
            · exact r
            · rw [hf k0 r (Nat.lt_of_lt_of_le hk1 g.nx)] at hk0; cases hk0
          rcases q1 with q1 | q1
          · exact .inr (.inr ⟨k0, y0, q1, f.own k0 hlt ⟨bb, e1, e2⟩, hk0, q4⟩)
          · omega
  out := a.out.trans b.out
  sz := Nat.le_trans a.sz b.sz
  fr := fun bb hb hn => by
    rw [b.fr bb (Nat.lt_of_lt_of_le hb a.sz) ?_, a.fr bb hb hn]
    intro k y hd ho hk e
    subst e
    obtain ⟨bb, e1, e2⟩ := ho
    have hk1 := a.hr.wf k bb e1
    have none_case : σ k = none → False := fun hs => by
      rcases a.nw k y hs hk with r | ⟨k0, y0, r1, r2, r3, r4⟩
      · omega
      · exact hn k0 y0 r1 r2 r3 r4
    rcases Nat.lt_or_ge k h.nx with r | r
    · cases hs : σ k with
      | none => exact none_case hs
      | some y' =>
        have e := a.up.at' k y' hs
        rw [hk] at e; cases e
        rcases hd with hd | hd
        · exact hn k y hd (f.own k r ⟨bb, e1, e2⟩) hs rfl
        · omega
    · exact none_case (hf k r (Nat.lt_of_lt_of_le hk1 g.nx))
  hr := b.hr.mono fun k x => by
    have := f.nx
    have := g.nx
    rcases x with x | x
    · exact .inl (.inl x)
    · by_cases hh : k < h1.nx
      · exact .inl (.inr ⟨x.1, hh⟩)
      · exact .inr ⟨by omega, x.2⟩
end Go.Proofs.YtgjfdbbghefdbaaGreatDoor.Sx
namespace Go.Proofs.YtgjfdbbghefdbaaGreatDoor.Sx
def Emb.put (σ : Emb) (k : Nat) (y : Nat × Nat × Nat) : Emb := ⟨fun j => if j = k then some y else σ j, σ.mem⟩
theorem Emb.put_self (σ : Emb) (k : Nat) (y : Nat × Nat × Nat) : σ.put k y k = some y := by simp [Emb.put]
theorem Emb.put_ne (σ : Emb) {k j : Nat} (y : Nat × Nat × Nat) (h : j ≠ k) : σ.put k y j = σ j := by simp [Emb.put, h]
theorem Emb.le_put {σ : Emb} {k : Nat} (y : Nat × Nat × Nat) (h : σ k = none) : σ.le (σ.put k y) := ⟨fun j z e => by
  by_cases hj : j = k
  · subst hj; rw [h] at e; cases e
  · rw [Emb.put_ne _ _ hj]; exact e, fun _ _ x => x⟩
theorem alloc_old (w : World) (o : Obj) {b : Nat} (h : b < w.heap.size) : (w.alloc o).heap[b]? = w.heap[b]? := by
  show (w.heap.push o)[b]? = _
  rw [Array.getElem?_push, if_neg (Nat.ne_of_lt h)]
theorem alloc_new (w : World) (o : Obj) : (w.alloc o).heap[w.heap.size]? = some o := by
  show (w.heap.push o)[w.heap.size]? = _
  rw [Array.getElem?_push, if_pos rfl]
theorem alloc_size (w : World) (o : Obj) : (w.alloc o).heap.size = w.heap.size + 1 := Array.size_push ..
theorem tr_new {ρ : Cx} {B : Nat} {D : Nat → Prop} {σ : Emb} {h : SH} {w : World} (hr : HR ρ B D σ h w) (hf : σ h.nx = none) (hk : h.nx < 4000000) {b : TB} {o : Obj} {room : Nat}
    (hB : BR ρ B (σ.put h.nx (w.heap.size, 0, room)) (w.alloc o) h.nx b) : Tr ρ B D σ h w (σ.put h.nx (w.heap.size, 0, room)) (h.new b) (w.alloc o) where
  up := Emb.le_put _ hf
  no := fun k x y => by
    have : (h.new b).nx = h.nx + 1 := rfl
    rw [Emb.put_ne _ _ (by omega)]; exact x
  nm := fun b c e => .inl e
  nw := fun k y x z => by
    by_cases e : k = h.nx
    · subst e
      rw [Emb.put_self] at z; cases z
      exact .inl (Nat.le_refl _)
    · rw [Emb.put_ne _ _ e, x] at z; cases z
  out := ⟨rfl, rfl, rfl⟩
  sz := by rw [alloc_size]; omega
  fr := fun b hb _ => alloc_old w o hb
  hr := by
    have up := Emb.le_put (σ := σ) (k := h.nx) (w.heap.size, 0, room) hf
    have own_of : ∀ k, k ≠ h.nx → Own (h.new b) k → Own h k := fun k hk' ⟨b1, e1, e2⟩ => by
      rw [SH.get_new b hk, if_neg hk'] at e1
      exact ⟨b1, e1, e2⟩
    refine ⟨by rw [alloc_size]; have := hr.base; omega, fun k b1 e => ?_, fun k b1 hd e => ?_, fun k k' hd hd' ho ho' hne y y' hy hy' => ?_, fun bb c e => ?_, hr.tl⟩
    · have : (h.new b).nx = h.nx + 1 := rfl
      rw [SH.get_new b hk] at e
      by_cases ek : k = h.nx
      · omega
      · rw [if_neg ek] at e
        have := hr.wf k b1 e
        omega
    · rw [SH.get_new b hk] at e
      by_cases ek : k = h.nx
      · subst ek
        rw [if_pos rfl] at e
        cases e
        exact hB
      · rw [if_neg ek] at e
        have hd' : D k := hd.resolve_right fun x => by
          have : (h.new b).nx = h.nx + 1 := rfl
          omega
        exact BR_mono (hr.blk k b1 hd' e) up fun y _ hy => alloc_old w o hy
    · have dd : ∀ k, k ≠ h.nx → (D k ∨ (h.nx ≤ k ∧ k < (h.new b).nx)) → D k := fun k hk' x => x.resolve_right fun x => by
        have : (h.new b).nx = h.nx + 1 := rfl
        omega
      have old : ∀ k y, k ≠ h.nx → D k → Own h k → σ.put h.nx (w.heap.size, 0, room) k = some y → y.1 < w.heap.size := fun k y hk' hdk ⟨b1, e1, e2⟩ hy => by
        obtain ⟨z, z1, z2, _⟩ := BR_block (hr.blk k b1 hdk e1) e2
        rw [Emb.put_ne _ _ hk', z1] at hy; cases hy; exact z2
      by_cases ek : k = h.nx
      · subst ek
        rw [Emb.put_self] at hy; cases hy
        have := old k' y' (Ne.symm hne) (dd k' (Ne.symm hne) hd') (own_of k' (Ne.symm hne) ho') hy'
        exact Nat.ne_of_gt this
      · by_cases ek' : k' = h.nx
        · subst ek'
          rw [Emb.put_self] at hy'; cases hy'
          exact Nat.ne_of_lt (old k y ek (dd k ek hd) (own_of k ek ho) hy)
        · rw [Emb.put_ne _ _ ek] at hy
          rw [Emb.put_ne _ _ ek'] at hy'
          exact hr.inj k k' (dd k ek hd) (dd k' ek' hd') (own_of k ek ho) (own_of k' ek' ho') hne y y' hy hy'
    · obtain ⟨⟨ty, fz, e1⟩, e2⟩ := hr.mem bb c e
      have hlt := (Array.getElem?_eq_some_iff.1 e1).1
      refine ⟨⟨ty, fz, (alloc_old w o hlt).trans e1⟩, fun k y hd ho hy => ?_⟩
      by_cases ek : k = h.nx
      · subst ek
        rw [Emb.put_self] at hy; cases hy
        exact Nat.ne_of_gt hlt
      · rw [Emb.put_ne _ _ ek] at hy
        exact e2 k y (hd.resolve_right fun x => by
          have : (h.new b).nx = h.nx + 1 := rfl
          omega) (own_of k ek ho) hy
theorem tr_wrt {ρ : Cx} {B : Nat} {D : Nat → Prop} {σ : Emb} {h : SH} {w w' : World} (hr : HR ρ B D σ h w) {k : Nat} {b0 b : TB} {y : Nat × Nat × Nat} (hd : D k) (h0 : h.get k = some b0) (ho : b0.own) (hk : k < 4000000)
    (hy : σ k = some y) (hou : Out w w') (hs : w'.heap.size = w.heap.size) (hw : ∀ j, j ≠ y.1 → w'.heap[j]? = w.heap[j]?) (hb : BR ρ B σ w' k b) : Tr ρ B D σ h w σ (h.wrt k b) w' where
  up := Emb.le.refl _
  no := fun _ x _ => x
  nw := fun k y x z => by rw [x] at z; cases z
  nm := fun b c e => .inl e
  out := hou
  sz := Nat.le_of_eq hs.symm
  fr := fun j _ hn => hw j fun e => hn k y hd ⟨b0, h0, ho⟩ hy e.symm
  hr := by
    have own_of : ∀ j, Own (h.wrt k b) j → Own h j := fun j ⟨b1, e1, e2⟩ => by
      rw [SH.get_wrt b hk] at e1
      by_cases e : j = k
      · subst e; exact ⟨b0, h0, ho⟩
      · rw [if_neg e] at e1; exact ⟨b1, e1, e2⟩
    have dd : ∀ j, (D j ∨ (h.nx ≤ j ∧ j < (h.wrt k b).nx)) → D j := fun j x => x.resolve_right fun x => absurd x.2 (Nat.not_lt.2 x.1)
    refine ⟨by rw [hs]; exact hr.base, fun j b1 e => ?_, fun j b1 hdj e => ?_, fun j j' hdj hdj' hoj hoj' => hr.inj j j' (dd j hdj) (dd j' hdj') (own_of j hoj) (own_of j' hoj'), fun bb c e => ?_, hr.tl⟩
    · rw [SH.get_wrt b hk] at e
      by_cases ek : j = k
      · subst ek; exact hr.wf _ b0 h0
      · rw [if_neg ek] at e; exact hr.wf j b1 e
    · rw [SH.get_wrt b hk] at e
      by_cases ek : j = k
      · subst ek
        rw [if_pos rfl] at e
        cases e
        exact hb
      · rw [if_neg ek] at e
        have hB1 := hr.blk j b1 (dd j hdj) e
        obtain ⟨y0, hy0, _, hyB⟩ := BR_block (hr.blk k b0 hd h0) ho
        rw [hy] at hy0; cases hy0
        by_cases hob : b1.own
        · refine BR_mono hB1 (Emb.le.refl _) fun z hz _ => hw _ ?_
          exact hr.inj j k (dd j hdj) hd ⟨b1, e, hob⟩ ⟨b0, h0, ho⟩ ek z y hz hy
        · cases b1 with
          | cells l ty ro =>
            refine BR_mono hB1 (Emb.le.refl _) fun z hz _ => hw _ ?_
            obtain ⟨y1, c, fz, g1, _, _, g3, _⟩ := hB1
            rw [hz] at g1; cases g1
            have hro : ro = true := by cases ro with | true => rfl | false => exact absurd rfl hob
            have := g3 hro
            omega
          | dead => trivial
          | mp es clock => exact absurd trivial hob
          | lp n ps as bd e st pd => exact absurd trivial hob
          | df => exact absurd trivial hob
          | it l pos => exact absurd trivial hob
          | bd l ty => exact absurd trivial hob
    · obtain ⟨⟨ty, fz, e1⟩, e2⟩ := hr.mem bb c e
      have hne := e2 k y hd ⟨b0, h0, ho⟩ hy
      exact ⟨⟨ty, fz, (hw bb (Ne.symm hne)).trans e1⟩, fun j z hdj hoj hz => e2 j z (dd j hdj) (own_of j hoj) hz⟩
theorem tr_move {ρ : Cx} {B : Nat} {D : Nat → Prop} {σ : Emb} {h : SH} {w w' : World} (hr : HR ρ B D σ h w) {k : Nat} {b0 b : TB} {y z : Nat × Nat × Nat} (hd : D k) (h0 : h.get k = some b0) (ho : b0.own) (hk : k < 4000000)
    (hy : σ k = some y) (hf : σ h.nx = none) (hn : h.nx < 4000000) (hou : Out w w') (hs : w'.heap.size = w.heap.size) (hw : ∀ j, j ≠ y.1 → w'.heap[j]? = w.heap[j]?) (hz : z.1 = y.1)
    (hb : BR ρ B (σ.put h.nx z) w' h.nx b) : Tr ρ B D σ h w (σ.put h.nx z) ((h.wrt k .dead).new b) w' where
  up := Emb.le_put _ hf
  no := fun j x y => by
    have : ((h.wrt k .dead).new b).nx = h.nx + 1 := rfl
    rw [Emb.put_ne _ _ (by omega)]; exact x
  nm := fun b c e => .inl e
  nw := fun j u x v => by
    by_cases e : j = h.nx
    · subst e
      rw [Emb.put_self] at v; cases v
      exact .inr ⟨k, y, hd, ⟨b0, h0, ho⟩, hy, hz.symm⟩
    · rw [Emb.put_ne _ _ e, x] at v; cases v
  out := hou
  sz := Nat.le_of_eq hs.symm
  fr := fun j _ hn => hw j fun e => hn k y hd ⟨b0, h0, ho⟩ hy e.symm
  hr := by
    have up := Emb.le_put (σ := σ) (k := h.nx) z hf
    have hkn : k < h.nx := hr.wf k b0 h0
    have hnx : ((h.wrt k .dead).new b).nx = h.nx + 1 := rfl
    have gget : ∀ j, ((h.wrt k .dead).new b).get j = if j = h.nx then some b else if j = k then some .dead else h.get j := fun j => by
      rw [SH.get_new b (show (h.wrt k .dead).nx < 4000000 from hn), SH.get_wrt .dead hk]; rfl
    have own_of : ∀ j, j ≠ h.nx → Own ((h.wrt k .dead).new b) j → Own h j ∧ j ≠ k := fun j hj ⟨b1, e1, e2⟩ => by
      rw [gget, if_neg hj] at e1
      by_cases e : j = k
      · rw [if_pos e] at e1; cases e1; exact e2.elim
      · rw [if_neg e] at e1; exact ⟨⟨b1, e1, e2⟩, e⟩
    have dd : ∀ j, j ≠ h.nx → (D j ∨ (h.nx ≤ j ∧ j < ((h.wrt k .dead).new b).nx)) → D j := fun j hj x => x.resolve_right fun x => by omega
    refine ⟨by rw [hs]; exact hr.base, fun j b1 e => ?_, fun j b1 hdj e => ?_, fun j j' hdj hdj' hoj hoj' hne u u' hu hu' => ?_, fun bb c e => ?_, hr.tl⟩
    · rw [gget] at e
      by_cases e1 : j = h.nx
      · omega
      · rw [if_neg e1] at e
        by_cases e2 : j = k
        · omega
        · rw [if_neg e2] at e
          have := hr.wf j b1 e
          omega
    · rw [gget] at e
      by_cases e1 : j = h.nx
      · subst e1
        rw [if_pos rfl] at e; cases e
        exact hb
      · rw [if_neg e1] at e
        by_cases e2 : j = k
        · rw [if_pos e2] at e; cases e; trivial
        · rw [if_neg e2] at e
          have hB1 := hr.blk j b1 (dd j e1 hdj) e
          obtain ⟨y0, hy0, _, hyB⟩ := BR_block (hr.blk k b0 hd h0) ho
          rw [hy] at hy0; cases hy0
          by_cases hob : b1.own
          · refine BR_mono hB1 up fun z hz _ => hw _ ?_
            exact hr.inj j k (dd j e1 hdj) hd ⟨b1, e, hob⟩ ⟨b0, h0, ho⟩ e2 z y hz hy
          · cases b1 with
            | cells l ty ro =>
              refine BR_mono hB1 up fun z hz _ => hw _ ?_
              obtain ⟨y1, c, fz, g1, _, _, g3, _⟩ := hB1
              rw [hz] at g1; cases g1
              have hro : ro = true := by cases ro with | true => rfl | false => exact absurd rfl hob
              have := g3 hro
              omega
            | dead => trivial
            | mp es clock => exact absurd trivial hob
            | lp n ps as bd e st pd => exact absurd trivial hob
            | df => exact absurd trivial hob
            | it l pos => exact absurd trivial hob
            | bd l ty => exact absurd trivial hob
    · by_cases e1 : j = h.nx
      · subst e1
        rw [Emb.put_self] at hu; cases hu
        obtain ⟨oo, ok⟩ := own_of j' (Ne.symm hne) hoj'
        rw [Emb.put_ne _ _ (Ne.symm hne)] at hu'
        rw [hz]
        exact hr.inj k j' hd (dd j' (Ne.symm hne) hdj') ⟨b0, h0, ho⟩ oo (Ne.symm ok) y u' hy hu'
      · by_cases e2 : j' = h.nx
        · subst e2
          rw [Emb.put_self] at hu'; cases hu'
          obtain ⟨oo, ok⟩ := own_of j e1 hoj
          rw [Emb.put_ne _ _ e1] at hu
          rw [hz]
          exact hr.inj j k (dd j e1 hdj) hd oo ⟨b0, h0, ho⟩ ok u y hu hy
        · rw [Emb.put_ne _ _ e1] at hu
          rw [Emb.put_ne _ _ e2] at hu'
          exact hr.inj j j' (dd j e1 hdj) (dd j' e2 hdj') (own_of j e1 hoj).1 (own_of j' e2 hoj').1 hne u u' hu hu'
    · obtain ⟨⟨ty, fz, f1⟩, f2⟩ := hr.mem bb c e
      have hne := f2 k y hd ⟨b0, h0, ho⟩ hy
      refine ⟨⟨ty, fz, (hw bb (Ne.symm hne)).trans f1⟩, fun j u hdj hoj hu => ?_⟩
      by_cases e1 : j = h.nx
      · subst e1
        rw [Emb.put_self] at hu; cases hu
        rw [hz]; exact hne
      · rw [Emb.put_ne _ _ e1] at hu
        exact f2 j u (dd j e1 hdj) (own_of j e1 hoj).1 hu
-- What loads and stores of rows of cells come to.
theorem addr_add (b o n : Nat) : (⟨b, o, none⟩ : Addr).add n = ⟨b, o + n, none⟩ := by
  unfold Addr.add
  by_cases h : n = 0
  · subst h; simp
  · rw [if_neg h]
theorem cell_at {w : World} {b : Nat} {c : Array Value} {ty : Nat} {fz : Nat × Nat} (hb : w.heap[b]? = some (.cells c ty fz)) (o : Nat) : w.cell? ⟨b, o, none⟩ = c[o]? := by
  simp [World.cell?, hb]
theorem run_load {P : Program} {w : World} {a : Addr} {v : Value} (h : w.cell? a = some v) : (load a).run P w = .ok v w := by
  simp [load, Sem.run, h]
theorem run_bind {α β : Type} {P : Program} (s : Sem α) (f : α → Sem β) (w : World) : (s >>= f).run P w = match s.run P w with
    | .ok x w' => (f x).run P w'
    | .halt h w' => .halt h w' := by
  show (s.bind f).run P w = _
  induction s generalizing w with
  | pure a => rfl
  | load m a k ih => simp only [Sem.bind, Sem.run]; split <;> first | exact ih _ _ | (split <;> first | exact ih _ _ | rfl)
  | store m a v k ih => cases v <;> simp only [Sem.bind, Sem.run] <;> first | rfl | (split <;> first | (split <;> first | rfl | exact ih _) | (split <;> first | exact ih _ | rfl))
  | new o k ih => exact ih _ _
  | shape r k ih => exact ih _ _
  | freeze a n k ih => exact ih _
  | frozen a k ih => exact ih _ _
  | getObj r k ih => simp only [Sem.bind, Sem.run]; split <;> first | rfl | exact ih _ _
  | setObj r o k ih => simp only [Sem.bind, Sem.run]; split <;> first | rfl | exact ih _
  | choose q k ih => simp only [Sem.bind, Sem.run]; split <;> exact ih _ _
  | sys c k ih => exact ih _ _
  | program k ih => exact ih _ _
  | mark m k ih => exact ih _
  | halt h => rfl
theorem run_pure {α : Type} {P : Program} (x : α) (w : World) : (pure x : Sem α).run P w = .ok x w := rfl
theorem run_loadFrom {P : Program} {w : World} {b o : Nat} {c : Array Value} {ty : Nat} {fz : Nat × Nat} (hb : w.heap[b]? = some (.cells c ty fz)) : ∀ (n i : Nat) (acc : Array Value), o + i + n ≤ c.size →
    (loadCellsFrom ⟨b, o, none⟩ i n acc).run P w = .ok (acc ++ c.extract (o + i) (o + i + n)) w := by
  intro n
  induction n with
  | zero => intro i acc _; simp [loadCellsFrom]; exact Nat.min_le_left ..
  | succ n ih =>
    intro i acc h
    have hc : w.cell? ((⟨b, o, none⟩ : Addr).add i) = some c[o + i] := by
      rw [addr_add, cell_at hb]; exact Array.getElem?_eq_getElem (by omega)
    unfold loadCellsFrom
    rw [run_bind, run_load hc]
    simp only []
    rw [ih (i + 1) _ (by omega)]
    congr 1
    rw [show o + i + (n + 1) = o + (i + 1) + n from by omega]
    apply Array.ext'
    simp only [Array.toList_append, Array.toList_push, Array.toList_extract, List.append_assoc]
    congr 1
    simp only [List.extract_eq_take_drop]
    rw [show o + (i + 1) + n - (o + i) = n + 1 from by omega, show o + (i + 1) + n - (o + (i + 1)) = n from by omega]
    rw [show List.drop (o + i) c.toList = c[o + i] :: List.drop (o + (i + 1)) c.toList from by
      rw [List.drop_eq_getElem_cons (by simpa using (show o + i < c.size by omega))]; simp [Nat.add_assoc]]
    simp
theorem run_loadCells {P : Program} {w : World} {b o n : Nat} {c : Array Value} {ty : Nat} {fz : Nat × Nat} (hb : w.heap[b]? = some (.cells c ty fz)) (hn : o + n ≤ c.size) :
    (loadCells ⟨b, o, none⟩ n).run P w = .ok (c.extract o (o + n)) w := by
  unfold loadCells
  rw [run_loadFrom hb n 0 #[] (by omega)]
  simp
def putRow (c : Array Value) (o : Nat) : List Value → Array Value
  | [] => c
  | v :: r => putRow (c.setIfInBounds o v) (o + 1) r
theorem putRow_size : ∀ (vs : List Value) (c : Array Value) (o : Nat), (putRow c o vs).size = c.size
  | [], _, _ => rfl
  | v :: r, c, o => by rw [putRow, putRow_size r]; simp
theorem putRow_get : ∀ (vs : List Value) (c : Array Value) (o j : Nat), o + vs.length ≤ c.size → (putRow c o vs)[j]? = if o ≤ j ∧ j < o + vs.length then vs[j - o]? else c[j]?
  | [], c, o, j, _ => by rw [putRow, if_neg (by simp)]
  | v :: r, c, o, j, h => by
    simp only [List.length_cons] at h
    rw [putRow, putRow_get r _ _ _ (by simp; omega)]
    by_cases h1 : o + 1 ≤ j ∧ j < o + 1 + r.length
    · rw [if_pos h1, if_pos (by simp only [List.length_cons]; omega), show j - o = (j - (o + 1)) + 1 from by omega]
      simp
    · rw [if_neg h1]
      by_cases h2 : j = o
      · subst h2
        rw [if_pos (by simp only [List.length_cons]; omega)]
        simp [show j < c.size from by omega]
      · rw [if_neg (by simp only [List.length_cons]; omega), Array.getElem?_setIfInBounds_ne (Ne.symm h2)]
theorem setCell_at {w : World} {b o : Nat} {c : Array Value} {ty : Nat} {fz : Nat × Nat} (hb : w.heap[b]? = some (.cells c ty fz)) (v : Value) :
    Out w (w.setCell ⟨b, o, none⟩ v) ∧ (w.setCell ⟨b, o, none⟩ v).heap.size = w.heap.size ∧ (∀ j, j ≠ b → (w.setCell ⟨b, o, none⟩ v).heap[j]? = w.heap[j]?) ∧ (w.setCell ⟨b, o, none⟩ v).heap[b]? = some (.cells (c.setIfInBounds o v) ty fz) := by
  unfold World.setCell
  refine ⟨⟨rfl, rfl, rfl⟩, by simp, fun j hj => ?_, ?_⟩
  · simp only [Array.getElem?_modify]
    rw [if_neg (Ne.symm hj)]
  · simp [Array.getElem?_modify, hb]
theorem run_store {P : Program} {w : World} {b o : Nat} {c : Array Value} {ty : Nat} (hb : w.heap[b]? = some (.cells c ty (0, 0))) {v : Value} (hv : scalV v) (ho : o < c.size) :
    (store ⟨b, o, none⟩ v).run P w = .ok () (w.setCell ⟨b, o, none⟩ v) := by
  have hc : w.cell? ⟨b, o, none⟩ = some c[o] := by rw [cell_at hb]; exact Array.getElem?_eq_getElem ho
  have hf : w.frozen? ⟨b, o, none⟩ = false := by simp [World.frozen?, hb]
  cases v <;> first | exact hv.elim | simp [store, Sem.run, hc, hf]
theorem run_storeCells {P : Program} {b o ty : Nat} : ∀ (vs : List Value) (i : Nat) (w : World) (c : Array Value), w.heap[b]? = some (.cells c ty (0, 0)) → (∀ v, v ∈ vs → scalV v) → o + i + vs.length ≤ c.size →
    ∃ w', (storeCells ⟨b, o, none⟩ vs i).run P w = .ok () w' ∧ Out w w' ∧ w'.heap.size = w.heap.size ∧ (∀ j, j ≠ b → w'.heap[j]? = w.heap[j]?) ∧ w'.heap[b]? = some (.cells (putRow c (o + i) vs) ty (0, 0))
  | [], i, w, c, hb, _, _ => ⟨w, rfl, Out.refl w, rfl, fun _ _ => rfl, hb⟩
  | v :: r, i, w, c, hb, hs, hl => by
    simp only [List.length_cons] at hl
    obtain ⟨s0, s1, s2, s3⟩ := setCell_at (o := o + i) hb v
    obtain ⟨w', e1, e0, e2, e3, e4⟩ := run_storeCells (P := P) (b := b) (o := o) (ty := ty) r (i + 1) (w.setCell ⟨b, o + i, none⟩ v) _ s3 (fun v hv => hs v (List.mem_cons_of_mem _ hv)) (by simp; omega)
    refine ⟨w', ?_, s0.trans e0, e2.trans s1, fun j hj => (e3 j hj).trans (s2 j hj), ?_⟩
    · unfold storeCells
      rw [run_bind, addr_add, run_store hb (hs v (List.mem_cons_self ..)) (by omega)]
      exact e1
    · rw [e4]; rfl
end Go.Proofs.YtgjfdbbghefdbaaGreatDoor.Sx
namespace Go.Proofs.YtgjfdbbghefdbaaGreatDoor.Sx
theorem blt_lt' {a b : Nat} (h : Nat.blt a b = true) : a < b := Nat.le_of_ble_eq_true h
theorem cond_none {α : Type} {c : Bool} {x : Option α} {r : α} (h : cond c x none = some r) : c = true ∧ x = some r := by
  cases c with
  | true => exact ⟨rfl, h⟩
  | false => cases h
theorem tf_load {agg : Bool} {n k off : Nat} {h h' : SH} {v : TV} (hx : loadAt agg n k off h = some (v, h')) : TF h h' := by
  unfold loadAt at hx
  split at hx
  · obtain ⟨_, hx⟩ := cond_none hx
    split at hx
    · cases hx; exact TF.see _ _
    · cases hx
  · cases hx
theorem tf_store {n k off : Nat} {h h' : SH} {v : TV} (hx : storeAt n k off v h = some h') : TF h h' := by
  unfold storeAt at hx
  split at hx
  · rename_i l mk e1
    obtain ⟨_, hx⟩ := cond_none hx
    obtain ⟨_, hx⟩ := cond_none hx
    obtain ⟨_, hx⟩ := cond_none hx
    obtain ⟨c4, hx⟩ := cond_none hx
    cases hx
    unfold ownRow at e1
    split at e1
    · rename_i e2; cases e1; exact TF.wrt (blt_lt' c4) e2 fun _ => rfl
    · rename_i e2; cases e1; exact TF.wrt (blt_lt' c4) e2 fun _ => trivial
    · cases e1
  · cases hx
theorem tf_src {esz n : Nat} {h h1 : SH} {x : TV} {new : List TV} (hx : srcOf esz x h = some (new, n, h1)) : TF h h1 ∧ h1.nx = h.nx ∧ h1.tr = h.tr ∧ (n = 0 → new = []) := by
  unfold srcOf at hx
  split at hx
  · cases hx; exact ⟨TF.refl _, rfl, rfl, fun _ => rfl⟩
  · rename_i l; cases hx; exact ⟨TF.refl _, rfl, rfl, fun e => by cases l with | nil => rfl | cons a b => cases e⟩
  · obtain ⟨_, hx⟩ := cond_none hx
    split at hx
    · obtain ⟨_, hx⟩ := cond_none hx
      cases hx; exact ⟨TF.see _ _, rfl, rfl, fun e => by subst e; simp⟩
    · cases hx
  · cases hx; exact ⟨TF.refl _, rfl, rfl, fun _ => rfl⟩
  · cases hx
theorem tf_newSl {ty esz len : Nat} {cells : List TV} {rest : Bool} {h h' : SH} {v : TV} (hx : newSl ty esz len cells rest h = some (v, h')) : TF h h' ∧ h.room = true ∧ v = .sl h.nx 0 esz len len rest ∧ h' = h.new (.cells cells ty false) := by
  unfold newSl at hx
  obtain ⟨c, hx⟩ := cond_none hx
  cases hx
  exact ⟨TF.new (blt_lt' c), c, rfl, rfl⟩
theorem tf_appendRow {ty esz n : Nat} {s v : TV} {new : List TV} {h h' : SH} (hx : appendRow ty esz s new n h = some (v, h')) : TF h h' := by
  unfold appendRow at hx
  cases cn : Nat.beq n 0 with
  | true =>
    rw [cn] at hx
    simp only [cond_true] at hx
    split at hx <;> cases hx <;> exact TF.refl _
  | false =>
    rw [cn] at hx
    simp only [cond_false] at hx
    obtain ⟨_, hx⟩ := cond_none hx
    split at hx
    · exact (tf_newSl hx).1
    · rename_i k off sz len cap rest _
      obtain ⟨_, hx⟩ := cond_none hx
      obtain ⟨_, hx⟩ := cond_none hx
      split at hx
      · rename_i l bty ro e2
        obtain ⟨_, hx⟩ := cond_none hx
        cases cf : Nat.ble (len + n) cap with
        | true =>
          rw [cf] at hx
          simp only [cond_true] at hx
          cases ro with
          | true => cases hx
          | false =>
            simp only [cond_false] at hx
            obtain ⟨c4, hx⟩ := cond_none hx
            cases hx
            exact TF.wrt (blt_lt' c4) e2 fun _ => rfl
        | false =>
          rw [cf] at hx
          simp only [cond_false] at hx
          split at hx
          · exact (TF.see _ _).trans (tf_newSl hx).1
          · cases ro with
            | true => cases hx
            | false =>
              simp only [cond_false] at hx
              obtain ⟨_, hx⟩ := cond_none hx
              obtain ⟨c4, hx⟩ := cond_none hx
              exact (TF.wrt (blt_lt' c4) e2 (fun (x : TB.own .dead) => False.elim x)).trans (tf_newSl hx).1
      · cases hx
    · cases hx
theorem tf_append {ty esz : Nat} {s x v : TV} {h h' : SH} (hx : appendTo ty esz s x h = some (v, h')) : TF h h' := by
  unfold appendTo at hx
  split at hx
  · cases hx
  · rename_i e1
    exact (tf_src e1).1.trans (tf_appendRow hx)
theorem tf_xo {o : XO} {e : Trie TV} {h h' : SH} {v : TV} (hx : xo o e h = some (v, h')) : TF h h' := by
  cases o <;> simp only [xo] at hx
  case ld agg n a => split at hx; exact tf_load hx; cases hx
  case st n a x =>
    split at hx
    · split at hx
      · rename_i e1; cases hx; exact tf_store e1
      · cases hx
    · cases hx
  case len kind x =>
    unfold lenOfTV at hx
    repeat' (split at hx)
    all_goals first | (cases hx; done) | (cases hx; exact TF.refl _) | (cases hx; exact TF.see _ _)
  case app => exact tf_append hx
  case cvb =>
    split at hx
    · cases hx; exact TF.refl _
    · split at hx
      · rename_i e1
        split at hx
        · cases hx
          unfold srcOf at e1
          obtain ⟨_, e1⟩ := cond_none e1
          split at e1
          · obtain ⟨_, e1⟩ := cond_none e1
            cases e1
            exact TF.see _ _
          · cases e1
        · cases hx
      · cases hx
    · cases hx
  case box ty n x =>
    obtain ⟨_, hx⟩ := cond_none hx
    obtain ⟨_, hx⟩ := cond_none hx
    obtain ⟨c, hx⟩ := cond_none hx
    cases hx; exact TF.new (blt_lt' c)
  case bls =>
    split at hx
    · exact (tf_newSl hx).1
    · cases hx
  case mkm =>
    obtain ⟨c, hx⟩ := cond_none hx
    cases hx; exact TF.new (blt_lt' c)
  case mks =>
    split at hx
    · obtain ⟨_, hx⟩ := cond_none hx
      obtain ⟨_, hx⟩ := cond_none hx
      obtain ⟨c, hx⟩ := cond_none hx
      cases hx; exact TF.new (blt_lt' c)
    · cases hx
  case ins str m k v =>
    split at hx
    · split at hx
      · rename_i e1
        split at hx
        · obtain ⟨c, hx⟩ := cond_none hx
          cases hx; exact TF.wrt (blt_lt' c) e1 fun _ => trivial
        · obtain ⟨c, hx⟩ := cond_none hx
          cases hx; exact TF.wrt (blt_lt' c) e1 fun _ => trivial
        · cases hx
      · cases hx
    · cases hx
  case del str m k =>
    split at hx
    · split at hx
      · rename_i e1
        split at hx
        · obtain ⟨c, hx⟩ := cond_none hx
          cases hx; exact TF.wrt (blt_lt' c) e1 fun _ => trivial
        · cases hx; exact TF.see _ _
        · cases hx
      · cases hx
    · cases hx
  case boxB ty n x =>
    obtain ⟨_, hx⟩ := cond_none hx
    obtain ⟨_, hx⟩ := cond_none hx
    obtain ⟨c, hx⟩ := cond_none hx
    cases hx; exact TF.new (blt_lt' c)
  case rgS x =>
    split at hx
    · obtain ⟨c, hx⟩ := cond_none hx
      cases hx; exact TF.new (blt_lt' c)
    · cases hx
  case nxS x =>
    split at hx
    · obtain ⟨_, hx⟩ := cond_none hx
      split at hx
      · rename_i e1
        split at hx
        · obtain ⟨_, hx⟩ := cond_none hx
          obtain ⟨c, hx⟩ := cond_none hx
          cases hx; exact TF.wrt (blt_lt' c) e1 fun _ => trivial
        · cases hx; exact TF.see _ _
      · cases hx
    · cases hx
  all_goals
    (try simp only [cond_eq_ite] at hx)
    repeat' (split at hx)
    all_goals first | (cases hx; done) | (cases hx; exact TF.refl _) | (cases hx; exact TF.see _ _)
end Go.Proofs.YtgjfdbbghefdbaaGreatDoor.Sx
