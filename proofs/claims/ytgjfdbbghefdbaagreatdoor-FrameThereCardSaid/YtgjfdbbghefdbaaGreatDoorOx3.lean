/-
  One operation each, and any operation.
-/
import Derived.Test.YtgjfdbbghefdbaaGreatDoorOx2
import Derived.Laws.BytesString
import Derived.WideKeyRuns
import Derived.Laws.MakeOwn
import Derived.MapKept
namespace Go.Proofs.YtgjfdbbghefdbaaGreatDoor.Sx
section
variable {P : Program} {ρ : Cx} {B : Nat} {D : Nat → Prop} {σ : Emb} {h h' : SH} {w : World} {v : TV} (hρ : ∀ j, scalV (ρ j)) (hr : HR ρ B D σ h w) {e : Trie TV} {a : Act} (he : EnvR ρ σ e a.tmps) (hg : GlobR P σ)
  (hf : Free σ h.nx h'.nx) (hd : Hand D h h')
include hr he hg
theorem ok_bop {op : BinOp} {t u : TypeId} {x y : Operand} {x' y' : Opd} (h1 : cOpd P x = some x') (h2 : cOpd P y = some y') (hx : xo (.bop op x' y') e h = some (v, h')) : OpOk P ρ B D σ h w a v h' (.binOp op t x y u) := by
  intro dst type pos after guard
  simp only [xo] at hx
  split at hx
  · rename_i r e1
    cases hx
    obtain ⟨z, f1, f2⟩ := bop_run (P := P) (w := w) e1 (opd_ok he hg h1) (opd_ok he hg h2) t x y
    refine yl_pure hr rfl rfl f2 ?_
    simp only [execOp]
    exact run_val f1
  · cases hx
omit hr he hg in
theorem binOp_eql {xt : TypeId} {a b : Value} (h1 : ∀ k n, a ≠ .int k n) (h2 : ∀ k n, a ≠ .float k n) (h3 : ∀ k n m, a ≠ .complex k n m) (h4 : ∀ s, a ≠ .string s) : binOp .eql xt a b = (do pure (.bool (← Op.equal xt a b))) := by
  cases a <;> first | exact absurd rfl (h1 _ _) | exact absurd rfl (h2 _ _) | exact absurd rfl (h3 _ _ _) | exact absurd rfl (h4 _) | rfl
omit hr he hg in
theorem binOp_neq {xt : TypeId} {a b : Value} (h1 : ∀ k n, a ≠ .int k n) (h2 : ∀ k n, a ≠ .float k n) (h3 : ∀ k n m, a ≠ .complex k n m) (h4 : ∀ s, a ≠ .string s) : binOp .neq xt a b = (do pure (.bool (!(← Op.equal xt a b)))) := by
  cases a <;> first | exact absurd rfl (h1 _ _) | exact absurd rfl (h2 _ _) | exact absurd rfl (h3 _ _ _) | exact absurd rfl (h4 _) | rfl
theorem ok_eq {t u : TypeId} {d : TypeDesc} {kind : Nat} (hd : P.underlying t = some d) (hn : nilD d = some kind) {x y : Operand} {x' y' : Opd} (h1 : cOpd P x = some x') (h2 : cOpd P y = some y') :
    (xo (.eq kind false (constNil x || constNil y) x' y') e h = some (v, h') → OpOk P ρ B D σ h w a v h' (.binOp .eql t x y u)) ∧ (xo (.eq kind true (constNil x || constNil y) x' y') e h = some (v, h') → OpOk P ρ B D σ h w a v h' (.binOp .neq t x y u)) := by
  constructor
  · intro hx dst type pos after guard
    simp only [xo] at hx
    split at hx
    · rename_i r e1
      cases hx
      obtain ⟨f1, f2, f3, f4, f5, f6⟩ := eqTV_run (P := P) (w := w) e1 (opd_ok he hg h1) (opd_ok he hg h2) hd hn x y rfl .eql
      refine yl_pure hr rfl rfl (x := .bool r) rfl ?_
      simp only [execOp]
      refine run_val ?_
      rw [run_bind, f1]
      simp only [binOp_eql f3 f4 f5 f6]
      rw [run_bind, f2]
      rfl
    · cases hx
  · intro hx dst type pos after guard
    simp only [xo] at hx
    split at hx
    · rename_i r e1
      cases hx
      obtain ⟨f1, f2, f3, f4, f5, f6⟩ := eqTV_run (P := P) (w := w) e1 (opd_ok he hg h1) (opd_ok he hg h2) hd hn x y rfl .neq
      refine yl_pure hr rfl rfl (x := .bool !r) (by cases r <;> rfl) ?_
      simp only [execOp]
      refine run_val ?_
      rw [run_bind, f1]
      simp only [binOp_neq f3 f4 f5 f6]
      rw [run_bind, f2]
      rfl
    · cases hx
theorem ok_beq {t u : TypeId} (hd : P.underlying t = some .bool) {x y : Operand} {x' y' : Opd} (h1 : cOpd P x = some x') (h2 : cOpd P y = some y') :
    (xo (.beq false x' y') e h = some (v, h') → OpOk P ρ B D σ h w a v h' (.binOp .eql t x y u)) ∧ (xo (.beq true x' y') e h = some (v, h') → OpOk P ρ B D σ h w a v h' (.binOp .neq t x y u)) := by
  have g1 := opd_ok he hg h1
  have g2 := opd_ok he hg h2
  constructor
  · intro hx dst type pos after guard
    simp only [xo] at hx
    split at hx
    · rename_i p q e1 e2
      cases hx
      rw [e1] at g1; rw [e2] at g2
      refine yl_pure hr rfl rfl (x := .bool (p == q)) (by cases p <;> cases q <;> rfl) ?_
      simp only [execOp]
      rw [show a.eval x = _ from g1, show a.eval y = _ from g2]
      refine run_val ?_
      rw [run_bind]
      show (binOp .eql t (.bool p) (.bool q)).run P w = _
      rw [binOp_eql (by simp) (by simp) (by simp) (by simp), run_bind, run_eqBool hd]
      rfl
    · cases hx
  · intro hx dst type pos after guard
    simp only [xo] at hx
    split at hx
    · rename_i p q e1 e2
      cases hx
      rw [e1] at g1; rw [e2] at g2
      refine yl_pure hr rfl rfl (x := .bool !(p == q)) (by cases p <;> cases q <;> rfl) ?_
      simp only [execOp]
      rw [show a.eval x = _ from g1, show a.eval y = _ from g2]
      refine run_val ?_
      rw [run_bind]
      show (binOp .neq t (.bool p) (.bool q)).run P w = _
      rw [binOp_neq (by simp) (by simp) (by simp) (by simp), run_bind, run_eqBool hd]
      rfl
    · cases hx
theorem ok_un {op : UnOp} {t : TypeId} {x : Operand} {x' : Opd} (h1 : cOpd P x = some x') (hx : xo (.un op x') e h = some (v, h')) : OpOk P ρ B D σ h w a v h' (.unOp op t x) := by
  intro dst type pos after guard
  have g1 := opd_ok he hg h1
  simp only [xo] at hx
  split at hx
  · rename_i r e1
    cases hx
    rw [e1] at g1
    refine yl_pure hr rfl rfl (x := .bool !r) (by cases r <;> rfl) ?_
    simp only [execOp]
    rw [show a.eval x = _ from g1]
    exact run_val rfl
  · rename_i k n e1
    cases hx
    rw [e1] at g1
    refine yl_pure hr rfl rfl (x := .int k (k.wrap (0 - n))) (by rw [kw_eq]; rfl) ?_
    simp only [execOp]
    rw [show a.eval x = _ from g1]
    exact run_val rfl
  · cases hx
theorem ok_cvi {s t : TypeId} {d : TypeDesc} {k : IntKind} (hs : P.underlying s = some d) (ht : P.underlying t = some (.int k)) {x : Operand} {x' : Opd} (h1 : cOpd P x = some x') (hx : xo (.cvi k x') e h = some (v, h')) : OpOk P ρ B D σ h w a v h' (.convert s t x) := by
  intro dst type pos after guard
  have g1 := opd_ok he hg h1
  simp only [xo] at hx
  split at hx
  · rename_i k' n e1
    cases hx
    rw [e1] at g1
    refine yl_pure hr rfl rfl (x := .int k (k.wrap n)) (by rw [kw_eq]; rfl) ?_
    simp only [execOp]
    rw [show a.eval x = _ from g1]
    refine run_val ?_
    unfold convert
    rw [run_bind, run_und hs]
    simp only []
    rw [run_bind, run_und ht]
    cases d <;> rfl
  · cases hx
theorem ok_cvs {s t : TypeId} (hs : P.underlying s = some .string) (ht : P.underlying t = some .string) {x : Operand} {x' : Opd} (h1 : cOpd P x = some x') (hx : xo (.cvs x') e h = some (v, h')) : OpOk P ρ B D σ h w a v h' (.convert s t x) := by
  intro dst type pos after guard
  have g1 := opd_ok he hg h1
  simp only [xo] at hx
  split at hx
  · rename_i l e1
    cases hx
    rw [e1] at g1
    refine yl_pure hr rfl rfl g1 ?_
    obtain ⟨g2, _⟩ := g1
    simp only [execOp]
    rw [g2]
    refine run_val ?_
    unfold convert
    rw [run_bind, run_und hs]
    simp only []
    rw [run_bind, run_und ht]
    rfl
  · cases hx
omit hr he hg in
theorem bytes_fold (ns : List Nat) : (ns.map Int.ofNat).foldl (fun (r : ByteArray) n => r.push (UInt8.ofNat n.toNat)) ByteArray.empty = bytesOf ns := by
  have key : ∀ (l : List Nat) (acc : List UInt8), (l.map Int.ofNat).foldl (fun (r : ByteArray) n => r.push (UInt8.ofNat n.toNat)) ⟨acc.toArray⟩ = ⟨(acc ++ l.map UInt8.ofNat).toArray⟩ := by
    intro l
    induction l with
    | nil => intro acc; simp
    | cons a r ih =>
      intro acc
      simp only [List.map_cons, List.foldl_cons]
      have e : (ByteArray.mk acc.toArray).push (UInt8.ofNat (Int.ofNat a).toNat) = ⟨(acc ++ [UInt8.ofNat a]).toArray⟩ := by
        simp [ByteArray.push]
      rw [e, ih]
      simp
  have := key ns []
  rw [show ByteArray.empty = ⟨([] : List UInt8).toArray⟩ from rfl, this]
  rfl
omit hr he hg in
theorem bytes_vrs {l : List TV} : ∀ {ns : List Nat} {cs : List Value}, bytesL l = some ns → VRs ρ σ l cs → okS ns = true ∧ cs = (ns.map Int.ofNat).map (Value.int .u8) := by
  induction l with
  | nil => intro ns cs h hv; cases h; cases hv; exact ⟨rfl, rfl⟩
  | cons t r ih =>
    intro ns cs h hv
    unfold bytesL at h
    split at h
    · rename_i e; cases e
    · rename_i n r' e
      cases e
      obtain ⟨c, h⟩ := cond_none h
      split at h
      · rename_i l' e2
        cases h
        obtain ⟨v, q, rfl, h1, h2⟩ := hv
        obtain ⟨h3, rfl⟩ := ih e2 h2
        cases h1
        refine ⟨?_, rfl⟩
        unfold okS
        rw [c]; exact h3
      · cases h
    · cases h
theorem ok_cvb (hd : Hand D h h') {s t el : TypeId} (hs : P.underlying s = some (.slice el)) (hel : P.underlying el = some (.int .u8)) (ht : P.underlying t = some .string) {x : Operand} {x' : Opd} (h1 : cOpd P x = some x') (hx : xo (.cvb x') e h = some (v, h')) : OpOk P ρ B D σ h w a v h' (.convert s t x) := by
  intro dst type pos after guard
  have g1 := opd_ok he hg h1
  simp only [xo] at hx
  split at hx
  · rename_i e1
    cases hx
    rw [e1] at g1
    have g1 : a.eval x = .slice none 0 0 := g1
    refine yl_pure hr rfl rfl (x := .string (bytesOf [])) ⟨rfl, rfl⟩ ?_
    simp only [execOp]
    rw [g1]
    refine run_val ?_
    rw [run_convert_bytes_string w s t el none 0 0 hs hel ht]
    rfl
  · rename_i k off sz n cap rest e1
    rw [e1] at g1
    split at hx
    · rename_i l m h2 e2
      split at hx
      · rename_i ns e3
        cases hx
        obtain ⟨⟨cs⟩, f1, f2, f3, f4, f5⟩ := srcOf_ok (P := P) hr e2 hd g1
        have hm : m = n := by
          unfold srcOf at e2
          obtain ⟨_, e2⟩ := cond_none e2
          split at e2
          · obtain ⟨_, e2⟩ := cond_none e2
            cases e2; rfl
          · cases e2
        subst hm
        obtain ⟨y, c, q1, q2, _⟩ := g1
        obtain ⟨b1, b2⟩ := bytes_vrs e3 f3
        have f2 := f2 w rfl
        rw [q2] at f2
        have f2 : (loadCells ⟨y.1, y.2.1 + off, none⟩ (m * 1)).run P w = .ok ⟨cs⟩ w := f2
        rw [Nat.mul_one] at f2
        simp only at b2
        subst b2
        refine yl_pure hr f4 f5 (x := .string (bytesOf ns)) ⟨rfl, b1⟩ ?_
        simp only [execOp]
        rw [q2]
        refine run_val ?_
        rw [run_convert_bytes_string w s t el _ _ _ hs hel ht, run_bytesToString w _ _ _ (ns.map Int.ofNat) f2, bytes_fold]
      · cases hx
    · cases hx
  · cases hx
theorem ok_mki {t : TypeId} {d : TypeDesc} (ht : P.underlying t = some d) (hd : ∀ ms, d ≠ .interface ms) {x : Operand} {x' : Opd} (h1 : cOpd P x = some x') (hx : xo (.mki t x') e h = some (v, h')) : OpOk P ρ B D σ h w a v h' (.makeInterface t x) := by
  intro dst type pos after guard
  have g1 := opd_ok he hg h1
  simp only [xo] at hx
  cases hx
  refine yl_pure hr rfl rfl (x := .iface t (a.eval x)) ⟨_, rfl, g1⟩ ?_
  simp only [execOp]
  refine run_val ?_
  unfold Instr.makeInterface
  rw [run_bind, run_und ht]
  cases d <;> first | rfl | exact absurd rfl (hd _)
theorem ok_mkf {g : Fn} {x y : Array Operand} {x' y' : List Opd} (h1 : cOpds P x.toList = some x') (h2 : cOpds P y.toList = some y') (hx : xo (.mkf g x' y') e h = some (v, h')) : OpOk P ρ B D σ h w a v h' (.makeFunc g x y) := by
  intro dst type pos after guard
  have g1 := opds_ok he hg h1
  have g2 := opds_ok he hg h2
  simp only [xo] at hx
  cases hx
  refine yl_pure hr rfl rfl (x := .func g (x.map a.eval) (y.map a.eval)) ⟨_, _, rfl, by rw [Array.toList_map]; exact g1, by rw [Array.toList_map]; exact g2⟩ ?_
  simp only [execOp]
  exact run_val rfl
theorem ok_ex {x : Operand} {x' : Opd} {i : Nat} (h1 : cOpd P x = some x') (hx : xo (.ex x' i) e h = some (v, h')) : OpOk P ρ B D σ h w a v h' (.extract x i) := by
  intro dst type pos after guard
  have g1 := opd_ok he hg h1
  simp only [xo] at hx
  split at hx
  · rename_i l e1
    rw [e1] at g1
    split at hx
    · rename_i u r e2
      cases hx
      obtain ⟨c, g2, g3⟩ := g1
      have hl : l[i]? = some v := by
        have := congrArg (fun l : List TV => l[0]?) e2
        simpa using this
      obtain ⟨z, z1, z2⟩ := VRs_get g3 hl
      refine yl_pure hr rfl rfl z2 ?_
      simp only [execOp]
      rw [g2]
      refine run_val ?_
      unfold Instr.extract
      simp only []
      rw [Array.getElem?_toList] at z1
      rw [z1]
      rfl
    · cases hx
  · cases hx
theorem ok_fld {t : TypeId} {fs : Array Field} {f : Field} {i n : Nat} {g : Bool} {x : Operand} {y : Opd} (h1 : P.underlying t = some (.struct fs)) (h2 : fs[i]? = some f) (h3 : aggOfT P f.type = some (g, n)) (hc : cOpd P x = some y) (hx : xo (.fld g f.offset (if g then n else 1) y) e h = some (v, h')) : OpOk P ρ B D σ h w a v h' (.field t x i) := by
  intro dst type pos after guard
  have g1 := opd_ok he hg hc
  simp only [xo] at hx
  split at hx
  · rename_i l e1
    rw [e1] at g1
    split at hx
    · rename_i u e2
      cases hx
      obtain ⟨c, g2, g3⟩ := g1
      have g4 := VRs_take_drop g3 f.offset (if g then n else 1)
      obtain ⟨d, ti, q1, q2, q3, q4⟩ := agg_some h3
      rcases aggOf_ok e2 g4 with ⟨rfl, r2, r3⟩ | ⟨rfl, z, r2, r3⟩
      · simp only [if_true] at r2 r3
        have : (((c.toList.drop f.offset).take n).toArray : Array Value) = c.extract f.offset (f.offset + n) := by
          apply Array.ext'
          simp [List.extract_eq_take_drop]
        rw [this] at r3
        refine yl_pure hr rfl rfl r3 ?_
        simp only [execOp]
        rw [g2]
        refine run_val ?_
        unfold Instr.field
        rw [run_bind, run_und h1]
        simp only [h2]
        rw [run_bind]
        show (part f.type c f.offset).run P w = _
        unfold part
        rw [run_bind, run_agg q1, ← q3]
        simp only [if_true]
        rw [run_bind, run_size q2, q4]
        rfl
      · simp only [Bool.false_eq_true, if_false] at r2
        have hz : c[f.offset]? = some z := by
          have := congrArg (fun l : List Value => l[0]?) r2
          simpa using this
        refine yl_pure hr rfl rfl r3 ?_
        simp only [execOp]
        rw [g2]
        refine run_val ?_
        unfold Instr.field
        rw [run_bind, run_und h1]
        simp only [h2]
        rw [run_bind]
        show (part f.type c f.offset).run P w = _
        unfold part
        rw [run_bind, run_agg q1, ← q3]
        simp only [Bool.false_eq_true, if_false, hz]
        rfl
    · cases hx
  · cases hx
end
end Go.Proofs.YtgjfdbbghefdbaaGreatDoor.Sx
namespace Go.Proofs.YtgjfdbbghefdbaaGreatDoor.Sx
section
variable {P : Program} {ρ : Cx} {B : Nat} {D : Nat → Prop} {σ : Emb} {h h' : SH} {w : World} {v : TV} (hρ : ∀ j, scalV (ρ j)) (hr : HR ρ B D σ h w) {e : Trie TV} {a : Act} (he : EnvR ρ σ e a.tmps) (hg : GlobR P σ)
  (hf : Free σ h.nx h'.nx) (hd : Hand D h h')
include he hg
theorem bound_ok {o : Option Operand} {o' : Option Opd} (hc : cOpt P o = some o') {dflt most n : Nat} (hb : bound e o' dflt most = some n) :
    (o = none ∧ o' = none ∧ n = dflt) ∨ (∃ x k, o = some x ∧ a.eval x = .int k (n : Int) ∧ n ≤ most ∧ o' ≠ none) := by
  cases o with
  | none =>
    cases hc
    simp only [bound] at hb
    cases hb
    exact .inl ⟨rfl, rfl, rfl⟩
  | some x =>
    unfold cOpt at hc
    rw [Option.map_eq_some_iff] at hc
    obtain ⟨y, h1, rfl⟩ := hc
    have g1 := opd_ok he hg h1
    simp only [bound] at hb
    split at hb
    · rename_i k m e1
      obtain ⟨c, hb⟩ := cond_none hb
      cases hb
      rw [e1] at g1
      exact .inr ⟨x, k, rfl, g1, Nat.le_of_ble_eq_true c, by simp⟩
    · cases hb
omit he hg in
theorem sliceBound_run {k : IntKind} {n y : Nat} (h : n ≤ y) (code : BoundsCode) : (Instr.sliceBound (.int k (n : Int)) y code).run P w = .ok n w := by
  unfold Instr.sliceBound asIntOf
  rw [run_bind]
  show (if 0 ≤ (n : Int) ∧ (n : Int) ≤ y then pure (n : Int).toNat else boundsPanic k n y code : Sem Nat).run P w = _
  rw [if_pos ⟨by omega, by omega⟩, Int.toNat_natCast]
  rfl
theorem bounds_ok {lo hi mx : Option Operand} {lo' hi' mx' : Option Opd} (h1 : cOpt P lo = some lo') (h2 : cOpt P hi = some hi') (h3 : cOpt P mx = some mx') (hm : ¬ (hi.isNone = true ∧ mx.isSome = true)) {len cap c m b x : Nat} (hc : cap ≤ c) (hl : len ≤ cap)
    (hb1 : bound e mx' cap cap = some m) (hb2 : bound e hi' len m = some b) (hb3 : bound e lo' 0 b = some x) (isSlice : Bool) :
    (Instr.sliceBounds isSlice len c (lo.map a.eval) (hi.map a.eval) (mx.map a.eval)).run P w = .ok (x, b, if mx.isSome then m else c) w ∧ x ≤ b ∧ b ≤ m ∧ m ≤ cap := by
  have q1 := bound_ok he hg h1 hb3
  have q2 := bound_ok he hg h2 hb2
  have q3 := bound_ok he hg h3 hb1
  unfold Instr.sliceBounds
  rcases q3 with ⟨rfl, _, rfl⟩ | ⟨xm, km, rfl, em, lm, _⟩
  · rcases q2 with ⟨rfl, _, rfl⟩ | ⟨xh, kh, rfl, eh, lh, _⟩
    · rcases q1 with ⟨rfl, _, rfl⟩ | ⟨xl, kl, rfl, el, ll, _⟩
      · exact ⟨rfl, Nat.zero_le _, hl, Nat.le_refl _⟩
      · refine ⟨?_, ll, hl, Nat.le_refl _⟩
        simp only [Option.map_none, Option.map_some, run_bind, run_pure, el, sliceBound_run ll, Option.isSome_none, Bool.false_eq_true, if_false]
    · rcases q1 with ⟨rfl, _, rfl⟩ | ⟨xl, kl, rfl, el, ll, _⟩
      · refine ⟨?_, Nat.zero_le _, lh, Nat.le_refl _⟩
        simp only [Option.map_none, Option.map_some, run_bind, run_pure, eh, sliceBound_run (Nat.le_trans lh hc), Option.isSome_none, Bool.false_eq_true, if_false]
      · refine ⟨?_, ll, lh, Nat.le_refl _⟩
        simp only [Option.map_none, Option.map_some, run_bind, run_pure, eh, el, sliceBound_run ll, sliceBound_run (Nat.le_trans lh hc), Option.isSome_none, Bool.false_eq_true, if_false]
  · rcases q2 with ⟨rfl, _, rfl⟩ | ⟨xh, kh, rfl, eh, lh, _⟩
    · exact absurd ⟨rfl, rfl⟩ hm
    · rcases q1 with ⟨rfl, _, rfl⟩ | ⟨xl, kl, rfl, el, ll, _⟩
      · refine ⟨?_, Nat.zero_le _, lh, lm⟩
        simp only [Option.map_none, Option.map_some, run_bind, run_pure, eh, em, sliceBound_run (Nat.le_trans lm hc), sliceBound_run lh, Option.isSome_some, if_true]
      · refine ⟨?_, ll, lh, lm⟩
        simp only [Option.map_some, run_bind, run_pure, eh, el, em, sliceBound_run ll, sliceBound_run (Nat.le_trans lm hc), sliceBound_run lh, Option.isSome_some, if_true]
include hr
theorem ok_slcS {t : TypeId} (ht : P.underlying t = some .string) {x : Operand} {x' : Opd} (h1 : cOpd P x = some x') {lo hi : Option Operand} {lo' hi' : Option Opd} (h2 : cOpt P lo = some lo') (h3 : cOpt P hi = some hi')
    (hx : xo (.slcS x' lo' hi') e h = some (v, h')) : OpOk P ρ B D σ h w a v h' (.slice t x lo hi none) := by
  intro dst type pos after guard
  have g1 := opd_ok he hg h1
  simp only [xo] at hx
  split at hx
  · rename_i l e1
    rw [e1] at g1
    split at hx
    · rename_i b e2
      split at hx
      · rename_i x0 e3
        cases hx
        obtain ⟨g2, g3⟩ := g1
        have hb := bounds_ok (P := P) (w := w) he hg h2 h3 (mx := none) (mx' := none) rfl (by simp) (len := l.length) (cap := l.length) (c := l.length) (Nat.le_refl _) (Nat.le_refl _) (m := l.length) rfl e2 e3 false
        refine yl_pure hr rfl rfl (x := .string (bytesOf ((l.drop x0).take (b - x0)))) ⟨rfl, okS_take _ (okS_drop _ g3)⟩ ?_
        simp only [execOp]
        rw [g2]
        refine run_val ?_
        unfold Instr.sliceAt
        rw [run_bind, run_und ht]
        simp only []
        unfold Instr.slice
        rw [run_bind, run_und ht]
        simp only [Option.map_none, Option.isSome_none, Bool.false_eq_true, if_false, bytes_size]
        rw [run_bind]
        have := hb.1
        simp only [Option.map_none, Option.isSome_none, Bool.false_eq_true, if_false] at this
        rw [this]
        simp only [bytes_extract]
        rfl
      · cases hx
    · cases hx
  · cases hx
theorem ok_slc {t el : TypeId} {s : Nat} (ht : P.underlying t = some (.slice el)) (hs : sizeT P el = some s) {x : Operand} {x' : Opd} (h1 : cOpd P x = some x') {lo hi mx : Option Operand} {lo' hi' mx' : Option Opd} (h2 : cOpt P lo = some lo') (h3 : cOpt P hi = some hi') (h4 : cOpt P mx = some mx')
    (hm : ¬ (hi.isNone = true ∧ mx.isSome = true)) (hx : xo (.slc s x' lo' hi' mx') e h = some (v, h')) : OpOk P ρ B D σ h w a v h' (.slice t x lo hi mx) := by
  intro dst type pos after guard
  have g1 := opd_ok he hg h1
  obtain ⟨ti, i1, rfl⟩ := size_some hs
  have hmx : mx'.isSome = mx.isSome := by
    cases mx with
    | none => cases h4; rfl
    | some q => unfold cOpt at h4; rw [Option.map_eq_some_iff] at h4; obtain ⟨_, _, rfl⟩ := h4; rfl
  simp only [xo] at hx
  split at hx
  · rename_i k off sz len cap rest e1
    rw [e1] at g1
    have hq := cond_none hx; clear hx; obtain ⟨cs, hx⟩ := hq
    obtain rfl := Nat.eq_of_beq_eq_true cs
    split at hx
    · rename_i m e2
      split at hx
      · rename_i b e3
        split at hx
        · rename_i x0 e4
          obtain ⟨y, c, g2, g3, g4, g5, g6, g7⟩ := g1
          obtain ⟨hb, hb1, hb2, hb3⟩ := bounds_ok (P := P) (w := w) he hg h2 h3 h4 hm (c := c) g4 g7 e2 e3 e4 true
          have hrun : ∀ (ad : Option Addr), (Instr.sliceAt t (.slice (some ⟨y.1, y.2.1 + off, none⟩) len c) (lo.map a.eval) (hi.map a.eval) (mx.map a.eval)).run P w =
              .ok (.slice (if (if mx.isSome then m else c) = x0 then some ⟨y.1, y.2.1 + off, none⟩ else some ⟨y.1, y.2.1 + off + x0 * ti.size, none⟩) (b - x0) ((if mx.isSome then m else c) - x0)) w := by
            intro _
            unfold Instr.sliceAt
            rw [run_bind, run_und ht]
            simp only []
            unfold Instr.slice
            rw [run_bind, run_und ht]
            simp only []
            rw [run_bind, hb]
            simp only []
            rw [run_bind, run_size i1]
            simp only [Option.map_some, addr_add]
            rfl
          have hcm : m ≤ (if mx.isSome = true then m else c) := by
            split
            · exact Nat.le_refl _
            · rename_i hne
              have : m ≤ c := Nat.le_trans hb3 g4
              exact this
          have hcc : (if mx.isSome = true then m else c) ≤ c := by
            split
            · exact Nat.le_trans hb3 g4
            · exact Nat.le_refl _
          have hmc : restOf mx' rest = false → (if mx.isSome = true then m else c) = m := by
            intro hr0
            cases mx with
            | some q => rfl
            | none =>
              cases h4
              have hr0 : rest = false := hr0
              subst hr0
              have := g5 rfl
              simp only [bound] at e2
              cases e2
              exact this
          generalize hC : (if mx.isSome = true then m else c) = C at *
          have room : off + C * ti.size ≤ y.2.2 := Nat.le_trans (Nat.add_le_add_left (Nat.mul_le_mul_right _ hcc) _) g6
          have fin : ∀ {off' : Nat} {rest' : Bool}, (v = .sl k off' ti.size (b - x0) (m - x0) rest') → h' = h → (if C = x0 then off' = off else off' = off + x0 * ti.size) → (rest' = false → C = m) →
              Yl ρ B D σ h w v h' ((execOp a.eval ⟨dst, .slice t x lo hi mx, type, pos, after, guard⟩).run P w) := by
            intro off' rest' hv hh ho hre
            subst hv; subst hh
            refine yl_pure hr rfl rfl (x := .slice (some ⟨y.1, y.2.1 + off', none⟩) (b - x0) (C - x0)) ⟨y, C - x0, g2, rfl, by omega, fun q => by rw [hre q], ?_, by omega⟩ ?_
            · by_cases hx0 : C = x0
              · rw [if_pos hx0] at ho
                subst ho
                rw [hx0, Nat.sub_self, Nat.zero_mul]
                omega
              · rw [if_neg hx0] at ho
                subst ho
                have : x0 * ti.size + (C - x0) * ti.size = C * ti.size := by rw [← Nat.add_mul]; congr 1; omega
                omega
            · simp only [execOp]
              rw [g3]
              refine run_val ?_
              rw [hrun none]
              by_cases hx0 : C = x0
              · rw [if_pos hx0] at ho ⊢
                subst ho; rfl
              · rw [if_neg hx0] at ho ⊢
                subst ho; rw [Nat.add_assoc]
          cases cm : Nat.beq m x0 with
          | true =>
            rw [cm] at hx
            simp only [cond_true] at hx
            have hmx0 := Nat.eq_of_beq_eq_true cm
            cases hrr : restOf mx' rest with
            | true =>
              rw [hrr] at hx
              simp only [cond_true] at hx
              cases ca : Nat.beq x0 0 with
              | true =>
                rw [ca] at hx
                simp only [cond_true] at hx
                have ca := Nat.eq_of_beq_eq_true ca
                cases hx
                exact fin rfl rfl (by subst ca; simp) (fun q => by cases q)
              | false =>
                rw [ca] at hx
                simp only [cond_false] at hx
                cases hx
                have hbx : b - x0 = 0 := by omega
                refine yl_pure hr rfl rfl (x := .slice (if C = x0 then some ⟨y.1, y.2.1 + off, none⟩ else some ⟨y.1, y.2.1 + off + x0 * ti.size, none⟩) 0 (C - x0)) (by show ∃ a c, _ = _; split; exact ⟨_, _, rfl⟩; exact ⟨_, _, rfl⟩) ?_
                simp only [execOp]
                rw [g3]
                refine run_val ?_
                rw [hrun none, hbx]
            | false =>
              rw [hrr] at hx
              simp only [cond_false] at hx
              cases hx
              exact fin rfl rfl (by rw [if_pos ((hmc hrr).trans hmx0)]) (fun _ => hmc hrr)
          | false =>
            rw [cm] at hx
            simp only [cond_false] at hx
            cases hx
            have hne : m ≠ x0 := fun q => by subst q; simp at cm
            refine fin rfl rfl (by rw [if_neg (by omega)]) fun q => hmc q
        · cases hx
      · cases hx
    · cases hx
  · rename_i e1
    rw [e1] at g1
    split at hx
    · rename_i m e2
      split at hx
      · rename_i b e3
        split at hx
        · rename_i x0 e4
          cases hx
          obtain ⟨hb, hb1, hb2, hb3⟩ := bounds_ok (P := P) (w := w) he hg h2 h3 h4 hm (c := 0) (Nat.le_refl _) (Nat.le_refl _) e2 e3 e4 true
          refine yl_pure hr rfl rfl (x := .slice none 0 0) rfl ?_
          simp only [execOp]
          rw [show a.eval x = _ from g1]
          refine run_val ?_
          unfold Instr.sliceAt
          rw [run_bind, run_und ht]
          simp only []
          unfold Instr.slice
          rw [run_bind, run_und ht]
          simp only []
          rw [run_bind, hb]
          simp only []
          rw [run_bind, run_size i1]
          have z1 : m = 0 := by omega
          have z2 : b = 0 := by omega
          have z3 : x0 = 0 := by omega
          subst z1; subst z2; subst z3
          have : (if mx.isSome = true then 0 else 0) = 0 := by split <;> rfl
          simp only [this, if_true]
          rfl
        · cases hx
      · cases hx
    · cases hx
  · rename_i e1
    rw [e1] at g1
    split at hx
    · rename_i m e2
      split at hx
      · rename_i b e3
        split at hx
        · rename_i x0 e4
          cases hx
          obtain ⟨p, c, g2⟩ := ne_nil g1
          obtain ⟨hb, hb1, hb2, hb3⟩ := bounds_ok (P := P) (w := w) he hg h2 h3 h4 hm (c := c) (Nat.zero_le _) (Nat.le_refl _) e2 e3 e4 true
          have z1 : m = 0 := by omega
          have z2 : b = 0 := by omega
          have z3 : x0 = 0 := by omega
          subst z1; subst z2; subst z3
          have hq : ∀ M : Nat, ∃ q, (if M = 0 then some p else (some p).map (·.add (0 * ti.size))) = some q := fun M => by
            by_cases hM : M = 0
            · exact ⟨p, by rw [if_pos hM]⟩
            · exact ⟨p.add (0 * ti.size), by rw [if_neg hM]; rfl⟩
          obtain ⟨q, hq⟩ := hq (if mx.isSome = true then 0 else c)
          refine yl_pure hr rfl rfl (x := .slice (some q) 0 ((if mx.isSome = true then 0 else c) - 0)) ⟨q, _, rfl⟩ ?_
          rw [← hq]
          simp only [execOp]
          rw [g2]
          refine run_val ?_
          unfold Instr.sliceAt
          rw [run_bind, run_und ht]
          simp only []
          unfold Instr.slice
          rw [run_bind, run_und ht]
          simp only []
          rw [run_bind, hb]
          simp only []
          rw [run_bind, run_size i1]
          rfl
        · cases hx
      · cases hx
    · cases hx
  · cases hx
end
end Go.Proofs.YtgjfdbbghefdbaaGreatDoor.Sx
namespace Go.Proofs.YtgjfdbbghefdbaaGreatDoor.Sx
section
variable {P : Program} {ρ : Cx} {B : Nat} {D : Nat → Prop} {σ : Emb} {h h' : SH} {w : World} {v : TV} (hρ : ∀ j, scalV (ρ j)) (hr : HR ρ B D σ h w) {e : Trie TV} {a : Act} (he : EnvR ρ σ e a.tmps) (hg : GlobR P σ)
  (hf : Free σ h.nx h'.nx) (hd : Hand D h h')
include hr he hg
theorem ok_ia {t el : TypeId} {s : Nat} (ht : P.underlying t = some (.slice el)) (hs : sizeT P el = some s) {x ix : Operand} {x' ix' : Opd} (h1 : cOpd P x = some x') (h2 : cOpd P ix = some ix') (hx : xo (.ia s x' ix') e h = some (v, h')) : OpOk P ρ B D σ h w a v h' (.indexAddr t x ix) := by
  intro dst type pos after guard
  have g1 := opd_ok he hg h1
  have g2 := opd_ok he hg h2
  obtain ⟨ti, i1, rfl⟩ := size_some hs
  simp only [xo] at hx
  split at hx
  · rename_i k off sz len cap rest k' j e1 e2
    have hq := cond_none hx; clear hx; obtain ⟨cs, hx⟩ := hq
    obtain rfl := Nat.eq_of_beq_eq_true cs
    have hq := cond_none hx; clear hx; obtain ⟨cj, hx⟩ := hq
    have cj : j < len := blt_lt cj
    cases hx
    rw [e1] at g1; rw [e2] at g2
    obtain ⟨y, c, g3, g4, _⟩ := g1
    refine yl_pure hr rfl rfl (x := .pointer (some ⟨y.1, y.2.1 + (off + j * ti.size), none⟩)) ⟨y, g3, rfl⟩ ?_
    simp only [execOp]
    rw [g4, show a.eval ix = _ from g2]
    refine run_val ?_
    unfold Instr.indexAt
    rw [run_bind]
    simp only [asIntOf, run_pure]
    have hp : (0 : Int) ≤ Int.ofNat j ∧ Int.ofNat j < (len : Int) := ⟨Int.natCast_nonneg _, by simpa using cj⟩
    simp only [run_bind, run_und ht, run_pure]
    rw [if_pos hp]
    simp only [run_bind, run_size i1, addr_add, run_pure]
    rw [show (Int.ofNat j).toNat = j from rfl, Nat.add_assoc]
  · cases hx
theorem ok_iaA {t el : TypeId} {s n : Nat} (ht : P.underlying t = some (.array n el)) (hs : sizeT P el = some s) {x ix : Operand} {x' ix' : Opd} (h1 : cOpd P x = some x') (h2 : cOpd P ix = some ix') (hx : xo (.iaA n s x' ix') e h = some (v, h')) : OpOk P ρ B D σ h w a v h' (.indexAddr t x ix) := by
  intro dst type pos after guard
  have g1 := opd_ok he hg h1
  have g2 := opd_ok he hg h2
  obtain ⟨ti, i1, rfl⟩ := size_some hs
  simp only [xo] at hx
  split at hx
  · rename_i k off k' j e1 e2
    have hq := cond_none hx; clear hx; obtain ⟨cj, hx⟩ := hq
    have cj : j < n := blt_lt cj
    cases hx
    rw [e1] at g1; rw [e2] at g2
    obtain ⟨y, g3, g4⟩ := g1
    refine yl_pure hr rfl rfl (x := .pointer (some ⟨y.1, y.2.1 + (off + j * ti.size), none⟩)) ⟨y, g3, rfl⟩ ?_
    simp only [execOp]
    rw [g4, show a.eval ix = _ from g2]
    refine run_val ?_
    unfold Instr.indexAt
    rw [run_bind]
    simp only [asIntOf, run_pure]
    have hp : (0 : Int) ≤ Int.ofNat j ∧ Int.ofNat j < (n : Int) := ⟨Int.natCast_nonneg _, by simpa using cj⟩
    simp only [run_bind, run_und ht, Instr.sureAddr, run_pure]
    rw [if_pos hp]
    simp only [run_bind, run_size i1, addr_add, run_pure]
    rw [show (Int.ofNat j).toNat = j from rfl, Nat.add_assoc]
  · cases hx
theorem ok_ixS {t : TypeId} (ht : P.underlying t = some .string) {x ix : Operand} {x' ix' : Opd} (h1 : cOpd P x = some x') (h2 : cOpd P ix = some ix') (hx : xo (.ixS x' ix') e h = some (v, h')) : OpOk P ρ B D σ h w a v h' (.index t x ix) := by
  intro dst type pos after guard
  have g1 := opd_ok he hg h1
  have g2 := opd_ok he hg h2
  simp only [xo] at hx
  split at hx
  · rename_i l k' j e1 e2
    split at hx
    · rename_i c r e3
      cases hx
      rw [e1] at g1; rw [e2] at g2
      obtain ⟨g3, g4⟩ := g1
      have hl : l[j]? = some c := by
        have := congrArg (fun l : List Nat => l[0]?) e3
        simpa using this
      have hjl : j < l.length := by
        rcases Nat.lt_or_ge j l.length with q | q
        · exact q
        · rw [List.getElem?_eq_none q] at hl; cases hl
      have hc : c < 256 := by
        have := okS_drop j g4
        rw [e3] at this
        exact (okS_cons this).1
      refine yl_pure hr rfl rfl (x := .int .u8 (Int.ofNat c)) rfl ?_
      simp only [execOp]
      rw [g3, show a.eval ix = _ from g2]
      refine run_val ?_
      unfold Instr.index
      rw [run_bind]
      simp only [asIntOf, run_pure]
      rw [run_bind, run_und ht]
      have hb : (bytesOf l)[j]? = some (UInt8.ofNat c) := by
        have hsz : j < (bytesOf l).size := by rw [bytes_size]; exact hjl
        rw [getElem?_pos (bytesOf l) j hsz]
        congr 1
        show (bytesOf l).data[j] = _
        simp only [bytesOf]
        rw [List.getElem?_eq_getElem hjl] at hl
        cases hl
        simp
      simp only [show (0 : Int) ≤ Int.ofNat j from Int.natCast_nonneg _, if_true, show (Int.ofNat j).toNat = j from rfl, hb]
      show Result.ok (Value.int .u8 ((UInt8.ofNat c).toNat : Int)) w = _
      rw [UInt8.toNat_ofNat', Nat.mod_eq_of_lt (by simpa using hc)]
      rfl
    · cases hx
  · cases hx
theorem ok_ixA {t el : TypeId} {n s : Nat} {g : Bool} (ht : P.underlying t = some (.array n el)) (hs : aggOfT P el = some (g, s)) (hg1 : g = false → s = 1) {x ix : Operand} {x' ix' : Opd} (h1 : cOpd P x = some x') (h2 : cOpd P ix = some ix') (hx : xo (.ixA g n s x' ix') e h = some (v, h')) : OpOk P ρ B D σ h w a v h' (.index t x ix) := by
  intro dst type pos after guard
  have g1 := opd_ok he hg h1
  have g2 := opd_ok he hg h2
  simp only [xo] at hx
  split at hx
  · rename_i l k' j e1 e2
    have hq := cond_none hx; clear hx; obtain ⟨cj, hx⟩ := hq
    have cj : j < n := blt_lt cj
    rw [e1] at g1; rw [e2] at g2
    split at hx
    · rename_i u e3
      cases hx
      obtain ⟨c, g3, g4⟩ := g1
      obtain ⟨d, ti, q1, q2, q3, q4⟩ := agg_some hs
      have g5 := VRs_take_drop g4 (j * s) s
      have base : ∀ z, VR ρ σ v z → (part el c (j * s)).run P w = .ok z w → Yl ρ B D σ h w v h ((execOp a.eval ⟨dst, .index t x ix, type, pos, after, guard⟩).run P w) := by
        intro z hz hp
        refine yl_pure hr rfl rfl hz ?_
        simp only [execOp]
        rw [g3, show a.eval ix = _ from g2]
        refine run_val ?_
        unfold Instr.index
        rw [run_bind]
        simp only [asIntOf, run_pure]
        rw [run_bind, run_und ht]
        have hp0 : (0 : Int) ≤ Int.ofNat j ∧ Int.ofNat j < (n : Int) := ⟨Int.natCast_nonneg _, by simpa using cj⟩
        simp only [hp0, and_self, if_true]
        rw [run_bind, run_size q2]
        simp only [q4]
        exact hp
      rcases aggOf_ok e3 g5 with ⟨rfl, r2, r3⟩ | ⟨rfl, z, r2, r3⟩
      · have : (((c.toList.drop (j * s)).take s).toArray : Array Value) = c.extract (j * s) (j * s + s) := by
          apply Array.ext'
          simp [List.extract_eq_take_drop]
        rw [this] at r3
        refine base _ r3 ?_
        unfold part
        rw [run_bind, run_agg q1, ← q3]
        simp only [if_true]
        rw [run_bind, run_size q2, q4]
        rfl
      · obtain rfl := hg1 rfl
        have hz : c[j * 1]? = some z := by
          have := congrArg (fun l : List Value => l[0]?) r2
          simpa using this
        refine base z r3 ?_
        unfold part
        rw [run_bind, run_agg q1, ← q3]
        simp only [Bool.false_eq_true, if_false, hz]
        rfl
    · cases hx
  · cases hx
theorem ok_ta {xt asserted : TypeId} {d : TypeDesc} {ok : Bool} {zi : TypeInfo} {zv : Value} {z : TV} (ht : P.underlying asserted = some d) (hdn : ∀ ms, d ≠ .interface ms) (hi : P.info? asserted = some zi) (hz : zi.zero = some zv) (ho : ofVal zv = some z) {x : Operand} {x' : Opd} (h1 : cOpd P x = some x')
    (hx : xo (.ta ok asserted z x') e h = some (v, h')) : OpOk P ρ B D σ h w a v h' (.typeAssert x xt asserted ok) := by
  intro dst type pos after guard
  have g1 := opd_ok he hg h1
  have gz : VR ρ σ z zv := ofVal_ok ho
  simp only [xo] at hx
  split at hx
  · rename_i t u e1
    rw [e1] at g1
    obtain ⟨q, g2, g3⟩ := g1
    cases ct : Nat.beq t asserted with
    | true =>
      rw [ct] at hx
      cases hx
      obtain rfl := Nat.eq_of_beq_eq_true ct
      refine yl_pure hr rfl rfl (x := if ok then .tuple #[q, .bool true] else q) ?_ ?_
      · cases ok with
        | true => exact ⟨_, rfl, q, _, rfl, g3, _, _, rfl, rfl, rfl⟩
        | false => exact g3
      · simp only [execOp]
        rw [g2]
        refine run_val ?_
        unfold Instr.typeAssert
        rw [run_bind, run_und ht]
        cases d <;> first | exact absurd rfl (hdn _) | (simp only [if_true]; rfl)
    | false =>
      rw [ct] at hx
      simp only [cond_false] at hx
      have hq := cond_none hx; clear hx; obtain ⟨rfl, hx⟩ := hq
      cases hx
      have hne : t ≠ asserted := fun q => by subst q; simp at ct
      refine yl_pure hr rfl rfl (x := .tuple #[zv, .bool false]) ⟨_, rfl, zv, _, rfl, gz, _, _, rfl, rfl, rfl⟩ ?_
      simp only [execOp]
      rw [g2]
      refine run_val ?_
      unfold Instr.typeAssert
      rw [run_bind, run_und ht]
      cases d <;> first | exact absurd rfl (hdn _) | (simp only [hne, if_false, if_true, run_bind, run_zero hi hz]; rfl)
  · rename_i e1
    rw [e1] at g1
    have hq := cond_none hx; clear hx; obtain ⟨rfl, hx⟩ := hq
    cases hx
    refine yl_pure hr rfl rfl (x := .tuple #[zv, .bool false]) ⟨_, rfl, zv, _, rfl, gz, _, _, rfl, rfl, rfl⟩ ?_
    simp only [execOp]
    rw [show a.eval x = _ from g1]
    refine run_val ?_
    unfold Instr.typeAssert
    rw [run_bind, run_und ht]
    cases d <;> first | exact absurd rfl (hdn _) | (simp only [if_true, run_bind, run_zero hi hz]; rfl)
  · cases hx
end
end Go.Proofs.YtgjfdbbghefdbaaGreatDoor.Sx
namespace Go.Proofs.YtgjfdbbghefdbaaGreatDoor.Sx
section
variable {P : Program} {ρ : Cx} {B : Nat} {D : Nat → Prop} {σ : Emb} {h h' : SH} {w : World} {v : TV} (hρ : ∀ j, scalV (ρ j)) (hr : HR ρ B D σ h w) {e : Trie TV} {a : Act} (he : EnvR ρ σ e a.tmps) (hg : GlobR P σ)
  (hf : Free σ h.nx h'.nx) (hd : Hand D h h')
include hr he hg
include hd
theorem ok_len {t : TypeId} {d : TypeDesc} (ht : P.underlying t = some d) {x : Operand} {x' : Opd} (h1 : cOpd P x = some x') {kind : Nat} (hk : (d = .string ∧ kind = 0) ∨ ((∃ el, d = .slice el) ∧ kind = 1) ∨ ((∃ k el, d = .map k el) ∧ kind = 2))
    (hx : xo (.len kind x') e h = some (v, h')) : OpOk P ρ B D σ h w a v h' (.call { callee := .builtin .len, args := #[x], argTypes := #[t] }) := by
  intro dst type pos after guard
  have g1 := opd_ok he hg h1
  have fin : ∀ {z : Value}, VR ρ σ v z → h'.tr = h.tr → h'.nx = h.nx → (Builtin.len_ #[t] type #[a.eval x]).run P w = .ok z w → Yl ρ B D σ h w v h' ((execOp a.eval ⟨dst, .call { callee := .builtin .len, args := #[x], argTypes := #[t] }, type, pos, after, guard⟩).run P w) := by
    intro z hz e1 e2 hs
    refine yl_pure hr e1 e2 hz ?_
    simp only [execOp, resolve]
    rw [run_bind, run_pure]
    simp only [invoke, builtin]
    refine run_val ?_
    rw [show (Array.map a.eval #[x]) = #[a.eval x] from by simp]
    exact hs
  rcases hk with ⟨rfl, rfl⟩ | ⟨⟨el, rfl⟩, rfl⟩ | ⟨⟨k, el, rfl⟩, rfl⟩
  · simp only [xo, lenOfTV] at hx
    split at hx
    · rename_i l e1
      rw [e1] at g1
      cases hx
      refine fin (z := .int .i64 (Int.ofNat l.length)) rfl rfl rfl ?_
      obtain ⟨g2, _⟩ := g1
      rw [g2]
      unfold Builtin.len_
      simp only [List.getElem?_toArray, List.getElem?_cons_zero]
      rw [run_bind, run_und ht]
      show Result.ok (goInt (bytesOf l).size) w = _
      rw [bytes_size]; rfl
    · cases hx
  · simp only [xo, lenOfTV] at hx
    split at hx
    · rename_i k off sz n c r e1
      rw [e1] at g1
      cases hx
      refine fin (z := .int .i64 (Int.ofNat n)) rfl rfl rfl ?_
      obtain ⟨y, c', _, g2, _⟩ := g1
      rw [g2]
      unfold Builtin.len_
      simp only [List.getElem?_toArray, List.getElem?_cons_zero]
      rw [run_bind, run_und ht]
      rfl
    · rename_i e1
      rw [e1] at g1
      cases hx
      refine fin (z := .int .i64 0) rfl rfl rfl ?_
      rw [show a.eval x = _ from g1]
      unfold Builtin.len_
      simp only [List.getElem?_toArray, List.getElem?_cons_zero]
      rw [run_bind, run_und ht]
      rfl
    · rename_i e1
      rw [e1] at g1
      cases hx
      refine fin (z := .int .i64 0) rfl rfl rfl ?_
      obtain ⟨q, c', g2⟩ := ne_nil g1
      rw [g2]
      unfold Builtin.len_
      simp only [List.getElem?_toArray, List.getElem?_cons_zero]
      rw [run_bind, run_und ht]
      rfl
    · cases hx
  · simp only [xo, lenOfTV] at hx
    split at hx
    · rename_i e1
      rw [e1] at g1
      cases hx
      refine fin (z := .int .i64 0) rfl rfl rfl ?_
      rw [show a.eval x = _ from g1]
      unfold Builtin.len_
      simp only [List.getElem?_toArray, List.getElem?_cons_zero]
      rw [run_bind, run_und ht]
      rfl
    · rename_i b e1
      rw [e1] at g1
      split at hx
      · rename_i es cl e2
        cases hx
        have hdb : D b := hd b (List.mem_cons_self ..) (hr.wf b _ e2)
        obtain ⟨y, ar, q1, q2, q3, q4⟩ := hr.blk b _ hdb e2
        obtain ⟨y', g2, g3⟩ := g1
        rw [q1] at g2; cases g2
        have hlen : ar.size = es.length := by
          have go : ∀ (l : List (TV × TV × Nat)) (m : List MapEntry), ER ρ σ l m → m.length = l.length := by
            intro l
            induction l with
            | nil => intro m hm; cases hm; rfl
            | cons x r ih => rintro m ⟨en, q, rfl, _, _, _, hq⟩; simp [ih _ hq]
          simpa using go _ _ q4
        refine fin (z := .int .i64 (Int.ofNat es.length)) rfl rfl rfl ?_
        rw [g3]
        unfold Builtin.len_
        simp only [List.getElem?_toArray, List.getElem?_cons_zero]
        rw [run_bind, run_und ht]
        simp only []
        rw [run_bind]
        have : (getObj y.1).run P w = .ok (.map ar cl) w := by
          show (Sem.getObj y.1 Sem.pure).run P w = _
          unfold Sem.run
          rw [q2]
          rfl
        rw [this]
        show Result.ok (goInt ar.size) w = _
        rw [hlen]; rfl
      · cases hx
    · cases hx
include hf hρ
theorem ok_app {t u el : TypeId} {d : TypeDesc} {i : TypeInfo} {z : Value} {tz : TV} (ht : P.underlying t = some (.slice el)) (hu : P.underlying u = some d) (hdi : isIntD d = false) (hi : P.info? el = some i) (hz0 : i.zero = some z) (ho : ofVal z = some tz)
    (hzs : tz.cells.length = i.size) (hb1 : 0 < i.bytes) (hb2 : i.bytes < 100000) {s x : Operand} {s' x' : Opd} (h1 : cOpd P s = some s') (h2 : cOpd P x = some x') (hx : xo (.app el i.size s' x') e h = some (v, h')) :
    OpOk P ρ B D σ h w a v h' (.call { callee := .builtin .append, args := #[s, x], argTypes := #[t, u] }) := by
  intro dst type pos after guard
  have g1 := opd_ok he hg h1
  have g2 := opd_ok he hg h2
  have hzc : z.cells.size = i.size := by
    have := VRs_len (cells_all (ρ := ρ) (σ := σ) hρ (ofVal_ok ho) (ofVal_known ho))
    simp only [Array.length_toList] at this
    omega
  simp only [xo] at hx
  unfold appendTo at hx
  split at hx
  · cases hx
  rename_i new n h0 e1
  obtain ⟨t1, n1, tr1, fz⟩ := tf_src e1
  have tf2 := tf_appendRow hx
  obtain ⟨cs, f1, f2, f3, _, _⟩ := srcOf_ok (P := P) hr e1 (fun k hk hl => hd k (tf2.lg k hk) hl) g2
  have hr0 : HR ρ B D σ h0 w := hr.of_tr tr1 n1
  obtain ⟨σ', w', r, q1, q2, q3⟩ := appendRow_ok hρ hr0 ht hu hdi hi hz0 hzc hb1 hb2 hx (by rw [n1]; exact hf) (fun k hk hl => hd k hk (by rw [← n1]; exact hl)) g1 f1 f2 f3 fz type
  refine ⟨σ', w', r, q1.of_tr tr1 n1, q2, .inl ?_⟩
  simp only [execOp, resolve]
  rw [run_bind, run_pure]
  simp only [invoke, builtin]
  refine run_val ?_
  rw [show (Array.map a.eval #[s, x]) = #[a.eval s, a.eval x] from by simp]
  exact q3
end
end Go.Proofs.YtgjfdbbghefdbaaGreatDoor.Sx
namespace Go.Proofs.YtgjfdbbghefdbaaGreatDoor.Sx
section
variable {P : Program} {ρ : Cx} {B : Nat} {D : Nat → Prop} {σ : Emb} {h h' : SH} {w : World} {v : TV} (hρ : ∀ j, scalV (ρ j)) (hr : HR ρ B D σ h w) {e : Trie TV} {a : Act} (he : EnvR ρ σ e a.tmps) (hg : GlobR P σ)
  (hf : Free σ h.nx h'.nx) (hd : Hand D h h')
include hr he hg
theorem ok_mm {most : Bool} {types : Array TypeId} {x y : Operand} {x' y' : Opd} (h1 : cOpd P x = some x') (h2 : cOpd P y = some y') (hx : xo (.mm most x' y') e h = some (v, h')) :
    OpOk P ρ B D σ h w a v h' (.call { callee := .builtin (if most then .max else .min), args := #[x, y], argTypes := types }) := by
  intro dst type pos after guard
  have g1 := opd_ok he hg h1
  have g2 := opd_ok he hg h2
  simp only [xo] at hx
  split at hx
  · rename_i k p k' q e1 e2
    cases hx
    rw [e1] at g1; rw [e2] at g2
    rw [ilt_eq, ilt_eq]
    refine yl_pure hr rfl rfl rfl ?_
    simp only [execOp, resolve]
    rw [run_bind, run_pure]
    simp only [invoke]
    cases most with
    | true =>
      simp only [if_true, builtin]
      refine run_val ?_
      rw [show (Array.map a.eval #[x, y]) = #[a.eval x, a.eval y] from by simp, show a.eval x = _ from g1, show a.eval y = _ from g2]
      show (Result.ok (Value.int k (if q > p then q else p)) w : Result Value) = _
      by_cases hpq : p < q
      · simp [hpq]
      · simp [hpq]
    | false =>
      simp only [Bool.false_eq_true, if_false, builtin]
      refine run_val ?_
      rw [show (Array.map a.eval #[x, y]) = #[a.eval x, a.eval y] from by simp, show a.eval x = _ from g1, show a.eval y = _ from g2]
      show (Result.ok (Value.int k (if q < p then q else p)) w : Result Value) = _
      by_cases hpq : q < p
      · simp [hpq]
      · simp [hpq]
  · cases hx
include hd
theorem ok_slcA {t el : TypeId} {n s : Nat} (ht : P.underlying t = some (.array n el)) (hs : sizeT P el = some s) {x : Operand} {x' : Opd} (h1 : cOpd P x = some x') {lo hi mx : Option Operand} {lo' hi' mx' : Option Opd} (h2 : cOpt P lo = some lo') (h3 : cOpt P hi = some hi') (h4 : cOpt P mx = some mx')
    (hm : ¬ (hi.isNone = true ∧ mx.isSome = true)) (hx : xo (.slcA n s x' lo' hi' mx') e h = some (v, h')) : OpOk P ρ B D σ h w a v h' (.slice t x lo hi mx) := by
  intro dst type pos after guard
  have g1 := opd_ok he hg h1
  obtain ⟨ti, i1, rfl⟩ := size_some hs
  simp only [xo] at hx
  split at hx
  · rename_i k off e1
    rw [e1] at g1
    split at hx
    · rename_i m e2
      split at hx
      · rename_i b e3
        split at hx
        · rename_i x0 e4
          split at hx
          · rename_i l ty ro e5
            have hq := cond_none hx; clear hx; obtain ⟨cl, hx⟩ := hq
            have cl := Nat.le_of_ble_eq_true cl
            cases hx
            have hdk : D k := hd k (List.mem_cons_self ..) (hr.wf k _ e5)
            obtain ⟨y, c, fz, q1, q2, _, _, q4, q5, _⟩ := hr.blk k _ hdk e5
            obtain ⟨y', g2, g3⟩ := g1
            rw [q1] at g2; cases g2
            obtain ⟨hb, hb1, hb2, hb3⟩ := bounds_ok (P := P) (w := w) he hg h2 h3 h4 hm (c := n) (Nat.le_refl _) (Nat.le_refl _) e2 e3 e4 false
            have hmm : (if mx.isSome = true then m else n) = m := by
              cases mx with
              | some q => rfl
              | none => cases h4; simp only [bound] at e2; cases e2; rfl
            rw [hmm] at hb
            have e0 : x0 * ti.size + (m - x0) * ti.size = m * ti.size := by rw [← Nat.add_mul]; congr 1; omega
            have e6 : m * ti.size ≤ n * ti.size := Nat.mul_le_mul_right _ hb3
            have key : ∀ off', (off' = if m = x0 then off else off + x0 * ti.size) → Yl ρ B D σ h w (.sl k off' ti.size (b - x0) (m - x0) false) (h.see k) ((execOp a.eval ⟨dst, .slice t x lo hi mx, type, pos, after, guard⟩).run P w) := by
              intro off' ho
              refine yl_pure hr rfl rfl (x := .slice (some ⟨y.1, y.2.1 + off', none⟩) (b - x0) (m - x0)) ⟨y, m - x0, q1, rfl, Nat.le_refl _, fun _ => rfl, ?_, by omega⟩ ?_
              · by_cases hx0 : m = x0
                · rw [if_pos hx0] at ho
                  subst ho
                  rw [hx0, Nat.sub_self, Nat.zero_mul]; omega
                · rw [if_neg hx0] at ho
                  subst ho; omega
              · simp only [execOp]
                rw [g3]
                refine run_val ?_
                unfold Instr.sliceAt
                rw [run_bind, run_und ht]
                simp only [run_bind, Instr.sureAddr, run_pure]
                rw [hb]
                simp only [run_size i1, addr_add]
                by_cases hx0 : m = x0
                · rw [if_pos hx0] at ho ⊢
                  subst ho; rfl
                · rw [if_neg hx0] at ho ⊢
                  subst ho; rw [Nat.add_assoc]
            cases cm : Nat.beq m x0 with
            | true => exact key _ (by rw [if_pos (Nat.eq_of_beq_eq_true cm)]; rfl)
            | false => exact key _ (by rw [if_neg (fun q => by subst q; simp at cm)]; rfl)
          · cases hx
        · cases hx
      · cases hx
    · cases hx
  · cases hx
include hf hρ
omit hd in
theorem ok_mks {t el : TypeId} {i : TypeInfo} {z : Value} {tz : TV} (ht : P.underlying t = some (.slice el)) (hi : P.info? el = some i) (hz0 : i.zero = some z) (ho : ofVal z = some tz) (hzs : tz.cells.length = i.size) (hsz : 0 < i.size) (hb2 : i.bytes < 100000)
    {l c : Operand} {l' c' : Opd} (h1 : cOpd P l = some l') (h2 : cOpd P c = some c') (hx : xo (.mks el i.size tz.cells l' c') e h = some (v, h')) : OpOk P ρ B D σ h w a v h' (.makeSlice t l c) := by
  intro dst type pos after guard
  have g1 := opd_ok he hg h1
  have g2 := opd_ok he hg h2
  simp only [xo] at hx
  split at hx
  · rename_i k p k' q e1 e2
    obtain ⟨c1, hx⟩ := cond_none hx
    obtain ⟨c2, hx⟩ := cond_none hx
    obtain ⟨c3, hx⟩ := cond_none hx
    cases hx
    have c1 := Nat.le_of_ble_eq_true c1
    have c2 : q < 100000 := blt_lt c2
    rw [e1] at g1; rw [e2] at g2
    have hzr := cells_all (ρ := ρ) (σ := σ) hρ (ofVal_ok ho) (ofVal_known ho)
    have hzc : z.cells.size = i.size := by
      have := VRs_len hzr
      simp only [Array.length_toList] at this
      omega
    have hrep := repl_ok hzr (by omega) q
    rw [hzc] at hrep
    have hfr : σ h.nx = none := hf h.nx (Nat.le_refl _) (Nat.lt_succ_self _)
    have t1 := new_ok hr (t := el) hrep hfr c3 #[]
    simp only [Array.append_empty, Array.size_map, Array.size_range] at t1
    refine ⟨_, _, .slice (some ⟨w.heap.size, 0, none⟩) p q, t1, ⟨_, q, Emb.put_self _ _ _, rfl, Nat.le_refl _, fun _ => rfl, Nat.le_of_eq (Nat.zero_add _), c1⟩, .inl ?_⟩
    simp only [execOp]
    rw [show a.eval l = _ from g1, show a.eval c = _ from g2]
    refine run_val ?_
    have h1 : (i.bytes : Int) * (q : Int) ≤ 281474976710656 := by
      have : i.bytes * q ≤ 100000 * 100000 := Nat.mul_le_mul (by omega) (by omega)
      have h2 : ((i.bytes * q : Nat) : Int) ≤ 281474976710656 := by omega
      rwa [Int.natCast_mul] at h2
    have := run_make (P := P) w t el i z ht hi hz0 k k' (Int.ofNat p) (Int.ofNat q) (Int.natCast_nonneg _) (by have e1 : Int.ofNat p = (p : Int) := rfl; have e2 : Int.ofNat q = (q : Int) := rfl; omega) h1 (by have e2 : Int.ofNat q = (q : Int) := rfl; omega)
    rw [this]
    have e3 : madeCells z.cells (Int.toNat (Int.ofNat q) * i.size) = (Array.range (q * i.size)).map (fun x => z.cells[x % i.size]!) := by
      rw [← hzc]; rfl
    rw [e3]
    rfl
  · cases hx
omit hρ he hg in
theorem ok_mkm {t : TypeId} (hx : xo .mkm e h = some (v, h')) : OpOk P ρ B D σ h w a v h' (.makeMap t none) := by
  intro dst type pos after guard
  simp only [xo] at hx
  obtain ⟨c3, hx⟩ := cond_none hx
  cases hx
  have hfr : σ h.nx = none := hf h.nx (Nat.le_refl _) (Nat.lt_succ_self _)
  have t1 := tr_new hr hfr (blt_lt c3) (b := .mp [] 0) (o := .map #[] 0) (room := 0) ⟨_, #[], Emb.put_self _ _ _, alloc_new _ _, hr.base, rfl⟩
  refine ⟨_, _, .map (some w.heap.size), t1, ⟨_, Emb.put_self _ _ _, rfl⟩, .inl ?_⟩
  simp only [execOp]
  exact run_val rfl
end
section
variable {P : Program} {w : World} {ρ : Cx} {σ : Emb}
theorem run_loop_eq {α : Type} (L : List α) (f : α → Option Bool × Unit → Sem (ForInStep (Option Bool × Unit))) (c : α → Bool)
    (h : ∀ x, x ∈ L → ∀ s, (f x s).run P w = .ok (if c x = true then .yield (none, ()) else .done (some false, ())) w) :
    (forIn L (none, ()) f).run P w = .ok (if L.all c = true then (none, ()) else (some false, ())) w := by
  induction L with
  | nil => rfl
  | cons x r ih =>
    rw [List.forIn_cons, run_bind, h x (List.mem_cons_self ..)]
    cases hc : c x with
    | true =>
      simp only [if_true]
      rw [ih fun y hy => h y (List.mem_cons_of_mem _ hy)]
      simp [hc]
    | false => simp [hc]
def cAt (a b : List TV) (j : Nat) : Bool := match a[j]?, b[j]? with
  | some x, some y => (scEq x y).getD false
  | _, _ => false
theorem scEqL_at : ∀ {a b : List TV} {r : Bool}, scEqL a b = some r → a.length = b.length ∧ r = (List.range a.length).all (cAt a b) ∧ ∀ j x y, a[j]? = some x → b[j]? = some y → scEq x y = some (cAt a b j)
  | [], [], r, h => by cases h; exact ⟨rfl, rfl, fun j x y hx => by simp at hx⟩
  | [], _ :: _, r, h => by cases h
  | _ :: _, [], r, h => by cases h
  | x :: p, y :: q, r, h => by
    unfold scEqL at h
    split at h
    · rename_i c d e1 e2
      cases h
      obtain ⟨i1, i2, i3⟩ := scEqL_at e2
      refine ⟨by simp [i1], ?_, fun j x' y' hx hy => ?_⟩
      · rw [List.length_cons, List.range_succ_eq_map, List.all_cons, List.all_map]
        have e3 : cAt (x :: p) (y :: q) 0 = c := by simp [cAt, e1]
        have e4 : (cAt (x :: p) (y :: q)) ∘ Nat.succ = cAt p q := by funext k; simp [cAt]
        rw [e3, e4, ← i2]
        cases c <;> rfl
      · cases j with
        | zero => simp at hx hy; subst hx; subst hy; rw [e1]; simp [cAt, e1]
        | succ j => have := i3 j x' y' (by simpa using hx) (by simpa using hy); rw [this]; simp [cAt]
    · cases h
theorem shpL_at : ∀ {ks : List Nat} {l : List TV}, shpL ks l = true → ks.length = l.length ∧ ∀ (j c : Nat) (t : TV), ks[j]? = some c → l[j]? = some t → shp c t = true
  | [], [], _ => ⟨rfl, fun j c t h => by simp at h⟩
  | [], _ :: _, h => by cases h
  | _ :: _, [], h => by cases h
  | c :: r, t :: q, h => by
    unfold shpL at h
    have h1 : shp c t = true := by cases c1 : shp c t <;> rw [c1] at h <;> first | rfl | cases h
    rw [h1] at h
    have h2 : shpL r q = true := h
    obtain ⟨i1, i2⟩ := shpL_at h2
    refine ⟨by simp [i1], fun j c' t' hc ht => ?_⟩
    cases j with
    | zero => simp at hc ht; subst hc; subst ht; exact h1
    | succ j => exact i2 j c' t' (by simpa using hc) (by simpa using ht)
theorem clsL_at : ∀ {fs : List Field} {i : Nat} {ks : List Nat}, clsL P fs i = some ks → ks.length = fs.length ∧ ∀ j f, fs[j]? = some f → f.offset = i + j ∧ f.name ≠ "_" ∧ ∃ c, ks[j]? = some c ∧ clsT P f.type = some c
  | [], i, ks, h => by cases h; exact ⟨rfl, fun j f h => by simp at h⟩
  | f :: r, i, ks, h => by
    unfold clsL at h
    obtain ⟨h1, h⟩ := cond_none h
    cases hn : f.name == "_" with
    | true => rw [hn] at h; cases h
    | false =>
      rw [hn] at h
      simp only [cond_false] at h
      split at h
      · rename_i c l e1 e2
        cases h
        obtain ⟨i1, i2⟩ := clsL_at e2
        refine ⟨by simp [i1], fun j g hg => ?_⟩
        cases j with
        | zero =>
          simp at hg; subst hg
          exact ⟨Nat.eq_of_beq_eq_true h1, by simpa using hn, c, by simp, e1⟩
        | succ j =>
          obtain ⟨k1, k2, c', k3, k4⟩ := i2 j g (by simpa using hg)
          exact ⟨by omega, k2, c', by simpa using k3, k4⟩
      · cases h
theorem eq_scal {t : TypeId} {c : Nat} (hc : clsT P t = some c) {x y : TV} {r : Bool} (hs : scEq x y = some r) (hx : shp c x = true) {a b : Value} (ha : VR ρ σ x a) (hb : VR ρ σ y b) (n : Nat) : (Op.equalIn (n + 1) t a b).run P w = .ok r w := by
  unfold Op.equalIn
  unfold clsT at hc
  unfold scEq at hs
  split at hs
  · rename_i k p k' q
    cases ha; cases hb
    obtain rfl := Nat.eq_of_beq_eq_true (show Nat.beq c 0 = true from hx)
    split at hs
    · rename_i e; subst e
      cases hs
      split at hc
      · rename_i k2 hu
        rw [run_bind, run_und hu, ieq_eq]
        simp only [if_true]
        rfl
      · cases hc
      · cases hc
      · cases hc
    · cases hs
  · rename_i l m
    obtain ⟨rfl, h1⟩ := ha
    obtain ⟨rfl, h2⟩ := hb
    obtain rfl := Nat.eq_of_beq_eq_true (show Nat.beq c 1 = true from hx)
    cases hs
    split at hc
    · cases hc
    · rename_i hu
      rw [run_bind, run_und hu, lEq_eq h1 h2]
      simp only []
      have : (bytesOf l == bytesOf m) = (List.map UInt8.ofNat l == List.map UInt8.ofNat m) := by
        rw [Bool.eq_iff_iff, MapKept.bytes_beq, beq_iff_eq]
        constructor
        · intro q; rw [← bytes_toList, ← bytes_toList, q]
        · intro q; unfold bytesOf; rw [q]
      rw [this]; rfl
    · cases hc
    · cases hc
  · rename_i p q
    cases ha; cases hb
    obtain rfl := Nat.eq_of_beq_eq_true (show Nat.beq c 2 = true from hx)
    cases hs
    split at hc
    · cases hc
    · cases hc
    · rename_i hu
      rw [run_bind, run_und hu]; rfl
    · cases hc
  · cases hs
theorem part_scal {t : TypeId} {c : Nat} (hc : clsT P t = some c) {cs : Array Value} {j : Nat} {v : Value} (h : cs.toList[j]? = some v) : (part t cs j).run P w = .ok v w := by
  have hs : (isAgg t).run P w = .ok false w := by
    unfold clsT at hc
    split at hc
    · rename_i hu; unfold isAgg; rw [run_bind, run_und hu]; rfl
    · rename_i hu; unfold isAgg; rw [run_bind, run_und hu]; rfl
    · rename_i hu; unfold isAgg; rw [run_bind, run_und hu]; rfl
    · cases hc
  unfold part
  rw [run_bind, hs]
  have h' : cs[j]? = some v := by simpa using h
  simp only [Bool.false_eq_true, if_false, h']
  rfl
end
section
variable {P : Program} {w : World} {ρ : Cx} {σ : Emb}
theorem equal_wide {kt : TypeId} {d : TypeDesc} {ks : List Nat} (hu : P.underlying kt = some d) (hw : wideT P kt d = some ks) {a b : List TV} {r : Bool} (hs : scEqL a b = some r) (ha : shpL ks a = true) (hb : shpL ks b = true) {xs ys : Array Value} (hx : VRs ρ σ a xs.toList) (hy : VRs ρ σ b ys.toList) :
    (Op.equal kt (.agg xs) (.agg ys)).run P w = .ok r w := by
  obtain ⟨l1, l2, l3⟩ := scEqL_at hs
  obtain ⟨m1, m2⟩ := shpL_at ha
  have step : ∀ {t : TypeId} {c j : Nat}, ks[j]? = some c → clsT P t = some c → ∃ u v, (part t xs j).run P w = .ok u w ∧ (part t ys j).run P w = .ok v w ∧ (Op.equalIn 9999 t u v).run P w = .ok (cAt a b j) w := by
    intro t c j hc ht
    have hja : j < a.length := by rw [← m1]; exact (List.getElem?_eq_some_iff.1 hc).1
    have ea : a[j]? = some a[j] := List.getElem?_eq_getElem hja
    have eb : b[j]? = some (b[j]'(by omega)) := List.getElem?_eq_getElem (by omega)
    obtain ⟨u, hu1, hu2⟩ := VRs_get hx ea
    obtain ⟨v, hv1, hv2⟩ := VRs_get hy eb
    exact ⟨u, v, part_scal ht hu1, part_scal ht hv1, eq_scal ht (l3 j _ _ ea eb) (m2 j _ _ hc ea) hu2 hv2 9998⟩
  unfold Op.equal
  rw [show Op.maxDepth = 9999 + 1 from rfl]
  unfold Op.equalIn
  rw [run_bind, run_und hu]
  unfold wideT at hw
  split at hw
  · rename_i fs
    simp only []
    cases hst : P.stoodInHeld kt with
    | true => rw [hst] at hw; cases hw
    | false =>
      rw [hst] at hw
      obtain ⟨f1, f2⟩ := clsL_at (show clsL P fs.toList 0 = some ks from hw)
      rw [run_bind, run_program]
      simp only [hst, Bool.false_eq_true, if_false]
      rw [run_bind, ← Array.forIn_toList]
      have key := run_loop_eq (P := P) (w := w) fs.toList (fun (f : Field) (_ : Option Bool × Unit) => (if f.name ≠ "_" then (do
          let u ← part f.type xs f.offset
          let v ← part f.type ys f.offset
          let q ← Op.equalIn 9999 f.type u v
          if (!q) = true then pure (ForInStep.done (some false, ())) else pure (ForInStep.yield (none, ()))) else pure (ForInStep.yield (none, ())) : Sem (ForInStep (Option Bool × Unit)))) (fun f => cAt a b f.offset) (fun f hf s => by
        obtain ⟨j, hj, hfe⟩ := List.getElem_of_mem hf
        obtain ⟨g1, g2, c, g3, g4⟩ := f2 j f (by rw [List.getElem?_eq_getElem hj, hfe])
        rw [Nat.zero_add] at g1
        rw [if_pos g2]
        have st := step (t := f.type) (c := c) (j := f.offset) (by rw [g1]; exact g3) g4
        obtain ⟨u, v, p1, p2, p3⟩ := st
        rw [run_bind, p1]
        show ((part f.type ys f.offset >>= _ : Sem _).run P w) = _
        rw [run_bind, p2]
        show ((Op.equalIn 9999 f.type u v >>= _ : Sem _).run P w) = _
        rw [run_bind, p3]
        cases cAt a b f.offset <;> rfl)
      have hall : fs.toList.all (fun f => cAt a b f.offset) = r := by
        rw [l2, ← m1, f1]
        have : fs.toList.map (·.offset) = List.range fs.toList.length := by
          apply List.ext_getElem?
          intro j
          rw [List.getElem?_map]
          by_cases hj : j < fs.toList.length
          · rw [List.getElem?_eq_getElem hj, List.getElem?_range hj]
            obtain ⟨g1, _⟩ := f2 j _ (List.getElem?_eq_getElem hj)
            rw [Nat.zero_add] at g1
            exact congrArg some g1
          · rw [List.getElem?_eq_none (Nat.le_of_not_lt hj), List.getElem?_eq_none (by rw [List.length_range]; exact Nat.le_of_not_lt hj)]; rfl
        rw [← this, List.all_map]
        rfl
      rw [hall] at key
      split
      · rename_i st w1 heq
        have e := key.symm.trans heq
        cases r <;> (cases e; rfl)
      · rename_i heq
        have e := key.symm.trans heq
        cases e
  · rename_i n e
    split at hw
    · rename_i c e1 e2
      cases hw
      simp only []
      have hsz : ∃ i, P.info? e = some i ∧ i.size = 1 := by
        unfold sizeT at e2
        rw [Option.map_eq_some_iff] at e2
        exact e2
      obtain ⟨i, hi, hi1⟩ := hsz
      rw [run_bind, run_size hi, hi1]
      simp only [Nat.mul_one]
      rw [run_bind, Std.Legacy.Range.forIn_eq_forIn_range']
      have hn : a.length = n := by rw [← m1]; simp
      have key := run_loop_eq (P := P) (w := w) (List.range' 0 n 1) (fun (i : Nat) (_ : Option Bool × Unit) => ((do
          let u ← part e xs i
          let v ← part e ys i
          let q ← Op.equalIn 9999 e u v
          if (!q) = true then pure (ForInStep.done (some false, ())) else pure (ForInStep.yield (none, ()))) : Sem (ForInStep (Option Bool × Unit)))) (fun i => cAt a b i) (fun j hj s => by
        have hjn : j < n := by
          have := List.mem_range'.1 hj
          obtain ⟨q, q1, q2⟩ := this
          omega
        have st := step (t := e) (c := c) (j := j) (by simp [hjn]) e1
        obtain ⟨u, v, p1, p2, p3⟩ := st
        rw [run_bind, p1]
        show ((part e ys j >>= _ : Sem _).run P w) = _
        rw [run_bind, p2]
        show ((Op.equalIn 9999 e u v >>= _ : Sem _).run P w) = _
        rw [run_bind, p3]
        cases cAt a b j <;> rfl)
      have hall : (List.range' 0 n 1).all (fun i => cAt a b i) = r := by
        rw [l2, hn, List.range_eq_range']
      rw [hall] at key
      simp only [Std.Legacy.Range.size, Nat.sub_zero, Nat.add_one_sub_one, Nat.div_one]
      split
      · rename_i st w1 heq
        have e := key.symm.trans heq
        cases r <;> (cases e; rfl)
      · rename_i heq
        have e := key.symm.trans heq
        cases e
    · cases hw
  · cases hw
end
theorem keyEq_ok {P : Program} {kt : TypeId} {ρ : Cx} {σ : Emb} {str : KK} {x y : TV} {r : Bool} (h : keyEq str x y = some r) {a b : Value} (ha : VR ρ σ x a) (hb : VR ρ σ y b) (hnw : ∀ ks, str ≠ .w ks) : ∀ d, KD P kt str d → Instr.sameNow d a b = some r := by
  intro d hd
  unfold keyEq at h
  split at h
  · split at h
    · rename_i k p k' q
      cases ha; cases hb
      rcases hd with ⟨_, kk, rfl⟩ | ⟨hl, _⟩ | ⟨_, hl, _⟩
      · split at h
        · cases h
          rename_i e; subst e
          rw [ieq_eq]
          unfold Instr.sameNow
          simp
        · cases h
      · cases hl
      · cases hl
    · cases h
  · split at h
    · rename_i l m
      obtain ⟨rfl, h1⟩ := ha
      obtain ⟨rfl, h2⟩ := hb
      rcases hd with ⟨hl, _⟩ | ⟨_, rfl⟩ | ⟨_, hl, _⟩
      · cases hl
      · cases h
        rw [lEq_eq h1 h2]
        unfold Instr.sameNow
        simp only [Option.some.injEq]
        rw [Bool.eq_iff_iff, MapKept.bytes_beq, beq_iff_eq]
        constructor
        · intro q; rw [← bytes_toList, ← bytes_toList, q]
        · intro q; unfold bytesOf; rw [q]
      · cases hl
    · cases h
  · exact absurd rfl (hnw _)
theorem keyEq_w {ks : List Nat} {x y : TV} {r : Bool} (h : keyEq (.w ks) x y = some r) : ∃ a b, x = .ag a ∧ y = .ag b ∧ shpL ks a = true ∧ shpL ks b = true ∧ scEqL a b = some r := by
  unfold keyEq at h
  split at h
  · rename_i e; cases e
  · rename_i e; cases e
  · rename_i ks' e
    cases e
    split at h
    · obtain ⟨c1, h⟩ := cond_none h
      obtain ⟨c2, h⟩ := cond_none h
      exact ⟨_, _, rfl, rfl, c1, c2, h⟩
    · cases h
theorem findK_key {str : KK} {k : TV} : ∀ {es : List (TV × TV × Nat)} {i : Nat} {r : Option (Nat × TV)}, findK str k es i = some r → keyOk str k = true
  | [], i, r, h => by
    unfold findK at h
    exact (cond_none h).1
  | en :: q, i, r, h => by
    cases str with
    | n => rfl
    | s => rfl
    | w ks =>
      unfold findK at h
      split at h
      · rename_i e1; obtain ⟨a, b, rfl, _, c, _⟩ := keyEq_w e1; exact c
      · rename_i e1; obtain ⟨a, b, rfl, _, c, _⟩ := keyEq_w e1; exact c
      · cases h
theorem findN_ok {P : Program} {kt : TypeId} {ρ : Cx} {σ : Emb} {str : KK} {k : TV} {a : Value} (ha : VR ρ σ k a) {d : TypeDesc} (hd : KD P kt str d) (hnw : ∀ ks, str ≠ .w ks) : ∀ {es : List (TV × TV × Nat)} {m : List MapEntry} {i : Nat} {r : Option (Nat × TV)}, findK str k es i = some r → ER ρ σ es m →
    (r = none ∧ Instr.findNow d a m i = some none) ∨ (∃ j t v, r = some (j, t) ∧ Instr.findNow d a m i = some (some (j, v)) ∧ VR ρ σ t v ∧ i ≤ j ∧ ∃ en ke, es[j - i]? = some en ∧ m[j - i]? = some ke ∧ keyEq str k en.1 = some true ∧ VR ρ σ en.1 ke.key)
  | [], m, i, r, h, he => by
    unfold findK at h
    obtain ⟨_, h⟩ := cond_none h
    cases h; cases he; exact .inl ⟨rfl, rfl⟩
  | en :: q, m, i, r, h, ⟨ke, n, h1, h2, h3, h4, h5⟩ => by
    subst h1
    unfold findK at h
    split at h
    · rename_i e1
      cases h
      refine .inr ⟨i, _, ke.val, rfl, ?_, h3, Nat.le_refl _, en, ke, by simp, by simp, e1, h2⟩
      unfold Instr.findNow
      simp only [keyEq_ok e1 ha h2 hnw d hd]
    · rename_i e1
      have e2 := keyEq_ok e1 ha h2 hnw d hd
      rcases findN_ok ha hd hnw h h5 with ⟨rfl, q2⟩ | ⟨j, t, v, rfl, q2, q3, q4, en', ke', q5, q6, q7, q8⟩
      · refine .inl ⟨rfl, ?_⟩
        unfold Instr.findNow
        simp only [e2]
        exact q2
      · refine .inr ⟨j, t, v, rfl, ?_, q3, by omega, en', ke', ?_, ?_, q7, q8⟩
        · unfold Instr.findNow
          simp only [e2]
          exact q2
        · rw [show j - i = (j - (i + 1)) + 1 from by omega]; simpa using q5
        · rw [show j - i = (j - (i + 1)) + 1 from by omega]; simpa using q6
    · cases h
theorem findW_ok {P : Program} {w : World} {kt : TypeId} {ρ : Cx} {σ : Emb} {ks : List Nat} {k : TV} {a : Value} (ha : VR ρ σ k a) {d : TypeDesc} (hu : P.underlying kt = some d) (hw : wideT P kt d = some ks) : ∀ {es : List (TV × TV × Nat)} {m : List MapEntry} {i : Nat} {r : Option (Nat × TV)}, findK (.w ks) k es i = some r → ER ρ σ es m →
    (r = none ∧ (Instr.findAsking kt a m i).run P w = .ok none w) ∨ (∃ j t v, r = some (j, t) ∧ (Instr.findAsking kt a m i).run P w = .ok (some (j, v)) w ∧ VR ρ σ t v ∧ i ≤ j ∧ ∃ en ke, es[j - i]? = some en ∧ m[j - i]? = some ke ∧ keyEq (.w ks) k en.1 = some true ∧ VR ρ σ en.1 ke.key)
  | [], m, i, r, h, he => by
    unfold findK at h
    obtain ⟨_, h⟩ := cond_none h
    cases h; cases he; exact .inl ⟨rfl, rfl⟩
  | en :: q, m, i, r, h, ⟨ke, n, h1, h2, h3, h4, h5⟩ => by
    subst h1
    have eqv : ∀ {c : Bool}, keyEq (.w ks) k en.1 = some c → (Op.equal kt a ke.key).run P w = .ok c w := by
      intro c hc
      obtain ⟨p, q, e1, e2, c1, c2, c3⟩ := keyEq_w hc
      rw [e1] at ha
      rw [e2] at h2
      obtain ⟨xs, rfl, hx⟩ := ha
      obtain ⟨ys, e3, hy⟩ := h2
      rw [e3]
      exact equal_wide hu hw c3 c1 c2 hx hy
    unfold findK at h
    split at h
    · rename_i e1
      cases h
      refine .inr ⟨i, _, ke.val, rfl, ?_, h3, Nat.le_refl _, en, ke, by simp, by simp, e1, h2⟩
      unfold Instr.findAsking
      rw [run_bind, eqv e1]
      rfl
    · rename_i e1
      rcases findW_ok (w := w) ha hu hw h h5 with ⟨rfl, q2⟩ | ⟨j, t, v, rfl, q2, q3, q4, en', ke', q5, q6, q7, q8⟩
      · refine .inl ⟨rfl, ?_⟩
        unfold Instr.findAsking
        rw [run_bind, eqv e1]
        exact q2
      · refine .inr ⟨j, t, v, rfl, ?_, q3, by omega, en', ke', ?_, ?_, q7, q8⟩
        · unfold Instr.findAsking
          rw [run_bind, eqv e1]
          exact q2
        · rw [show j - i = (j - (i + 1)) + 1 from by omega]; simpa using q5
        · rw [show j - i = (j - (i + 1)) + 1 from by omega]; simpa using q6
    · cases h
theorem findKey_ok {P : Program} {w : World} {kt : TypeId} {ρ : Cx} {σ : Emb} {str : KK} {d : TypeDesc} (hu : P.underlying kt = some d) (hd : KD P kt str d) {k : TV} {a : Value} (ha : VR ρ σ k a) {es : List (TV × TV × Nat)} {m : List MapEntry} {r : Option (Nat × TV)} (h : findK str k es 0 = some r) (he : ER ρ σ es m) :
    (r = none ∧ (Instr.findKey kt a m).run P w = .ok none w) ∨ (∃ j t v, r = some (j, t) ∧ (Instr.findKey kt a m).run P w = .ok (some (j, v)) w ∧ VR ρ σ t v ∧ ∃ en ke, es[j]? = some en ∧ m[j]? = some ke ∧ keyEq str k en.1 = some true ∧ VR ρ σ en.1 ke.key) := by
  have now : ∀ {x : Option (Nat × Value)}, Instr.findNow d a m 0 = some x → (Instr.findKey kt a m).run P w = .ok x w := fun hf => by
    unfold Instr.findKey
    rw [run_bind, run_und hu]
    simp only [hf]
    rfl
  by_cases hnw : ∀ ks, str ≠ .w ks
  · rcases findN_ok ha hd hnw h he with ⟨rfl, q2⟩ | ⟨j, t, v, rfl, q2, q3, q4, en', ke', q5, q6, q7, q8⟩
    · exact .inl ⟨rfl, now q2⟩
    · exact .inr ⟨j, t, v, rfl, now q2, q3, en', ke', by simpa using q5, by simpa using q6, q7, q8⟩
  · have : ∃ ks, str = .w ks := by
      cases str with
      | n => exact absurd (fun ks => by simp) hnw
      | s => exact absurd (fun ks => by simp) hnw
      | w ks => exact ⟨ks, rfl⟩
    obtain ⟨ks, rfl⟩ := this
    rcases hd with ⟨hl, _⟩ | ⟨hl, _⟩ | ⟨ks', hl, hw⟩
    · cases hl
    · cases hl
    · cases hl
      have ask : (Instr.findKey kt a m).run P w = (Instr.findAsking kt a m).run P w := run_findKey_eq w (by
        rw [hu]
        unfold wideT at hw
        split at hw
        · rfl
        · rfl
        · cases hw) a m
      rcases findW_ok (w := w) ha hu hw h he with ⟨rfl, q2⟩ | ⟨j, t, v, rfl, q2, q3, q4, en', ke', q5, q6, q7, q8⟩
      · exact .inl ⟨rfl, ask.trans q2⟩
      · exact .inr ⟨j, t, v, rfl, ask.trans q2, q3, en', ke', by simpa using q5, by simpa using q6, q7, q8⟩
theorem ER_app {ρ : Cx} {σ : Emb} : ∀ {es : List (TV × TV × Nat)} {m : List MapEntry}, ER ρ σ es m → ∀ {fs : List (TV × TV × Nat)} {n : List MapEntry}, ER ρ σ fs n → ER ρ σ (es ++ fs) (m ++ n)
  | [], _, h, _, _, h2 => by cases h; exact h2
  | _ :: _, _, ⟨ke, n, h1, h2, h3, h4, h5⟩, _, _, h6 => by subst h1; exact ⟨ke, n ++ _, rfl, h2, h3, h4, ER_app h5 h6⟩
theorem ER_upd {ρ : Cx} {σ : Emb} {k v : TV} {a b : Value} (ha : VR ρ σ k a) (hb : VR ρ σ v b) : ∀ {es : List (TV × TV × Nat)} {m : List MapEntry} (i : Nat), ER ρ σ es m → ER ρ σ (updK k v es i) (m.modify i fun e => { e with key := a, val := b })
  | [], _, i, h => by cases h; simp [updK]; rfl
  | _ :: _, _, 0, ⟨ke, n, h1, h2, h3, h4, h5⟩ => by subst h1; exact ⟨_, n, rfl, ha, hb, h4, h5⟩
  | _ :: _, _, i + 1, ⟨ke, n, h1, h2, h3, h4, h5⟩ => by subst h1; exact ⟨ke, _, rfl, h2, h3, h4, ER_upd ha hb i h5⟩
theorem ER_del {ρ : Cx} {σ : Emb} : ∀ {es : List (TV × TV × Nat)} {m : List MapEntry} (i : Nat), ER ρ σ es m → ER ρ σ (delK es i) (m.eraseIdx i)
  | [], _, i, h => by cases h; simp [delK]; rfl
  | _ :: _, _, 0, ⟨ke, n, h1, h2, h3, h4, h5⟩ => by subst h1; exact h5
  | _ :: _, _, i + 1, ⟨ke, n, h1, h2, h3, h4, h5⟩ => by subst h1; exact ⟨ke, _, rfl, h2, h3, h4, ER_del i h5⟩
end Go.Proofs.YtgjfdbbghefdbaaGreatDoor.Sx
namespace Go.Proofs.YtgjfdbbghefdbaaGreatDoor.Sx
theorem bits_sc {ρ : Cx} {σ : Emb} {x y : TV} (h : scEq x y = some true) {a b : Value} (ha : VR ρ σ x a) (hb : VR ρ σ y b) (n : Nat) : Instr.sameBits n b a = true := by
  unfold scEq at h
  split at h
  · rename_i k p k' q
    cases ha; cases hb
    split at h
    · rename_i e; subst e
      have h : ieq p q = true := by cases hq : ieq p q <;> rw [hq] at h <;> first | rfl | cases h
      rw [ieq_eq, beq_iff_eq] at h
      subst h
      unfold Instr.sameBits
      simp
    · cases h
  · rename_i l m
    obtain ⟨rfl, h1⟩ := ha
    obtain ⟨rfl, h2⟩ := hb
    have h : lEq l m = true := by cases hq : lEq l m <;> rw [hq] at h <;> first | rfl | cases h
    rw [lEq_eq h1 h2, beq_iff_eq] at h
    have : bytesOf m = bytesOf l := by unfold bytesOf; rw [h]
    rw [this]
    unfold Instr.sameBits
    rw [MapKept.bytes_beq]
  · rename_i p q
    cases ha; cases hb
    have h : (p == q) = true := by cases hq : p == q <;> rw [hq] at h <;> first | rfl | cases h
    rw [beq_iff_eq] at h
    subst h
    unfold Instr.sameBits
    simp
  · cases h
theorem bits_ag {ρ : Cx} {σ : Emb} {p q : List TV} (h : scEqL p q = some true) {xs ys : Array Value} (hx : VRs ρ σ p xs.toList) (hy : VRs ρ σ q ys.toList) : Instr.sameBits 10000 (.agg ys) (.agg xs) = true := by
  have key : ∀ {p q : List TV}, scEqL p q = some true → ∀ {l m : List Value}, VRs ρ σ p l → VRs ρ σ q m → l.length = m.length ∧ ((m.zip l).all fun z => Instr.sameBits 9999 z.1 z.2) = true := by
    intro p
    induction p with
    | nil =>
      intro q h l m hl hm
      cases q with
      | nil => cases hl; cases hm; exact ⟨rfl, rfl⟩
      | cons y r => cases h
    | cons x r ih =>
      intro q h l m hl hm
      cases q with
      | nil => cases h
      | cons y s =>
        obtain ⟨u, l', rfl, u1, u2⟩ := hl
        obtain ⟨v, m', rfl, v1, v2⟩ := hm
        unfold scEqL at h
        split at h
        · rename_i c d e1 e2
          cases c with
          | false => cases h
          | true =>
            cases d with
            | false => cases h
            | true =>
              obtain ⟨i1, i2⟩ := ih e2 u2 v2
              exact ⟨by simp [i1], by simp only [List.zip_cons_cons, List.all_cons, i2, bits_sc e1 u1 v1 9999, Bool.and_self]⟩
        · cases h
  obtain ⟨k1, k2⟩ := key h hx hy
  rw [show (10000 : Nat) = 9999 + 1 from rfl]
  unfold Instr.sameBits
  rw [Bool.and_eq_true]
  refine ⟨by simpa using k1.symm, k2⟩
theorem keyEq_bits {ρ : Cx} {σ : Emb} {str : KK} {x y : TV} (h : keyEq str x y = some true) {a b : Value} (ha : VR ρ σ x a) (hb : VR ρ σ y b) : Instr.sameBits 10000 b a = true := by
  unfold keyEq at h
  split at h
  · split at h
    · rename_i k p k' q
      cases ha; cases hb
      split at h
      · rename_i e; subst e
        have h : ieq p q = true := by cases hq : ieq p q <;> rw [hq] at h <;> first | rfl | cases h
        rw [ieq_eq, beq_iff_eq] at h
        subst h
        unfold Instr.sameBits
        simp
      · cases h
    · cases h
  · split at h
    · rename_i l m
      obtain ⟨rfl, h1⟩ := ha
      obtain ⟨rfl, h2⟩ := hb
      have h : lEq l m = true := by cases hq : lEq l m <;> rw [hq] at h <;> first | rfl | cases h
      rw [lEq_eq h1 h2, beq_iff_eq] at h
      have : bytesOf m = bytesOf l := by unfold bytesOf; rw [h]
      rw [this]
      unfold Instr.sameBits
      rw [MapKept.bytes_beq]
    · cases h
  · split at h
    · rename_i p q
      obtain ⟨c1, h⟩ := cond_none h
      obtain ⟨c2, h⟩ := cond_none h
      obtain ⟨xs, rfl, hx⟩ := ha
      obtain ⟨ys, rfl, hy⟩ := hb
      exact bits_ag h hx hy
    · cases h
section
variable {P : Program} {w : World}
theorem scal_check {t : TypeId} {c : Nat} (hc : clsT P t = some c) (empty : Bool) (n : Nat) (v : Value) : (Instr.checkKey empty (n + 1) t v).run P w = .ok () w := by
  unfold Instr.checkKey
  unfold clsT at hc
  split at hc
  · rename_i hu; rw [run_bind, run_und hu]; rfl
  · rename_i hu; rw [run_bind, run_und hu]; rfl
  · rename_i hu; rw [run_bind, run_und hu]; rfl
  · cases hc
theorem run_loop_ok {α : Type} (L : List α) (f : α → PUnit → Sem (ForInStep PUnit)) (h : ∀ x, x ∈ L → ∀ s, (f x s).run P w = .ok (.yield PUnit.unit) w) : (forIn L PUnit.unit f).run P w = .ok PUnit.unit w := by
  induction L with
  | nil => rfl
  | cons x r ih =>
    rw [List.forIn_cons, run_bind, h x (List.mem_cons_self ..)]
    exact ih fun y hy => h y (List.mem_cons_of_mem _ hy)
theorem run_checkKey {ρ : Cx} {σ : Emb} {t : TypeId} {str : KK} {d : TypeDesc} (h : P.underlying t = some d) (hd : KD P t str d) {k : TV} {v : Value} (hv : VR ρ σ k v) (hk : keyOk str k = true) (empty : Bool) : (Instr.checkKey empty 10000 t v).run P w = .ok () w := by
  rw [show (10000 : Nat) = 9999 + 1 from rfl]
  rcases hd with ⟨_, k, rfl⟩ | ⟨_, rfl⟩ | ⟨ks, rfl, hw⟩
  · unfold Instr.checkKey
    rw [run_bind, run_und h]; rfl
  · unfold Instr.checkKey
    rw [run_bind, run_und h]; rfl
  · have hk' : ∃ l, k = .ag l ∧ shpL ks l = true := by
      cases k <;> first | exact ⟨_, rfl, hk⟩ | cases hk
    obtain ⟨l, rfl, hl⟩ := hk'
    obtain ⟨cs, rfl, hcs⟩ := hv
    obtain ⟨m1, m2⟩ := shpL_at hl
    have step : ∀ {e : TypeId} {c j : Nat}, ks[j]? = some c → clsT P e = some c → ∃ u, (part e cs j).run P w = .ok u w := by
      intro e c j hc he
      have hj : j < l.length := by rw [← m1]; exact (List.getElem?_eq_some_iff.1 hc).1
      obtain ⟨u, hu1, _⟩ := VRs_get hcs (List.getElem?_eq_getElem hj)
      exact ⟨u, part_scal he hu1⟩
    unfold Instr.checkKey
    rw [run_bind, run_und h]
    unfold wideT at hw
    split at hw
    · rename_i fs
      simp only []
      cases hst : P.stoodInHeld t with
      | true => rw [hst] at hw; cases hw
      | false =>
        rw [hst] at hw
        obtain ⟨f1, f2⟩ := clsL_at (show clsL P fs.toList 0 = some ks from hw)
        rw [← Array.forIn_toList, run_bind]
        have key := run_loop_ok (P := P) (w := w) fs.toList (fun (f : Field) (_ : PUnit) => (if f.name ≠ "_" then (do
            let u ← part f.type cs f.offset
            Instr.checkKey empty 9999 f.type u
            pure (ForInStep.yield PUnit.unit)) else pure (ForInStep.yield PUnit.unit) : Sem (ForInStep PUnit))) (fun f hf s => by
          obtain ⟨j, hj, hfe⟩ := List.getElem_of_mem hf
          obtain ⟨g1, g2, c, g3, g4⟩ := f2 j f (by rw [List.getElem?_eq_getElem hj, hfe])
          rw [Nat.zero_add] at g1
          rw [if_pos g2]
          obtain ⟨u, p1⟩ := step (e := f.type) (c := c) (j := f.offset) (by rw [g1]; exact g3) g4
          rw [run_bind, p1]
          show ((Instr.checkKey empty (9998 + 1) f.type u >>= _ : Sem _).run P w) = _
          rw [run_bind, scal_check g4]
          rfl)
        split
        · rename_i heq
          have e := key.symm.trans heq
          cases e
          rfl
        · rename_i heq
          have e := key.symm.trans heq
          cases e
    · rename_i n e
      split at hw
      · rename_i c e1 e2
        cases hw
        simp only []
        have hsz : ∃ i, P.info? e = some i ∧ i.size = 1 := by
          unfold sizeT at e2
          rw [Option.map_eq_some_iff] at e2
          exact e2
        obtain ⟨i, hi, hi1⟩ := hsz
        rw [run_bind, Std.Legacy.Range.forIn_eq_forIn_range']
        have key := run_loop_ok (P := P) (w := w) (List.range' 0 n 1) (fun (i : Nat) (_ : PUnit) => ((do
            let z ← sizeOf e
            let u ← part e cs (i * z)
            Instr.checkKey empty 9999 e u
            pure (ForInStep.yield PUnit.unit)) : Sem (ForInStep PUnit))) (fun j hj s => by
          have hjn : j < n := by
            obtain ⟨q, q1, q2⟩ := List.mem_range'.1 hj
            omega
          obtain ⟨u, p1⟩ := step (e := e) (c := c) (j := j) (by simp [hjn]) e1
          rw [run_bind, run_size hi, hi1]
          show ((part e cs (j * 1) >>= _ : Sem _).run P w) = _
          rw [Nat.mul_one, run_bind, p1]
          show ((Instr.checkKey empty (9998 + 1) e u >>= _ : Sem _).run P w) = _
          rw [run_bind, scal_check e1]
          rfl)
        simp only [Std.Legacy.Range.size, Nat.sub_zero, Nat.add_one_sub_one, Nat.div_one]
        split
        · rename_i heq
          have e := key.symm.trans heq
          cases e
          rfl
        · rename_i heq
          have e := key.symm.trans heq
          cases e
      · cases hw
    · cases hw
theorem run_getMap {b : Nat} {es : Array MapEntry} {c : Nat} (h : w.heap[b]? = some (.map es c)) : (getObj b).run P w = .ok (.map es c) w := by
  show (Sem.getObj b Sem.pure).run P w = _
  unfold Sem.run
  rw [h]
  rfl
theorem run_setMap {b : Nat} {es : Array MapEntry} {c : Nat} (h : w.heap[b]? = some (.map es c)) (o : Obj) : ∃ w', (setObj b o).run P w = .ok () w' ∧ Out w w' ∧ w'.heap.size = w.heap.size ∧ (∀ j, j ≠ b → w'.heap[j]? = w.heap[j]?) ∧ w'.heap[b]? = some o := by
  refine ⟨{ w with heap := w.heap.setIfInBounds b o }, ?_, ⟨rfl, rfl, rfl⟩, by simp, fun j hj => ?_, ?_⟩
  · show (Sem.setObj b o (.pure ())).run P w = _
    unfold Sem.run
    rw [h]
    rfl
  · show (w.heap.setIfInBounds b o)[j]? = _
    rw [Array.getElem?_setIfInBounds_ne (Ne.symm hj)]
  · show (w.heap.setIfInBounds b o)[b]? = _
    have := (Array.getElem?_eq_some_iff.1 h).1
    simp [this]
theorem run_findKey {kt : TypeId} {d : TypeDesc} (h : P.underlying kt = some d) {k : Value} {es : List MapEntry} {r : Option (Nat × Value)} (hf : Instr.findNow d k es 0 = some r) : (Instr.findKey kt k es).run P w = .ok r w := by
  unfold Instr.findKey
  rw [run_bind, run_und h]
  simp only [hf]
  rfl
theorem key_some {t : TypeId} {str : KK} {el : TypeId} (h : keyT P t = some (str, el)) : ∃ k d, P.underlying t = some (.map k el) ∧ P.underlying k = some d ∧ KD P k str d := by
  unfold keyT at h
  split at h
  · rename_i k el' e1
    split at h
    · rename_i q e2
      cases h
      exact ⟨k, _, e1, e2, .inl ⟨rfl, q, rfl⟩⟩
    · rename_i e2
      cases h
      exact ⟨k, _, e1, e2, .inr (.inl ⟨rfl, rfl⟩)⟩
    · rename_i d _ _ e2
      split at h
      · rename_i ks e3
        cases h
        exact ⟨k, _, e1, e2, .inr (.inr ⟨ks, rfl, e3⟩)⟩
      · cases h
    · cases h
  · cases h
end
section
variable {P : Program} {ρ : Cx} {B : Nat} {D : Nat → Prop} {σ : Emb} {h h' : SH} {w : World} {v : TV} (hr : HR ρ B D σ h w) {e : Trie TV} {a : Act} (he : EnvR ρ σ e a.tmps) (hg : GlobR P σ)
  (hd : Hand D h h')
include hr he hg hd
theorem ok_ins {t : TypeId} {str : KK} {el : TypeId} (ht : keyT P t = some (str, el)) {m k x : Operand} {m' k' x' : Opd} (h1 : cOpd P m = some m') (h2 : cOpd P k = some k') (h3 : cOpd P x = some x') (hx : xo (.ins str m' k' x') e h = some (v, h')) :
    OpOk P ρ B D σ h w a v h' (.insert t m k x) ∧ OpOk P ρ B D σ h w a v h' (.mapUpdate t m k x) := by
  have g1 := opd_ok he hg h1
  have g2 := opd_ok he hg h2
  have g3 := opd_ok he hg h3
  obtain ⟨kt, d, u1, u2, u3⟩ := key_some ht
  have key : ∃ w', (Instr.mapUpdate t (a.eval m) (a.eval k) (a.eval x)).run P w = .ok () w' ∧ Tr ρ B D σ h w σ h' w' ∧ v = .tu [] := by
    simp only [xo] at hx
    split at hx
    · rename_i b e1
      rw [e1] at g1
      split at hx
      · rename_i es cl e2
        have hkn := hr.wf b _ e2
        obtain ⟨y, g4, g5⟩ := g1
        rw [g5]
        have body : keyOk str (k'.ev e) = true → ∀ {ar : Array MapEntry}, w.heap[y.1]? = some (.map ar cl) → ∀ {r : Option (Nat × Value)} {w' : World}, (Instr.findKey kt (a.eval k) ar.toList).run P w = .ok r w →
            (match r with
              | some (i, _) => (do let key ← Instr.keyThatStays (((ar[i]? : Option MapEntry).map MapEntry.key).getD (a.eval k)) (a.eval k); setObj y.1 (.map (ar.modify i fun e => { e with key, val := a.eval x }) cl) : Sem Unit)
              | none => setObj y.1 (.map (ar.push { key := a.eval k, val := a.eval x, born := cl }) (cl + 1))).run P w = .ok () w' →
            (Instr.mapUpdate t (.map (some y.1)) (a.eval k) (a.eval x)).run P w = .ok () w' := by
          intro hko ar har r w' hfn hrun
          unfold Instr.mapUpdate
          rw [run_bind, run_und u1]
          simp only []
          rw [run_bind, run_getMap har]
          simp only []
          rw [run_bind, run_checkKey u2 u3 g2 hko]
          simp only []
          rw [run_bind, hfn]
          simp only []
          cases r with
          | none => exact hrun
          | some q => exact hrun
        split at hx
        · rename_i i u e3
          have hq := cond_none hx; clear hx; obtain ⟨c4, hx⟩ := hq
          cases hx
          have hdb : D b := hd b (List.mem_cons_self ..) hkn
          obtain ⟨y', ar, q1, q2, q3, q4⟩ := hr.blk b _ hdb e2
          rw [g4] at q1; cases q1
          rcases findKey_ok (w := w) u2 u3 g2 e3 q4 with ⟨r1, _⟩ | ⟨j, t0, v0, r1, r2, r3, en, ke, r5, r6, r7, r8⟩
          · cases r1
          · cases r1
            have hkt : (Instr.keyThatStays (((ar[i]? : Option MapEntry).map MapEntry.key).getD (a.eval k)) (a.eval k)).run P w = .ok (a.eval k) w := by
              have : ar[i]? = some ke := by simpa using r6
              rw [this]
              unfold Instr.keyThatStays
              simp only [Option.map_some, Option.getD_some, keyEq_bits r7 g2 r8, if_true]
              rfl
            obtain ⟨w', s1, s0, s2, s3, s4⟩ := run_setMap (P := P) q2 (.map (ar.modify i fun e => { e with key := a.eval k, val := a.eval x }) cl)
            refine ⟨w', body (findK_key e3) q2 r2 ?_, tr_wrt hr hdb e2 trivial (blt_lt c4) g4 s0 s2 s3 ⟨y, _, g4, s4, q3, ?_⟩, rfl⟩
            · simp only []
              rw [run_bind, hkt]
              exact s1
            · rw [Array.toList_modify]
              exact ER_upd g2 g3 i q4
        · rename_i e3
          have hq := cond_none hx; clear hx; obtain ⟨c4, hx⟩ := hq
          cases hx
          have hdb : D b := hd b (List.mem_cons_self ..) hkn
          obtain ⟨y', ar, q1, q2, q3, q4⟩ := hr.blk b _ hdb e2
          rw [g4] at q1; cases q1
          rcases findKey_ok (w := w) u2 u3 g2 e3 q4 with ⟨_, r2⟩ | ⟨j, t0, v0, r1, _⟩
          · obtain ⟨w', s1, s0, s2, s3, s4⟩ := run_setMap (P := P) q2 (.map (ar.push { key := a.eval k, val := a.eval x, born := cl }) (cl + 1))
            refine ⟨w', body (findK_key e3) q2 r2 s1, tr_wrt hr hdb e2 trivial (blt_lt c4) g4 s0 s2 s3 ⟨y, _, g4, s4, q3, ?_⟩, rfl⟩
            rw [Array.toList_push]
            exact ER_app q4 ⟨_, [], rfl, g2, g3, rfl, rfl⟩
          · cases r1
        · cases hx
      · cases hx
    · cases hx
  obtain ⟨w', s1, s2, rfl⟩ := key
  constructor
  · intro dst type pos after guard
    refine ⟨σ, w', undef, s2, ⟨#[], rfl, rfl⟩, .inr ⟨?_, rfl⟩⟩
    simp only [execOp]
    exact run_unit s1
  · intro dst type pos after guard
    refine ⟨σ, w', undef, s2, ⟨#[], rfl, rfl⟩, .inr ⟨?_, rfl⟩⟩
    simp only [execOp]
    exact run_unit s1
theorem ok_lk {t : TypeId} {str : KK} {ok : Bool} {el : TypeId} {zi : TypeInfo} {zv : Value} {z : TV} (ht : keyT P t = some (str, el)) (hi : P.info? el = some zi) (hz : zi.zero = some zv) (ho : ofVal zv = some z) {m k : Operand} {m' k' : Opd} (h1 : cOpd P m = some m') (h2 : cOpd P k = some k')
    (hx : xo (.lk str ok z m' k') e h = some (v, h')) : OpOk P ρ B D σ h w a v h' (.lookup t m k ok) := by
  intro dst type pos after guard
  have g1 := opd_ok he hg h1
  have g2 := opd_ok he hg h2
  have gz : VR ρ σ z zv := ofVal_ok ho
  obtain ⟨kt, d, u1, u2, u3⟩ := key_some ht
  have two : ∀ {q : TV} {qv : Value} {b : Bool}, VR ρ σ q qv → VR ρ σ (cond ok (.tu [q, .b b]) q) (if ok then .tuple #[qv, .bool b] else qv) := by
    intro q qv b hq
    cases ok with
    | true => exact ⟨_, rfl, qv, _, rfl, hq, _, _, rfl, rfl, rfl⟩
    | false => exact hq
  simp only [xo] at hx
  split at hx
  · rename_i e1
    rw [e1] at g1
    have hq := cond_none hx; clear hx; obtain ⟨hko, hx⟩ := hq
    cases hx
    refine yl_pure hr rfl rfl (two gz) ?_
    simp only [execOp]
    rw [show a.eval m = _ from g1]
    refine run_val ?_
    unfold Instr.lookup
    rw [run_bind, run_und u1]
    simp only [run_bind, run_pure]
    rw [run_checkKey u2 u3 g2 hko]
    simp only []
    rw [run_findKey u2 (r := none) rfl]
    simp only [run_bind, run_zero hi hz, run_pure]
  · rename_i b e1
    rw [e1] at g1
    split at hx
    · rename_i es cl e2
      have hkn := hr.wf b _ e2
      obtain ⟨y, g4, g5⟩ := g1
      have body : keyOk str (k'.ev e) = true → ∀ {ar : Array MapEntry}, w.heap[y.1]? = some (.map ar cl) → ∀ {r : Option (Nat × Value)}, (Instr.findKey kt (a.eval k) ar.toList).run P w = .ok r w →
          (Instr.lookup t (.map (some y.1)) (a.eval k) ok).run P w = .ok (if ok then .tuple #[(match r with | some (_, q) => q | none => zv), .bool r.isSome] else (match r with | some (_, q) => q | none => zv)) w := by
        intro hko ar har r hfn
        unfold Instr.lookup
        rw [run_bind, run_und u1]
        simp only [run_bind, run_getMap har, run_pure]
        rw [run_checkKey u2 u3 g2 hko]
        simp only []
        rw [hfn]
        cases r with
        | none => simp only [run_bind, run_zero hi hz, run_pure]; rfl
        | some q => simp only []; rfl
      split at hx
      · rename_i i u e3
        cases hx
        have hdb : D b := hd b (List.mem_cons_self ..) hkn
        obtain ⟨y', ar, q1, q2, q3, q4⟩ := hr.blk b _ hdb e2
        rw [g4] at q1; cases q1
        rcases findKey_ok (w := w) u2 u3 g2 e3 q4 with ⟨r1, _⟩ | ⟨j, t0, v0, r1, r2, r3, _⟩
        · cases r1
        · cases r1
          refine yl_pure hr rfl rfl (two (b := true) r3) ?_
          simp only [execOp]
          rw [g5]
          exact run_val (body (findK_key e3) q2 r2)
      · rename_i e3
        cases hx
        have hdb : D b := hd b (List.mem_cons_self ..) hkn
        obtain ⟨y', ar, q1, q2, q3, q4⟩ := hr.blk b _ hdb e2
        rw [g4] at q1; cases q1
        rcases findKey_ok (w := w) u2 u3 g2 e3 q4 with ⟨_, r2⟩ | ⟨j, t0, v0, r1, _⟩
        · refine yl_pure hr rfl rfl (two (b := false) gz) ?_
          simp only [execOp]
          rw [g5]
          exact run_val (body (findK_key e3) q2 r2)
        · cases r1
      · cases hx
    · cases hx
  · cases hx
end
end Go.Proofs.YtgjfdbbghefdbaaGreatDoor.Sx
namespace Go.Proofs.YtgjfdbbghefdbaaGreatDoor.Sx
section
variable {P : Program} {ρ : Cx} {B : Nat} {D : Nat → Prop} {σ : Emb} {h h' : SH} {w : World} {v : TV} (hρ : ∀ j, scalV (ρ j)) (hr : HR ρ B D σ h w) {e : Trie TV} {a : Act} (he : EnvR ρ σ e a.tmps) (hg : GlobR P σ)
  (hf : Free σ h.nx h'.nx) (hd : Hand D h h')
include hr he hg
theorem ok_rgS {t : TypeId} (ht : P.underlying t = some .string) {x : Operand} {x' : Opd} (h1 : cOpd P x = some x') (hf : Free σ h.nx h'.nx) (hx : xo (.rgS x') e h = some (v, h')) : OpOk P ρ B D σ h w a v h' (.range t x) := by
  intro dst type pos after guard
  have g1 := opd_ok he hg h1
  simp only [xo] at hx
  split at hx
  · rename_i l e1
    rw [e1] at g1
    have hq := cond_none hx; clear hx; obtain ⟨c3, hx⟩ := hq
    cases hx
    obtain ⟨g1, g2⟩ := g1
    have hfr : σ h.nx = none := hf h.nx (Nat.le_refl _) (Nat.lt_succ_self _)
    have t1 := tr_new hr hfr (blt_lt c3) (b := .it l 0) (o := .stringIter (bytesOf l) 0) (room := 0) ⟨_, Emb.put_self _ _ _, alloc_new _ _, hr.base, g2, rfl⟩
    refine ⟨_, _, .pointer (some ⟨w.heap.size, 0, none⟩), t1, ⟨_, Emb.put_self _ _ _, rfl⟩, .inl ?_⟩
    simp only [execOp]
    rw [g1]
    refine run_val ?_
    unfold Instr.range
    rw [run_bind, run_und ht]
    rfl
  · cases hx
omit hr he hg in
theorem decode_ascii {l : List Nat} {pos c : Nat} {r : List Nat} (hd : l.drop pos = c :: r) (hc : c < 128) : pos < (bytesOf l).size ∧ Utf8.decode (bytesOf l) pos = (c, 1) := by
  have hlt : pos < l.length := by
    rcases Nat.lt_or_ge pos l.length with q | q
    · exact q
    · rw [List.drop_eq_nil_of_le q] at hd; cases hd
  have hcl : l[pos] = c := by
    have := List.drop_eq_getElem_cons hlt
    rw [hd] at this
    exact (List.cons.inj this).1.symm
  refine ⟨by rw [bytes_size]; exact hlt, ?_⟩
  have hb : ((bytesOf l).get! (pos + 0)).toNat = c := by
    have e1 : (bytesOf l).get! (pos + 0) = UInt8.ofNat c := by
      show (bytesOf l).data[pos + 0]! = _
      rw [Nat.add_zero]
      simp [bytesOf, hlt, hcl]
    rw [e1, UInt8.toNat_ofNat']
    omega
  unfold Utf8.decode
  simp only [hb]
  rw [if_pos (by omega)]
include hd in
theorem ok_nxS {x : Operand} {x' : Opd} (h1 : cOpd P x = some x') (hx : xo (.nxS x') e h = some (v, h')) : OpOk P ρ B D σ h w a v h' (.next x true) := by
  intro dst type pos after guard
  have g1 := opd_ok he hg h1
  simp only [xo] at hx
  split at hx
  · rename_i k off e1
    rw [e1] at g1
    have hq := cond_none hx; clear hx; obtain ⟨c1, hx⟩ := hq
    obtain rfl := Nat.eq_of_beq_eq_true c1
    split at hx
    · rename_i l p e2
      have hkn := hr.wf k _ e2
      split at hx
      · rename_i c r e3
        have hq := cond_none hx; clear hx; obtain ⟨c2, hx⟩ := hq
        have hq := cond_none hx; clear hx; obtain ⟨c3, hx⟩ := hq
        cases hx
        have hdk : D k := hd k (List.mem_cons_self ..) hkn
        obtain ⟨y, hy, hv⟩ := g1
        obtain ⟨y', q1, q2, q3, q4, q5⟩ := hr.blk k _ hdk e2
        rw [hy] at q1; cases q1
        obtain ⟨d1, d2⟩ := decode_ascii e3 (blt_lt c2)
        obtain ⟨w', s1, s0, s2, s3, s4⟩ : ∃ w', (setObj y.1 (.stringIter (bytesOf l) (p + 1))).run P w = .ok () w' ∧ Out w w' ∧ w'.heap.size = w.heap.size ∧ (∀ j, j ≠ y.1 → w'.heap[j]? = w.heap[j]?) ∧ w'.heap[y.1]? = some (.stringIter (bytesOf l) (p + 1)) := by
          refine ⟨{ w with heap := w.heap.setIfInBounds y.1 (.stringIter (bytesOf l) (p + 1)) }, ?_, ⟨rfl, rfl, rfl⟩, by simp, fun j hj => ?_, ?_⟩
          · show (Sem.setObj y.1 _ (.pure ())).run P w = _
            unfold Sem.run
            rw [q2]
            rfl
          · show (w.heap.setIfInBounds y.1 _)[j]? = _
            rw [Array.getElem?_setIfInBounds_ne (Ne.symm hj)]
          · show (w.heap.setIfInBounds y.1 _)[y.1]? = _
            have := (Array.getElem?_eq_some_iff.1 q2).1
            simp [this]
        refine ⟨σ, w', .tuple #[.bool true, goInt p, .int .i32 c], tr_wrt hr hdk e2 trivial (blt_lt c3) hy s0 s2 s3 ⟨y, hy, s4, q3, q4, q5⟩, ⟨_, rfl, _, _, rfl, rfl, _, _, rfl, rfl, _, _, rfl, rfl, rfl⟩, .inl ?_⟩
        simp only [execOp]
        rw [hv, q5]
        refine run_val ?_
        unfold Instr.next
        simp only []
        rw [run_bind]
        have hget : (getObj y.1).run P w = .ok (.stringIter (bytesOf l) p) w := by
          show (Sem.getObj y.1 Sem.pure).run P w = _
          unfold Sem.run
          rw [q2]
          rfl
        rw [hget]
        simp only [d1, if_true, d2]
        rw [run_bind, s1]
        rfl
      · rename_i e3
        cases hx
        have hdk : D k := hd k (List.mem_cons_self ..) hkn
        obtain ⟨y, hy, hv⟩ := g1
        obtain ⟨y', q1, q2, q3, q4, q5⟩ := hr.blk k _ hdk e2
        rw [hy] at q1; cases q1
        refine yl_pure hr rfl rfl (x := .tuple #[.bool false]) ⟨_, rfl, _, _, rfl, rfl, rfl⟩ ?_
        simp only [execOp]
        rw [hv, q5]
        refine run_val ?_
        unfold Instr.next
        simp only []
        rw [run_bind]
        have hget : (getObj y.1).run P w = .ok (.stringIter (bytesOf l) p) w := by
          show (Sem.getObj y.1 Sem.pure).run P w = _
          unfold Sem.run
          rw [q2]
          rfl
        rw [hget]
        have : ¬ p < (bytesOf l).size := by
          rw [bytes_size]
          have := congrArg List.length e3
          rw [List.length_drop] at this
          simp only [List.length_nil] at this
          omega
        simp only [this, if_false]
        rfl
    · cases hx
  · cases hx
end
end Go.Proofs.YtgjfdbbghefdbaaGreatDoor.Sx
namespace Go.Proofs.YtgjfdbbghefdbaaGreatDoor.Sx
theorem cOpt_some {P : Program} {o : Option Operand} {o' : Option Opd} (h : cOpt P o = some o') : o'.isSome = o.isSome := by
  cases o with
  | none => cases h; rfl
  | some q => unfold cOpt at h; rw [Option.map_eq_some_iff] at h; obtain ⟨_, _, rfl⟩ := h; rfl
section
variable {P : Program} {ρ : Cx} {B : Nat} {D : Nat → Prop} {σ : Emb} {h h' : SH} {w : World} {v : TV} (hρ : ∀ j, scalV (ρ j)) (hr : HR ρ B D σ h w) {e : Trie TV} {a : Act} (he : EnvR ρ σ e a.tmps) (hg : GlobR P σ)
  (hf : Free σ h.nx h'.nx) (hd : Hand D h h')
include hr he hg
omit hd in
theorem ok_eqw {t u : TypeId} {d : TypeDesc} {ks : List Nat} (hd' : P.underlying t = some d) (hk : wideT P t d = some ks) (hgd : P.eqGuardType P.depth t = false) {x y : Operand} {x' y' : Opd} (h1 : cOpd P x = some x') (h2 : cOpd P y = some y') :
    (xo (.eqw false ks x' y') e h = some (v, h') → OpOk P ρ B D σ h w a v h' (.binOp .eql t x y u)) ∧ (xo (.eqw true ks x' y') e h = some (v, h') → OpOk P ρ B D σ h w a v h' (.binOp .neq t x y u)) := by
  have g1 := opd_ok he hg h1
  have g2 := opd_ok he hg h2
  have hguard : ∀ (op : BinOp) (c d : Operand) (xs ys : Array Value), (eqGuard op t c d (.agg xs) (.agg ys)).run P w = .ok () w := fun op c d xs ys => by
    unfold eqGuard
    cases op <;> first | rfl | (simp [hgd])
  have key : ∀ neg, xo (.eqw neg ks x' y') e h = some (v, h') → ∃ xs ys r, a.eval x = .agg xs ∧ a.eval y = .agg ys ∧ v = .b (cond neg (cond r false true) r) ∧ h' = h ∧ (Op.equal t (.agg xs) (.agg ys)).run P w = .ok r w := by
    intro neg hx
    simp only [xo] at hx
    split at hx
    · rename_i p q e1 e2
      obtain ⟨c1, hx⟩ := cond_none hx
      obtain ⟨c2, hx⟩ := cond_none hx
      split at hx
      · rename_i r c3
        cases hx
        rw [e1] at g1; rw [e2] at g2
        obtain ⟨xs, f1, f2⟩ := g1
        obtain ⟨ys, f3, f4⟩ := g2
        exact ⟨xs, ys, r, f1, f3, rfl, rfl, equal_wide hd' hk c3 c1 c2 f2 f4⟩
      · cases hx
    · cases hx
  constructor
  · intro hx dst type pos after guard
    obtain ⟨xs, ys, r, q1, q2, rfl, rfl, q3⟩ := key false hx
    refine yl_pure hr rfl rfl (x := .bool r) rfl ?_
    simp only [execOp]
    rw [q1, q2]
    refine run_val ?_
    rw [run_bind, hguard .eql x y xs ys]
    show (binOp .eql t (.agg xs) (.agg ys)).run P w = _
    rw [binOp_eql (by simp) (by simp) (by simp) (by simp), run_bind, q3]
    rfl
  · intro hx dst type pos after guard
    obtain ⟨xs, ys, r, q1, q2, rfl, rfl, q3⟩ := key true hx
    refine yl_pure hr rfl rfl (x := .bool !r) (by cases r <;> rfl) ?_
    simp only [execOp]
    rw [q1, q2]
    refine run_val ?_
    rw [run_bind, hguard .neq x y xs ys]
    show (binOp .neq t (.agg xs) (.agg ys)).run P w = _
    rw [binOp_neq (by simp) (by simp) (by simp) (by simp), run_bind, q3]
    rfl
include hr he hg hd
theorem ok_del {t : TypeId} {us : List TypeId} {str : KK} {el : TypeId} (ht : keyT P t = some (str, el)) {m k : Operand} {m' k' : Opd} (h1 : cOpd P m = some m') (h2 : cOpd P k = some k') (hx : xo (.del str m' k') e h = some (v, h')) :
    OpOk P ρ B D σ h w a v h' (.call { callee := .builtin .delete, args := #[m, k], argTypes := ⟨t :: us⟩ }) := by
  intro dst type pos after guard
  have g1 := opd_ok he hg h1
  have g2 := opd_ok he hg h2
  obtain ⟨kt, d, u1, u2, u3⟩ := key_some ht
  have fin : ∀ {w'}, Tr ρ B D σ h w σ h' w' → v = .tu [] → (Builtin.delete_ ⟨t :: us⟩ type #[a.eval m, a.eval k]).run P w = .ok (.tuple #[]) w' → Yl ρ B D σ h w v h' ((execOp a.eval ⟨dst, .call { callee := .builtin .delete, args := #[m, k], argTypes := ⟨t :: us⟩ }, type, pos, after, guard⟩).run P w) := by
    intro w' q1 q2 q3
    subst q2
    refine ⟨σ, w', .tuple #[], q1, ⟨#[], rfl, rfl⟩, .inl ?_⟩
    simp only [execOp, resolve]
    rw [run_bind, run_pure]
    simp only [invoke, builtin]
    refine run_val ?_
    rw [show (Array.map a.eval #[m, k]) = #[a.eval m, a.eval k] from by simp]
    exact q3
  simp only [xo] at hx
  split at hx
  · rename_i b e1
    rw [e1] at g1
    split at hx
    · rename_i es cl e2
      have hkn := hr.wf b _ e2
      obtain ⟨y, g4, g5⟩ := g1
      have body : keyOk str (k'.ev e) = true → ∀ {ar : Array MapEntry}, w.heap[y.1]? = some (.map ar cl) → ∀ {r : Option (Nat × Value)} {w' : World}, (Instr.findKey kt (a.eval k) ar.toList).run P w = .ok r w →
          (match r with | some (i, _) => setObj y.1 (.map (ar.eraseIdxIfInBounds i) cl) | none => setObj y.1 (.map ar cl)).run P w = .ok () w' →
          (Builtin.delete_ ⟨t :: us⟩ type #[.map (some y.1), a.eval k]).run P w = .ok (.tuple #[]) w' := by
        intro hko ar har r w' hfn hrun
        unfold Builtin.delete_
        simp only [List.getElem?_toArray, List.getElem?_cons_zero, List.getElem?_cons_succ]
        rw [run_bind, run_und u1]
        simp only []
        rw [run_bind, run_getMap har]
        simp only []
        rw [run_bind, run_checkKey u2 u3 g2 hko]
        simp only []
        rw [run_bind, hfn]
        cases r with
        | none =>
          simp only [] at hrun ⊢
          rw [run_bind, hrun]; rfl
        | some q =>
          simp only [] at hrun ⊢
          rw [run_bind, hrun]; rfl
      split at hx
      · rename_i i u0 e3
        have hq := cond_none hx; clear hx; obtain ⟨c4, hx⟩ := hq
        cases hx
        have hdb : D b := hd b (List.mem_cons_self ..) hkn
        obtain ⟨y', ar, q1, q2, q3, q4⟩ := hr.blk b _ hdb e2
        rw [g4] at q1; cases q1
        rcases findKey_ok (w := w) u2 u3 g2 e3 q4 with ⟨r1, _⟩ | ⟨j, t0, v0, r1, r2, _⟩
        · cases r1
        · cases r1
          obtain ⟨w', s1, s0, s2, s3, s4⟩ := run_setMap (P := P) q2 (.map (ar.eraseIdxIfInBounds i) cl)
          refine fin (tr_wrt hr hdb e2 trivial (blt_lt c4) g4 s0 s2 s3 ⟨y, _, g4, s4, q3, ?_⟩) rfl (by rw [g5]; exact body (findK_key e3) q2 r2 s1)
          rw [Array.toList_eraseIdxIfInBounds]
          exact ER_del i q4
      · rename_i e3
        cases hx
        have hdb : D b := hd b (List.mem_cons_self ..) hkn
        obtain ⟨y', ar, q1, q2, q3, q4⟩ := hr.blk b _ hdb e2
        rw [g4] at q1; cases q1
        rcases findKey_ok (w := w) u2 u3 g2 e3 q4 with ⟨_, r2⟩ | ⟨j, t0, v0, r1, _⟩
        · obtain ⟨w', s1, s0, s2, s3, s4⟩ := run_setMap (P := P) q2 (.map ar cl)
          refine fin ?_ rfl (by rw [g5]; exact body (findK_key e3) q2 r2 s1)
          have t1 := tr_same (h' := h.see b) hr rfl rfl
          refine t1.to_heap ?_ s0
          apply Array.ext_getElem?
          intro j
          by_cases hj : j = y.1
          · subst hj; rw [s4, q2]
          · exact s3 j hj
        · cases r1
      · cases hx
    · cases hx
  · cases hx
include hf hρ
theorem cop_ok {op : Op} {x : XO} (hc : cOp? P op = some x) (hx : xo x e h = some (v, h')) : OpOk P ρ B D σ h w a v h' op := by
  cases op with
  | move y =>
    simp only [cOp?, Option.map_eq_some_iff] at hc
    obtain ⟨z, h1, rfl⟩ := hc
    exact (ok_move hr he hg h1 hx).1
  | assign y =>
    simp only [cOp?, Option.map_eq_some_iff] at hc
    obtain ⟨z, h1, rfl⟩ := hc
    exact (ok_move hr he hg h1 hx).2
  | pick c p q =>
    simp only [cOp?] at hc
    split at hc
    · rename_i h1 h2 h3; cases hc; exact ok_pick hr he hg h1 h2 h3 hx
    · cases hc
  | alloc t =>
    simp only [cOp?] at hc
    split at hc
    · rename_i z h1
      obtain ⟨i, zv, q1, q2, q3⟩ := zero_some h1
      split at hc
      · cases hc; exact ok_allocB hρ hr hf hd q1 q2 q3 hx
      · cases hc; exact ok_alloc hρ hr hf hd q1 q2 q3 hx
    · cases hc
  | box t y =>
    simp only [cOp?] at hc
    split at hc
    · rename_i h1 h2
      split at hc
      · cases hc; exact ok_boxB hρ hr he hg hf hd h1 hx
      · cases hc; exact ok_box hρ hr he hg hf hd h1 hx
    · cases hc
  | build t parts =>
    simp only [cOp?] at hc
    split at hc
    · rename_i fs z h1 h2
      split at hc
      · rename_i pl h3
        rw [Option.map_eq_some_iff] at hc
        obtain ⟨l, h4, rfl⟩ := hc
        obtain ⟨i, zv, q1, q2, q3⟩ := zero_some h2
        exact ok_bld hρ hr he hg q1 q2 q3 (.inl ⟨fs, pl, h1, h3, h4⟩) hx
      · cases hc
    · rename_i n el z h1 h2
      split at hc
      · rename_i s h3
        rw [Option.map_eq_some_iff] at hc
        obtain ⟨l, h4, rfl⟩ := hc
        obtain ⟨i, zv, q1, q2, q3⟩ := zero_some h2
        exact ok_bld hρ hr he hg q1 q2 q3 (.inr ⟨n, el, s, h1, h3, h4⟩) hx
      · cases hc
    · cases hc
  | buildSlice t len parts =>
    simp only [cOp?] at hc
    split at hc
    · rename_i el h1
      split at hc
      · rename_i s z h2 h3
        split at hc
        · rename_i h4
          rw [Option.map_eq_some_iff] at hc
          obtain ⟨l, h5, rfl⟩ := hc
          obtain ⟨i, zv, q1, q2, q3⟩ := zero_some h3
          obtain ⟨i', q4, q5⟩ := size_some h2
          rw [q1] at q4; cases q4
          exact ok_bls hρ hr he hg hf h1 q1 q2 q3 q5 h4.1 h4.2.1 h4.2.2 h5 hx
        · cases hc
      · cases hc
    · cases hc
  | load t y =>
    simp only [cOp?] at hc
    split at hc
    · rename_i h1 h2; cases hc; exact ok_load hr he hg hf hd h1 h2 hx
    · cases hc
  | store t y z =>
    simp only [cOp?] at hc
    split at hc
    · rename_i h1 h2 h3; cases hc; exact ok_store hρ hr he hg hf hd h1 h2 h3 hx
    · cases hc
  | nilCheck y =>
    simp only [cOp?, Option.map_eq_some_iff] at hc
    obtain ⟨z, h1, rfl⟩ := hc
    exact ok_nck hr he hg h1 hx
  | binOp op t p q u =>
    simp only [cOp?] at hc
    split at hc
    · rename_i d p' q' h1 h2 h3
      split at hc
      · cases hc; exact ok_bop hr he hg h2 h3 hx
      · split at hc
        · rename_i hbd
          have hb : d = .bool := by cases d <;> first | rfl | cases hbd
          subst hb
          split at hc
          · cases hc; exact (ok_beq hr he hg h1 h2 h3).1 hx
          · cases hc; exact (ok_beq hr he hg h1 h2 h3).2 hx
          · cases hc
        · split at hc
          · rename_i k hk; cases hc; exact (ok_eq hr he hg h1 hk h2 h3).1 hx
          · rename_i k hk; cases hc; exact (ok_eq hr he hg h1 hk h2 h3).2 hx
          · split at hc
            · split at hc
              · cases hc
              · rename_i hq; cases hc; exact (ok_eqw hr he hg h1 (by assumption) (by simpa using hq) h2 h3).1 hx
            · split at hc
              · cases hc
              · rename_i hq; cases hc; exact (ok_eqw hr he hg h1 (by assumption) (by simpa using hq) h2 h3).2 hx
            · cases hc
    · cases hc
  | unOp op t y =>
    simp only [cOp?, Option.map_eq_some_iff] at hc
    obtain ⟨z, h1, rfl⟩ := hc
    exact ok_un hr he hg h1 hx
  | convert s t y =>
    simp only [cOp?] at hc
    split at hc
    · rename_i h1 h2 h3; cases hc; exact ok_cvi hr he hg h1 h2 h3 hx
    · rename_i h1 h2 h3; cases hc; exact ok_cvs hr he hg h1 h2 h3 hx
    · rename_i h1 h2 h3
      split at hc
      · rename_i h4; cases hc; exact ok_cvb hr he hg hd h1 h4 h2 h3 hx
      · cases hc
    · cases hc
  | makeInterface t y =>
    simp only [cOp?] at hc
    split at hc
    · cases hc
    · rename_i h1 h2 h3; cases hc; exact ok_mki hr he hg h2 (fun ms q => h1 ms q) h3 hx
    · cases hc
  | makeFunc g p q =>
    simp only [cOp?] at hc
    split at hc
    · rename_i h1 h2; cases hc; exact ok_mkf hr he hg h1 h2 hx
    · cases hc
  | slice t y lo hi mx =>
    simp only [cOp?] at hc
    split at hc
    · rename_i h1 h2 h3 h4 h5
      cases hc
      have : mx = none := by
        cases mx with
        | none => rfl
        | some q => unfold cOpt at h5; rw [Option.map_eq_some_iff] at h5; obtain ⟨_, _, q⟩ := h5; cases q
      subst this
      exact ok_slcS hr he hg h1 h2 h3 h4 hx
    · rename_i h1 h2 h3 h4 h5
      split at hc
      · rename_i h6
        split at hc
        · cases hc
        · rename_i h7; cases hc; exact ok_slc hr he hg h1 h6 h2 h3 h4 h5 (by rw [← Option.not_isSome, ← cOpt_some h4, ← cOpt_some h5, Option.not_isSome]; exact h7) hx
      · cases hc
    · rename_i h1 h2 h3 h4 h5
      split at hc
      · rename_i h6
        split at hc
        · cases hc
        · rename_i h7; cases hc; exact ok_slcA hr he hg hd h1 h6 h2 h3 h4 h5 (by rw [← Option.not_isSome, ← cOpt_some h4, ← cOpt_some h5, Option.not_isSome]; exact h7) hx
      · cases hc
    · cases hc
  | fieldAddr t y i =>
    simp only [cOp?] at hc
    split at hc
    · rename_i h1 h2
      split at hc
      · rename_i f h3
        split at hc
        · rename_i h4; cases hc; exact ok_fa hr he hg h1 h3 h4 h2 hx
        · cases hc
      · cases hc
    · cases hc
  | field t y i =>
    simp only [cOp?] at hc
    split at hc
    · rename_i h1 h2
      split at hc
      · rename_i f h3
        split at hc
        · rename_i h4; cases hc; exact ok_fld hr he hg h1 h3 h4 h2 hx
        · cases hc
      · cases hc
    · cases hc
  | indexAddr t y ix =>
    simp only [cOp?] at hc
    split at hc
    · rename_i h1 h2 h3
      split at hc
      · rename_i h4; cases hc; exact ok_ia hr he hg h1 h4 h2 h3 hx
      · cases hc
    · rename_i h1 h2 h3
      split at hc
      · rename_i h4; cases hc; exact ok_iaA hr he hg h1 h4 h2 h3 hx
      · cases hc
    · cases hc
  | index t y ix =>
    simp only [cOp?] at hc
    split at hc
    · rename_i h1 h2 h3; cases hc; exact ok_ixS hr he hg h1 h2 h3 hx
    · rename_i h1 h2 h3
      split at hc
      · rename_i h4
        split at hc
        · rename_i h5; cases hc; exact ok_ixA hr he hg h1 h4 (fun q => h5.resolve_left (by rw [q]; simp)) h2 h3 hx
        · cases hc
      · cases hc
    · cases hc
  | typeAssert y t asserted ok =>
    simp only [cOp?] at hc
    split at hc
    · cases hc; cases hx
    · rename_i h1 h2 h3 h4
      cases hc
      obtain ⟨i, zv, q1, q2, q3⟩ := zero_some h3
      exact ok_ta hr he hg h2 (fun ms q => h1 ms q) q1 q2 q3 h4 hx
    · cases hc
  | extract y i =>
    simp only [cOp?, Option.map_eq_some_iff] at hc
    obtain ⟨z, h1, rfl⟩ := hc
    exact ok_ex hr he hg h1 hx
  | makeMap t r =>
    cases r with
    | none =>
      simp only [cOp?] at hc
      split at hc
      · cases hc; exact ok_mkm hr hf hd hx
      · cases hc
    | some r => simp only [cOp?] at hc; cases hc
  | insert t m k y =>
    simp only [cOp?] at hc
    split at hc
    · rename_i h1 h2 h3 h4; cases hc; exact (ok_ins hr he hg hd h1 h2 h3 h4 hx).1
    · cases hc
  | mapUpdate t m k y =>
    simp only [cOp?] at hc
    split at hc
    · rename_i h1 h2 h3 h4; cases hc; exact (ok_ins hr he hg hd h1 h2 h3 h4 hx).2
    · cases hc
  | lookup t m k ok =>
    simp only [cOp?] at hc
    split at hc
    · rename_i h1 h2 h3
      split at hc
      · rename_i h4
        cases hc
        obtain ⟨i, zv, q1, q2, q3⟩ := zero_some h4
        exact ok_lk hr he hg hd h1 q1 q2 q3 h2 h3 hx
      · cases hc
    · cases hc
  | range t y =>
    simp only [cOp?] at hc
    split at hc
    · rename_i h1 h2; cases hc; exact ok_rgS hr he hg h1 h2 hf hx
    · cases hc
  | next y str =>
    simp only [cOp?] at hc
    cases str with
    | true =>
      simp only [if_true, Option.map_eq_some_iff] at hc
      obtain ⟨z, h1, rfl⟩ := hc
      exact ok_nxS hr he hg hd h1 hx
    | false => simp at hc
  | makeSlice t l c =>
    simp only [cOp?] at hc
    split at hc
    · rename_i h1 h2 h3
      split at hc
      · rename_i i z h4 h5
        split at hc
        · rename_i h6
          cases hc
          obtain ⟨i', zv, q1, q2, q3⟩ := zero_some h5
          rw [h4] at q1; cases q1
          exact ok_mks hρ hr he hg hf h1 h4 q2 q3 h6.1 h6.2.1 h6.2.2 h2 h3 hx
        · cases hc
      · cases hc
    · cases hc
  | call c =>
    obtain ⟨callee, args, types⟩ := c
    cases callee with
    | value f =>
      cases f with
      | func g =>
        simp only [cOp?, Option.map_eq_some_iff] at hc
        obtain ⟨l, h1, rfl⟩ := hc
        cases hx
      | _ =>
        simp only [cOp?] at hc
        split at hc
        · cases hc; cases hx
        · cases hc
    | invoke r name =>
      simp only [cOp?] at hc
      split at hc
      · cases hc; cases hx
      · cases hc
    | builtin b =>
      obtain ⟨args⟩ := args
      obtain ⟨types⟩ := types
      cases b with
      | len =>
        match args, types with
        | [x1], [t1] =>
          simp only [cOp?] at hc
          split at hc
          · rename_i h1 h2; cases hc; exact ok_len hr he hg hd h1 h2 (.inl ⟨rfl, rfl⟩) hx
          · rename_i h1 h2; cases hc; exact ok_len hr he hg hd h1 h2 (.inr (.inl ⟨⟨_, rfl⟩, rfl⟩)) hx
          · rename_i h1 h2; cases hc; exact ok_len hr he hg hd h1 h2 (.inr (.inr ⟨⟨_, _, rfl⟩, rfl⟩)) hx
          · cases hc
        | [], _ | _ :: _ :: _, _ | [_], [] | [_], _ :: _ :: _ => simp [cOp?] at hc
      | append =>
        match args, types with
        | [x1, x2], [t1, t2] =>
          simp only [cOp?] at hc
          split at hc
          · rename_i h1 h2 h3 h4
            split at hc
            · rename_i i z h5 h6
              split at hc
              · rename_i h7
                cases hc
                obtain ⟨i', zv, q1, q2, q3⟩ := zero_some h6
                rw [h5] at q1; cases q1
                exact ok_app hρ hr he hg hf hd h1 h2 h7.2.2.2.2 h5 q2 q3 h7.1 h7.2.2.2.1 h7.2.2.1 h3 h4 hx
              · cases hc
            · cases hc
          · cases hc
        | [], _ | [_], _ | _ :: _ :: _ :: _, _ | [_, _], [] | [_, _], [_] | [_, _], _ :: _ :: _ :: _ => simp [cOp?] at hc
      | max =>
        match args with
        | [x1, x2] =>
          simp only [cOp?] at hc
          split at hc
          · rename_i h1 h2; cases hc; exact ok_mm (most := true) hr he hg h1 h2 hx
          · cases hc
        | [] | [_] | _ :: _ :: _ :: _ => simp [cOp?] at hc
      | min =>
        match args with
        | [x1, x2] =>
          simp only [cOp?] at hc
          split at hc
          · rename_i h1 h2; cases hc; exact ok_mm (most := false) hr he hg h1 h2 hx
          · cases hc
        | [] | [_] | _ :: _ :: _ :: _ => simp [cOp?] at hc
      | delete =>
        match args, types with
        | [x1, x2], t1 :: ts =>
          simp only [cOp?] at hc
          split at hc
          · rename_i h1 h2 h3; cases hc; exact ok_del hr he hg hd h1 h2 h3 hx
          · cases hc
        | [], _ | [_], _ | _ :: _ :: _ :: _, _ | [_, _], [] => simp [cOp?] at hc
      | _ => simp [cOp?] at hc
  | _ => simp only [cOp?] at hc; cases hc
end
end Go.Proofs.YtgjfdbbghefdbaaGreatDoor.Sx
