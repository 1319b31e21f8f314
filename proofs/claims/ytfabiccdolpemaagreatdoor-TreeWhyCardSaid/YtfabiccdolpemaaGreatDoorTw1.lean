/-
  The law on refusals as errors: the open run's frame; errors.Is, errors.As as it is told them; the law's wakes. Conditions: the variables that are read are laid.
-/
import Derived.Test.YtfabiccdolpemaaGreatDoorWk30
import Derived.Test.YtfabiccdolpemaaGreatDoorIs1
import Derived.Test.YtfabiccdolpemaaGreatDoorAr4
import Derived.Test.YtfabiccdolpemaaGreatDoorOx6
import Derived.Lib.LaidTab
import Derived.Lib.ItoaMem
namespace Go.Proofs.YtfabiccdolpemaaGreatDoor.Tw
open Go.RowKit Sx
set_option maxRecDepth 100000
def lay : Nat → List Kd
  | 34 => [.i .i64, .i .i64, .i .i64]
  | _ => []
/-- The handle of 'error'. -/
def hdE : Value := .pointer (some ⟨7, 26, none⟩)
def errV : Value := .iface 88 (.agg #[hdE])
def meths : List (Nat × String × Nat) := [(30, "Error", 308)]
def mth : Meth := ⟨tabM meths, fun _ _ => none, lay⟩
noncomputable def rho : Cx := ⟨fun _ => hdE, lay, [(2, letterVals30), (0, [errV]), (1, tabVals30_1), (3, tabVals30_3), (4, Lib.pow10Tab.map fun z => Value.int .u64 z)], Tryz.prog⟩
theorem rho_ok : ∀ j, scalV (rho j) := fun _ => trivial
theorem mth_ok : MethOk Tryz.prog rho mth := ⟨tabM_ok (l := meths) fun x hx => by
  simp only [meths, List.mem_cons, List.not_mem_nil, or_false] at hx
  subst hx
  intro v w
  kernel_rfl
  , fun _ _ _ h => (by cases h), rfl, rfl⟩
theorem mix_ok : Tryz.prog.follows .mixedOrders = true := by kernel_rfl
theorem size_g : Tryz.prog.globals.size = 7 := by kernel_rfl
abbrev Pu (f : Nat) (args : List TV) (v : TV) : Prop := PureC Tryz.prog rho f args v
theorem wakes_pu : Pu 6 [] (.b true) := wakes30 rfl rho_ok rfl (.head _) (.tail _ (.head _)) (.tail _ (.tail _ (.head _))) (.tail _ (.tail _ (.tail _ (.head _))))
theorem below_alloc1 {w w1 : World} (h : Below w.heap.size w w1) (o : Obj) : Below w.heap.size w (w1.alloc o) := h.alloc h.size _
/-- errors.As, as the executor is told it. -/
theorem as_told (B : Nat) : OneOk Tryz.prog rho B 7 (asT 30 22 68 32) :=
  asT_ok
    (asD_ok Tryz.func7 (by kernel_rfl) (by kernel_rfl) (eg := 0) (ev := errV) (.tail _ (.head _)) fun a b o w hE old hc hz => (AsR.as_any a b o w hE old hc hz).mono fun e w' h => by
      obtain ⟨rfl, X, Y, Z, U, rfl⟩ := h
      exact ⟨rfl, below_alloc1 (below_alloc1 (below_alloc1 (below_alloc1 (Below.refl _ _) _) _) _) _⟩)
    (asN_ok Tryz.func7 (by kernel_rfl) (by kernel_rfl) (eg := 0) (ev := errV) (.tail _ (.head _)) (fun n b o w hE old hc => (AsR.as_errno n b o w hE old hc).mono fun e w' h => by
      obtain ⟨rfl, X, Y, Z, rfl⟩ := h
      exact ⟨rfl, below_alloc1 (below_alloc1 (below_alloc1 (Below.refl _ _) _) _) _⟩) fun a w => AsR.as_nil a w)
    (asJ_ok Tryz.func7 (by kernel_rfl) (by kernel_rfl) (eg := 0) (ev := errV) (.tail _ (.head _)) fun bj oj bs os c n a b o w hE old hc hz h0 h1 h2 => (AsR.as_join bj oj bs os c n a b o w hE old hc hz h0 h1 h2).mono fun e w' h => by
      obtain ⟨rfl, X, Y, Z, U, V, R, rfl⟩ := h
      exact ⟨rfl, below_alloc1 (below_alloc1 (below_alloc1 (below_alloc1 (below_alloc1 (below_alloc1 (Below.refl _ _) _) _) _) _) _) _⟩)
def orcs : List (Nat × (List TV → SH → Option (TV × SH))) := [(7, asT 30 22 68 32)]
theorem orcs_ok (B : Nat) : ∀ p, p ∈ orcs → OneOk Tryz.prog rho B p.1 p.2 := fa (as_told B) fz
theorem dr_int {M : Mem} {k : IntKind} {d : Dat} {v : Value} (h : DR lay M (.i k) d v) : v = .int k d.int := by cases h; rfl
/-- errors.Is at a refusal, asked for a number. -/
theorem is_pu (l E t n : Int) : Pu 10 [.ifc 30 (.ep 34 0 [.i l, .i E, .i t]), .ifc 22 (.i .i64 n)] (.b (decide (E = n))) :=
  PureC.of (fun vs w => enter_of' Tryz.func10 (by kernel_rfl) (by kernel_rfl) vs w) fun w M vs hM _ hv => by
    obtain ⟨v1, r1, hv1, ⟨z1, rfl, hz1⟩, v2, r2, hv2, ⟨z2, rfl, hz2⟩, hv3⟩ := hv
    obtain ⟨b, o, rfl, hlen, val, hc, hd⟩ := hz1
    obtain rfl : z2 = .int .i64 n := hz2
    subst hv3
    have hvs : vs = #[.iface 30 (.pointer (some ⟨b, o + 0, none⟩)), .iface 22 (.int .i64 n)] := Array.toList_inj.1 (by rw [hv1, hv2])
    subst hvs
    obtain ⟨cs, m1, m2⟩ := hc 1 (by decide)
    have d1 := hd 1 _ _ rfl rfl
    have e1 : val 1 = .int .i64 E := dr_int d1
    obtain ⟨ty, fz, m3⟩ := hM _ _ m1
    rw [e1] at m2
    refine (Eis.is_ref b (o + 0) E n w (by rw [cell_at m3]; exact m2)).mono ?_
    rintro e w' ⟨rfl, rfl⟩
    exact ⟨_, rfl, rfl, Below.refl _ _⟩
theorem of_eqb {x d : Bool} (h : x = d) : ObOk Tryz.prog rho (.eqb x d) := h
end Go.Proofs.YtfabiccdolpemaaGreatDoor.Tw
