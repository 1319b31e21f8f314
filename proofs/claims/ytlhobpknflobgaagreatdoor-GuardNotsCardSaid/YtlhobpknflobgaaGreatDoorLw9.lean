/-
  pleachlaw11.GuardNots holds. Conditions: the trees lie as 'TrV' says, the names as 'Binds' says; the table of letters is as it was laid.
-/
import Derived.Test.YtlhobpknflobgaaGreatDoorGn1
namespace Go.Proofs.YtlhobpknflobgaaGreatDoor
open Go.RowKit

/-- The node of a comparison, as the call makes it. -/
theorem op_trv {W : World} {g : Nat} {a b : Tr} {sa sb : Value} {s : ByteArray} {t : TypeId} (h : W.heap[g]? = some (.cells #[.int .i8 a.k, .int .i64 a.n, .string a.s, .string a.t, sa, .int .i8 b.k, .int .i64 b.n, .string b.s, .string b.t, sb] t (0, 0))) (ha : TrV (fun _ => True) W a sa) (hb : TrV (fun _ => True) W b sb) (hs : s.size ≤ 64) : TrV (fun _ => True) W (nodeOp s a b) (.slice (some ⟨g, 0, none⟩) 2 2) :=
  ⟨wf_small _ _ _ _ _ (by decide) (by decide) hs (by decide), kids_two ⟨(arr_cell h).trans rfl, (arr_cell h).trans rfl, (arr_cell h).trans rfl, (arr_cell h).trans rfl, (arr_cell h).trans rfl⟩ ⟨(arr_cell h).trans rfl, (arr_cell h).trans rfl, (arr_cell h).trans rfl, (arr_cell h).trans rfl, (arr_cell h).trans rfl⟩ ha hb trivial⟩
def NtRel (w1 : World) (i : Value) (wr : World) : Prop := (i = .int .i64 0 ∨ i = .int .i64 1 ∨ i = .int .i64 2 ∨ i = .int .i64 3) ∧ Below w1.heap.size w1 wr

set_option maxHeartbeats 16000000 in
set_option maxRecDepth 100000 in
theorem guardNots_any {w : World} {a b : Tr} {l : List Bd} {sa sb v : Value} (hL : Letters w) (ha : TrV (fun _ => True) w a sa) (hb : TrV (fun _ => True) w b sb) (hl : Binds (fun _ => True) w v l) :
    Calls Tryz.prog 5 #[.agg #[.int .i8 a.k, .int .i64 a.n, .string a.s, .string a.t, sa], .agg #[.int .i8 b.k, .int .i64 b.n, .string b.s, .string b.t, sb], v] w fun e w' => e = .returned (.bool true) ∧ Below w.heap.size w w' := by
  obtain ⟨pa, ca, rfl⟩ := ha.kids.slice
  obtain ⟨pb, cb, rfl⟩ := hb.kids.slice
  obtain ⟨pl, cl, rfl⟩ := hl.slice
  obtain ⟨n1, n2, hb1, hz1⟩ := two_new w (.cells #[.int .i8 a.k, .int .i64 a.n, .string a.s, .string a.t, .slice pa a.l.length ca] 25) (.cells #[.int .i8 b.k, .int .i64 b.n, .string b.s, .string b.t, .slice pb b.l.length cb] 25)
  have HL := Lib.hid hL
  have HA := Lib.hid (ha.below hb1)
  have HB := Lib.hid (hb.below hb1)
  have HS := Lib.hid (hl.under hb1)
  clear ha hb hl hz1 hL
  go_enter Tryz.func5, Tryz.ntmps5
  go_upto_region 1 with fail
  generalize (w.alloc (.cells #[.int .i8 a.k, .int .i64 a.n, .string a.s, .string a.t, .slice pa a.l.length ca] 25)).alloc (.cells #[.int .i8 b.k, .int .i64 b.n, .string b.s, .string b.t, .slice pb b.l.length cb] 25) = w1 at n1 n2 hb1 HA HB HS ⊢
  have hnd : ∀ V : World, Below w1.heap.size w1 V → (V.cell? ⟨w.heap.size, 0, none⟩ = some (.int .i8 a.k) ∧ V.cell? ⟨w.heap.size, 1, none⟩ = some (.int .i64 a.n) ∧ V.cell? ⟨w.heap.size, 2, none⟩ = some (.string a.s) ∧ V.cell? ⟨w.heap.size, 3, none⟩ = some (.string a.t) ∧ V.cell? ⟨w.heap.size, 4, none⟩ = some (.slice pa a.l.length ca)) ∧
      V.cell? ⟨w.heap.size + 1, 0, none⟩ = some (.int .i8 b.k) ∧ V.cell? ⟨w.heap.size + 1, 1, none⟩ = some (.int .i64 b.n) ∧ V.cell? ⟨w.heap.size + 1, 2, none⟩ = some (.string b.s) ∧ V.cell? ⟨w.heap.size + 1, 3, none⟩ = some (.string b.t) ∧ V.cell? ⟨w.heap.size + 1, 4, none⟩ = some (.slice pb b.l.length cb) := by
    intro V hv
    have h1 := (hv.block _ (Array.getElem?_eq_some_iff.1 n1).1).trans n1
    have h2 := (hv.block _ (Array.getElem?_eq_some_iff.1 n2).1).trans n2
    exact ⟨⟨(arr_cell h1).trans rfl, (arr_cell h1).trans rfl, (arr_cell h1).trans rfl, (arr_cell h1).trans rfl, (arr_cell h1).trans rfl⟩, (arr_cell h2).trans rfl, (arr_cell h2).trans rfl, (arr_cell h2).trans rfl, (arr_cell h2).trans rfl, (arr_cell h2).trans rfl⟩
  have HND := Lib.hid hnd
  have cA := fun (V : World) (hv : Below w1.heap.size w1 V) => greatN_any (HA.out.below hv)
  have cB := fun (V : World) (hv : Below w1.heap.size w1 V) => greatN_any (HB.out.below hv)
  have cL := fun (V : World) (hv : Below w1.heap.size w1 V) => great11_any (HS.out.under hv)
  have tokA : True := trivial
  have tokB : True := trivial
  obtain ⟨⟨a0, a1, a2, a3, a4⟩, b0, b1, b2, b3, b4⟩ := hnd w1 (Below.refl _ _)
  have hmvB : ∀ V : World, Below w1.heap.size w1 V → Hid (V.cell? ⟨w.heap.size + 1, 0, none⟩ = some (.int .i8 b.k) ∧ V.cell? ⟨w.heap.size + 1, 1, none⟩ = some (.int .i64 b.n) ∧ V.cell? ⟨w.heap.size + 1, 2, none⟩ = some (.string b.s) ∧ V.cell? ⟨w.heap.size + 1, 3, none⟩ = some (.string b.t) ∧ V.cell? ⟨w.heap.size + 1, 4, none⟩ = some (.slice pb b.l.length cb)) := fun V hv => (HND.out V hv).2
  clear n1 n2 hnd
  generalize decide (8192 ≤ a.sz 8192) = ga at cA
  generalize decide (8192 ≤ b.sz 8192) = gb at cB
  cases ga
  case' true =>
    go_wp2_with (first
      | (go_at_call 11; have _t := tokA; refine (cA _ (Below.refl _ _)).mono ?_; rintro e w2 ⟨rfl, hb2⟩; clear tokA)
      | (go_at_call 16; refine (wakes11_any (HL.out.under (hb1.trans (hb2.mono hb1.size)))).mono ?_; rintro e w9 ⟨rfl, hb9⟩))
    go_ret
    exact ⟨rfl, hb1.trans ((hb2.trans (hb9.mono hb2.size)).mono hb1.size)⟩
  cases gb
  case' true =>
    go_wp2_with (first
      | (go_at_call 11; have _t := tokA; refine (cA _ (Below.refl _ _)).mono ?_; rintro e w2 ⟨rfl, hb2⟩; clear tokA; obtain ⟨d0, d1, d2, d3, d4⟩ := (hmvB _ hb2).out)
      | (go_at_call 11; have _t := tokB; refine (cB _ hb2).mono ?_; rintro e w3 ⟨rfl, hb3⟩; have hB3 := hb2.trans (hb3.mono hb2.size); clear tokB)
      | (go_at_call 16; refine (wakes11_any (HL.out.under (hb1.trans (hB3.mono hb1.size)))).mono ?_; rintro e w9 ⟨rfl, hb9⟩))
    go_ret
    exact ⟨rfl, hb1.trans ((hB3.trans (hb9.mono hB3.size)).mono hb1.size)⟩
  generalize gr11 l = gl at cL
  cases gl
  case' true =>
    go_wp2_with (first
      | (go_at_call 11; have _t := tokA; refine (cA _ (Below.refl _ _)).mono ?_; rintro e w2 ⟨rfl, hb2⟩; clear tokA; obtain ⟨d0, d1, d2, d3, d4⟩ := (hmvB _ hb2).out)
      | (go_at_call 11; have _t := tokB; refine (cB _ hb2).mono ?_; rintro e w3 ⟨rfl, hb3⟩; have hB3 := hb2.trans (hb3.mono hb2.size); clear tokB)
      | (go_at_call 12; refine (cL _ hB3).mono ?_; rintro e w4 ⟨rfl, hb4⟩; have hB4 := hB3.trans (hb4.mono hB3.size))
      | (go_at_call 16; refine (wakes11_any (HL.out.under (hb1.trans (hB4.mono hb1.size)))).mono ?_; rintro e w9 ⟨rfl, hb9⟩))
    go_ret
    exact ⟨rfl, hb1.trans ((hB4.trans (hb9.mono hB4.size)).mono hb1.size)⟩
  have tokV : True := trivial
  have kV := fun (V : World) (hv : Below w1.heap.size w1 V) => gVal_any (F := fun _ => True) (HL.out.under (hb1.trans (hv.mono hb1.size))) (fun _ _ => trivial) (HA.out.below hv) (HS.out.under hv)
  go_upto_region 4 with (first
    | (go_at_call 11; have _t := tokA; refine (cA _ (Below.refl _ _)).mono ?_; rintro e w2 ⟨rfl, hb2⟩; clear tokA; obtain ⟨d0, d1, d2, d3, d4⟩ := (hmvB _ hb2).out)
    | (go_at_call 11; have _t := tokB; refine (cB _ hb2).mono ?_; rintro e w3 ⟨rfl, hb3⟩; have hB3 := hb2.trans (hb3.mono hb2.size); clear tokB)
    | (go_at_call 12; refine (cL _ hB3).mono ?_; rintro e w4 ⟨rfl, hb4⟩; have hB4 := hB3.trans (hb4.mono hB3.size); obtain ⟨⟨g0, g1, g2, g3, g4⟩, _⟩ := HND.out _ hB4)
    | (go_at_call 21; have _t := tokV; refine (kV _ hB4).mono ?_; rintro e w5 ⟨yV, yvV, eV, rfl, hyV, hb5, hqV⟩; obtain ⟨pV, cV, rfl⟩ := hyV.kids.slice; have hB5 := hB4.trans (hb5.mono hB4.size); have hzV := heap_new w5 (.cells (cells5 zeroT (.slice none 0 0)) 29); have HQV := Lib.hid hqV; clear hqV tokV)
    | (refine wpList_store_row rfl 29 _ _ rfl w5.heap.size (cells5 yV (.slice pV yV.l.length cV)) (by kernel_rfl) (by kernel_rfl) 29 (cells5 zeroT (.slice none 0 0)) hzV (size28 _ _) (by kernel_rfl) (by kernel_rfl) ?_))
  have hb56 := below_setRow (g := w5.heap.size) (cells := cells5 yV (.slice pV yV.l.length cV)) (alloc_below w5 (.cells (cells5 zeroT (.slice none 0 0)) 29)) (Nat.le_refl _)
  change Code.wp _ _ _ _ ((w5.alloc (.cells (cells5 zeroT (.slice none 0 0)) 29)).setRow w5.heap.size (cells5 yV (.slice pV yV.l.length cV)))
  have hB6 := hB5.trans (hb56.mono hB5.size)
  clear hb56
  generalize (w5.alloc (.cells (cells5 zeroT (.slice none 0 0)) 29)).setRow w5.heap.size (cells5 yV (.slice pV yV.l.length cV)) = w6 at hB6 ⊢
  clear hzV hyV
  clear cA cB cL a0 a1 a2 a3 a4 b0 b1 b2 b3 b4 hmvB
  have tokW : True := trivial
  have kW := gVal_any (F := fun _ => True) (HL.out.under (hb1.trans (hB6.mono hb1.size))) (fun _ _ => trivial) (HB.out.below hB6) (HS.out.under hB6)
  obtain ⟨_, b0, b1, b2, b3, b4⟩ := HND.out _ hB6
  go_upto_region 5 with (first
    | (go_at_call 21; have _t := tokW; refine (kW).mono ?_; rintro e w7 ⟨yW, yvW, eW, rfl, hyW, hb7, hqW⟩; obtain ⟨pW, cW, rfl⟩ := hyW.kids.slice; have hB7 := hB6.trans (hb7.mono hB6.size); have hzW := heap_new w7 (.cells (cells5 zeroT (.slice none 0 0)) 29); have HQW := Lib.hid hqW; clear hqW tokW)
    | (refine wpList_store_row rfl 29 _ _ rfl w7.heap.size (cells5 yW (.slice pW yW.l.length cW)) (by kernel_rfl) (by kernel_rfl) 29 (cells5 zeroT (.slice none 0 0)) hzW (size28 _ _) (by kernel_rfl) (by kernel_rfl) ?_))
  have hb56 := below_setRow (g := w7.heap.size) (cells := cells5 yW (.slice pW yW.l.length cW)) (alloc_below w7 (.cells (cells5 zeroT (.slice none 0 0)) 29)) (Nat.le_refl _)
  change Code.wp _ _ _ _ ((w7.alloc (.cells (cells5 zeroT (.slice none 0 0)) 29)).setRow w7.heap.size (cells5 yW (.slice pW yW.l.length cW)))
  have hB8 := hB7.trans (hb56.mono hB7.size)
  clear hb56
  generalize (w7.alloc (.cells (cells5 zeroT (.slice none 0 0)) 29)).setRow w7.heap.size (cells5 yW (.slice pW yW.l.length cW)) = w8 at hB8 ⊢
  clear hzW hyW
  clear kV kW b0 b1 b2 b3 b4
  have sA := fun (V : World) (hv : Below w1.heap.size w1 V) => nsize_any (HA.out.below hv)
  have sB := fun (V : World) (hv : Below w1.heap.size w1 V) => nsize_any (HB.out.below hv)
  have HAS := Lib.hid (sz_bound a 4097 (by omega))
  have HAD := Lib.hid (dp_bound a 65 (by omega))
  have HBS := Lib.hid (sz_bound b 4097 (by omega))
  have HBD := Lib.hid (dp_bound b 65 (by omega))
  have HTN := Lib.hid (fun (s : ByteArray) (h1 : a.sz 4097 + b.sz 4097 + 2 ≤ 4096) (h2 : a.dp 65 + 2 ≤ 64) (h3 : b.dp 65 + 2 ≤ 64) (h : (valS a l).2 ≠ 0 ∨ (valS b l).2 ≠ 0) (o : icOk s = true) => nots_none (s := s) h1 h2 h3 h o)
  have HTB := Lib.hid (fun (s1 s2 : ByteArray) (h1 : a.sz 4097 + b.sz 4097 + 2 ≤ 4096) (h2 : a.dp 65 + 2 ≤ 64) (h3 : b.dp 65 + 2 ≤ 64) (ha : (valS a l).2 = 0) (hb : (valS b l).2 = 0) (o1 : icOk s1 = true) (o2 : icOk s2 = true) (hc : ∀ c, icB s1 c = !icB s2 c) => nots_both (l := l) h1 h2 h3 ha hb o1 o2 hc)
  generalize a.sz 4097 = za at sA HAS HTN HTB
  generalize a.dp 65 = da at sA HAD HTN HTB
  generalize b.sz 4097 = zb at sB HBS HTN HTB
  generalize b.dp 65 = db at sB HBD HTN HTB
  obtain ⟨⟨a0, a1, a2, a3, a4⟩, _⟩ := HND.out _ hB8
  have tok1 : True := trivial
  have tok2 : True := trivial
  have tok3 : True := trivial
  go_upto_region 9 with (first
    | (go_at_call 28; have _t := tok1; refine (sA _ hB8).mono ?_; rintro e w9 ⟨rfl, hb9⟩; have hB9 := hB8.trans (hb9.mono hB8.size); obtain ⟨_, b0, b1, b2, b3, b4⟩ := HND.out _ hB9; clear tok1)
    | (go_at_call 28; have _t := tok2; refine (sB _ hB9).mono ?_; rintro e w10 ⟨rfl, hb10⟩; have hB10 := hB9.trans (hb10.mono hB9.size); obtain ⟨⟨d0, d1, d2, d3, d4⟩, _⟩ := HND.out _ hB10; clear tok2)
    | (go_at_call 28; have _t := tok3; refine (sA _ hB10).mono ?_; rintro e w11 ⟨rfl, hb11⟩; have hB11 := hB10.trans (hb11.mono hB10.size); obtain ⟨_, f0, f1, f2, f3, f4⟩ := HND.out _ hB11; clear tok3)
    | (go_at_call 28; refine (sB _ hB11).mono ?_; rintro e w12 ⟨rfl, hb12⟩; have hB12 := hB11.trans (hb12.mono hB11.size)))
  clear a0 a1 a2 a3 a4 b0 b1 b2 b3 b4 d0 d1 d2 d3 d4 f0 f1 f2 f3 f4 sA sB
  have h1 := HAS.out
  have h2 := HAD.out
  have h3 := HBS.out
  have h4 := HBD.out
  by_cases hs : 4096 < za + zb + 2
  case' pos =>
    go_wp2_with (first
      | (go_at_call 16; refine (wakes11_any (HL.out.under (hb1.trans (hB12.mono hb1.size)))).mono ?_; rintro e w9 ⟨rfl, hb9⟩))
    go_ret
    exact ⟨rfl, hb1.trans ((hB12.trans (hb9.mono hB12.size)).mono hb1.size)⟩
  by_cases hd : 64 < (max da db) + 2
  case' pos =>
    by_cases hm : db ≤ da
    all_goals
      go_wp2_with (first
        | (go_at_call 16; refine (wakes11_any (HL.out.under (hb1.trans (hB12.mono hb1.size)))).mono ?_; rintro e w9 ⟨rfl, hb9⟩))
      go_ret
      exact ⟨rfl, hb1.trans ((hB12.trans (hb9.mono hB12.size)).mono hb1.size)⟩
  have hda : da + 2 ≤ 64 := by omega
  have hdb : db + 2 ≤ 64 := by omega
  have hz : za + zb + 2 ≤ 4096 := by omega
  have hTN := fun s h o => HTN.out s hz hda hdb h o
  have hTB := fun s1 s2 ha hb o1 o2 hc => HTB.out s1 s2 hz hda hdb ha hb o1 o2 hc
  have HTN2 := Lib.hid hTN
  have HTB2 := Lib.hid hTB
  have HEV : Hid (eV = (valS a l).2) := congrArg Prod.snd HQV.out
  have HEW : Hid (eW = (valS b l).2) := congrArg Prod.snd HQW.out
  clear HTN HTB hTN hTB HAS HAD HBS HBD
  go_cut [78] (fun s78 wx => s78 = .bool false ∧ wx = w12)
  case first =>
    by_cases hm : db ≤ da
    all_goals
      go_wp2_with fail
      go_meet
      exact ⟨by rw [decide_eq_false (by omega)], rfl⟩
  case rest =>
  obtain ⟨rfl, rfl⟩ := hcut
  clear h1 h2 h3 h4 hs hd hda hdb hz
  go_upto_region 11 with fail
  by_cases he : eV = 0
  case' pos =>
    by_cases hf : eW = 0
    case' pos =>
      have HE0 : Hid ((valS a l).2 = 0) := HEV.out.symm.trans he
      have HE1 : Hid ((valS b l).2 = 0) := HEW.out.symm.trans hf
      subst he
      subst hf
      go_wp2_with fail
      have hn13 := heap_new wc (.cells #[.string ⟨#[61, 58, 61]⟩, .string ⟨#[61, 47, 61]⟩, .string ⟨#[60]⟩, .string ⟨#[62, 61]⟩, .string ⟨#[62]⟩, .string ⟨#[61, 60]⟩] 50)
      have hb13 := alloc_below wc (.cells #[.string ⟨#[61, 58, 61]⟩, .string ⟨#[61, 47, 61]⟩, .string ⟨#[60]⟩, .string ⟨#[62, 61]⟩, .string ⟨#[62]⟩, .string ⟨#[61, 60]⟩] 50)
      change Code.wp _ _ _ _ (wc.alloc (.cells #[.string ⟨#[61, 58, 61]⟩, .string ⟨#[61, 47, 61]⟩, .string ⟨#[60]⟩, .string ⟨#[62, 61]⟩, .string ⟨#[62]⟩, .string ⟨#[61, 60]⟩] 50))
      have hB13 := hB12.trans (hb13.mono hB12.size)
      generalize wc.alloc (.cells #[.string ⟨#[61, 58, 61]⟩, .string ⟨#[61, 47, 61]⟩, .string ⟨#[60]⟩, .string ⟨#[62, 61]⟩, .string ⟨#[62]⟩, .string ⟨#[61, 60]⟩] 50) = w13 at hn13 hB13 ⊢
      clear hb13
      go_loopw [91] (fun i wr => NtRel w13 i wr) (fun i _ => 4 - (intOf i).toNat)
      case atStart => exact ⟨.inl rfl, Below.refl _ _⟩
      case round =>
        obtain ⟨hcase, hbr⟩ := hrel
        have hB14 := hB13.trans (hbr.mono hB13.size)
        have hn14 := (hbr.block _ (Array.getElem?_eq_some_iff.1 hn13).1).trans hn13
        rcases hcase with rfl | rfl | rfl | rfl
        · have q0 : wr.cell? ⟨wc.heap.size, 0, none⟩ = some (.string ⟨#[61, 58, 61]⟩) := (arr_cell hn14).trans rfl
          have q1 : wr.cell? ⟨wc.heap.size, 1, none⟩ = some (.string ⟨#[61, 47, 61]⟩) := (arr_cell hn14).trans rfl
          have HLAW := Lib.hid (HTB2.out ⟨#[61, 58, 61]⟩ ⟨#[61, 47, 61]⟩ HE0.out HE1.out (by kernel_rfl) (by kernel_rfl) ic_pair1)
          go_upto_region 15 with fail
          have hn15 := heap_new wr (.cells #[.string ⟨#[61, 58, 61]⟩, .string ⟨#[61, 47, 61]⟩] 50)
          have hb15 := alloc_below wr (.cells #[.string ⟨#[61, 58, 61]⟩, .string ⟨#[61, 47, 61]⟩] 50)
          change Code.wp _ _ _ _ (wr.alloc (.cells #[.string ⟨#[61, 58, 61]⟩, .string ⟨#[61, 47, 61]⟩] 50))
          have hB15 := hB14.trans (hb15.mono hB14.size)
          have hbr15 := hbr.trans (hb15.mono hbr.size)
          clear q0 q1
          generalize wr.alloc (.cells #[.string ⟨#[61, 58, 61]⟩, .string ⟨#[61, 47, 61]⟩] 50) = w15 at hn15 hB15 hbr15 ⊢
          clear hb15
          have q0 : w15.cell? ⟨wr.heap.size, 0, none⟩ = some (.string ⟨#[61, 58, 61]⟩) := (arr_cell hn15).trans rfl
          obtain ⟨⟨a0, a1, a2, a3, a4⟩, b0, b1, b2, b3, b4⟩ := HND.out _ hB15
          have hn16 := heap_new w15 (.cells #[.int .i8 a.k, .int .i64 a.n, .string a.s, .string a.t, .slice pa a.l.length ca, .int .i8 b.k, .int .i64 b.n, .string b.s, .string b.t, .slice pb b.l.length cb] 25)
          have hb16 := alloc_below w15 (.cells #[.int .i8 a.k, .int .i64 a.n, .string a.s, .string a.t, .slice pa a.l.length ca, .int .i8 b.k, .int .i64 b.n, .string b.s, .string b.t, .slice pb b.l.length cb] 25)
          have hB16 := hB15.trans (hb16.mono hB15.size)
          have htv := op_trv (s := ⟨#[61, 58, 61]⟩) hn16 (HA.out.below hB16) (HB.out.below hB16) (by decide)
          have c1 := gTest_any (x := nodeOp ⟨#[61, 58, 61]⟩ a b) (HL.out.under (hb1.trans (hB16.mono hb1.size))) htv (HS.out.under hB16)
          have c1 : Calls Tryz.prog 17 #[.agg #[.int .i8 11, .int .i64 0, .string ⟨#[61, 58, 61]⟩, .string ⟨#[]⟩, .slice (some ⟨w15.heap.size, 0, none⟩) 2 2], .slice pl l.length cl] (w15.alloc (.cells #[.int .i8 a.k, .int .i64 a.n, .string a.s, .string a.t, .slice pa a.l.length ca, .int .i8 b.k, .int .i64 b.n, .string b.s, .string b.t, .slice pb b.l.length cb] 25)) (fun e w' => e = .returned (.bool (testS (nodeOp ⟨#[61, 58, 61]⟩ a b) l)) ∧ Below (w15.alloc (.cells #[.int .i8 a.k, .int .i64 a.n, .string a.s, .string a.t, .slice pa a.l.length ca, .int .i8 b.k, .int .i64 b.n, .string b.s, .string b.t, .slice pb b.l.length cb] 25)).heap.size (w15.alloc (.cells #[.int .i8 a.k, .int .i64 a.n, .string a.s, .string a.t, .slice pa a.l.length ca, .int .i8 b.k, .int .i64 b.n, .string b.s, .string b.t, .slice pb b.l.length cb] 25)) w') := c1
          clear htv
          have hlt15 := (Array.getElem?_eq_some_iff.1 hn15).1
          have HN15 := Lib.hid hn15
          clear hn16 hn15
          generalize testS (nodeOp ⟨#[61, 58, 61]⟩ a b) l = one at c1 HLAW
          go_upto_region 16 with (go_at_call 17; refine c1.mono ?_; rintro e w17 ⟨rfl, hb17⟩)
          have hb157 := hb16.trans (hb17.mono hb16.size)
          have hB17 := hB15.trans (hb157.mono hB15.size)
          have hbr17 := hbr15.trans (hb157.mono hbr15.size)
          have hn17 := (hb157.block _ hlt15).trans HN15.out
          clear q0 a0 a1 a2 a3 a4 b0 b1 b2 b3 b4 c1 hb157
          have q1 : w17.cell? ⟨wr.heap.size, 1, none⟩ = some (.string ⟨#[61, 47, 61]⟩) := (arr_cell hn17).trans rfl
          obtain ⟨⟨a0, a1, a2, a3, a4⟩, b0, b1, b2, b3, b4⟩ := HND.out _ hB17
          have hn18 := heap_new w17 (.cells #[.int .i8 a.k, .int .i64 a.n, .string a.s, .string a.t, .slice pa a.l.length ca, .int .i8 b.k, .int .i64 b.n, .string b.s, .string b.t, .slice pb b.l.length cb] 25)
          have hb18 := alloc_below w17 (.cells #[.int .i8 a.k, .int .i64 a.n, .string a.s, .string a.t, .slice pa a.l.length ca, .int .i8 b.k, .int .i64 b.n, .string b.s, .string b.t, .slice pb b.l.length cb] 25)
          have hB18 := hB17.trans (hb18.mono hB17.size)
          have htv := op_trv (s := ⟨#[61, 47, 61]⟩) hn18 (HA.out.below hB18) (HB.out.below hB18) (by decide)
          have c2 := gTest_any (x := nodeOp ⟨#[61, 47, 61]⟩ a b) (HL.out.under (hb1.trans (hB18.mono hb1.size))) htv (HS.out.under hB18)
          have c2 : Calls Tryz.prog 17 #[.agg #[.int .i8 11, .int .i64 0, .string ⟨#[61, 47, 61]⟩, .string ⟨#[]⟩, .slice (some ⟨w17.heap.size, 0, none⟩) 2 2], .slice pl l.length cl] (w17.alloc (.cells #[.int .i8 a.k, .int .i64 a.n, .string a.s, .string a.t, .slice pa a.l.length ca, .int .i8 b.k, .int .i64 b.n, .string b.s, .string b.t, .slice pb b.l.length cb] 25)) (fun e w' => e = .returned (.bool (testS (nodeOp ⟨#[61, 47, 61]⟩ a b) l)) ∧ Below (w17.alloc (.cells #[.int .i8 a.k, .int .i64 a.n, .string a.s, .string a.t, .slice pa a.l.length ca, .int .i8 b.k, .int .i64 b.n, .string b.s, .string b.t, .slice pb b.l.length cb] 25)).heap.size (w17.alloc (.cells #[.int .i8 a.k, .int .i64 a.n, .string a.s, .string a.t, .slice pa a.l.length ca, .int .i8 b.k, .int .i64 b.n, .string b.s, .string b.t, .slice pb b.l.length cb] 25)) w') := c2
          clear htv
          clear hn18 hn17 hlt15
          generalize testS (nodeOp ⟨#[61, 47, 61]⟩ a b) l = two at c2 HLAW
          go_upto_region 17 with (go_at_call 17; refine c2.mono ?_; rintro e w19 ⟨rfl, hb19⟩)
          have hbr19 := hbr17.trans ((hb18.trans (hb19.mono hb18.size)).mono hbr17.size)
          clear q1 a0 a1 a2 a3 a4 b0 b1 b2 b3 b4 c2
          obtain rfl := HLAW.out
          clear HLAW
          cases two
          all_goals
            go_wp2_with fail
            go_roundw
            case rel => exact ⟨.inr (.inl rfl), hbr19⟩
            case measure => simp [intOf]
        · have q0 : wr.cell? ⟨wc.heap.size, 2, none⟩ = some (.string ⟨#[60]⟩) := (arr_cell hn14).trans rfl
          have q1 : wr.cell? ⟨wc.heap.size, 3, none⟩ = some (.string ⟨#[62, 61]⟩) := (arr_cell hn14).trans rfl
          have HLAW := Lib.hid (HTB2.out ⟨#[60]⟩ ⟨#[62, 61]⟩ HE0.out HE1.out (by kernel_rfl) (by kernel_rfl) ic_pair2)
          go_upto_region 15 with fail
          have hn15 := heap_new wr (.cells #[.string ⟨#[60]⟩, .string ⟨#[62, 61]⟩] 50)
          have hb15 := alloc_below wr (.cells #[.string ⟨#[60]⟩, .string ⟨#[62, 61]⟩] 50)
          change Code.wp _ _ _ _ (wr.alloc (.cells #[.string ⟨#[60]⟩, .string ⟨#[62, 61]⟩] 50))
          have hB15 := hB14.trans (hb15.mono hB14.size)
          have hbr15 := hbr.trans (hb15.mono hbr.size)
          clear q0 q1
          generalize wr.alloc (.cells #[.string ⟨#[60]⟩, .string ⟨#[62, 61]⟩] 50) = w15 at hn15 hB15 hbr15 ⊢
          clear hb15
          have q0 : w15.cell? ⟨wr.heap.size, 0, none⟩ = some (.string ⟨#[60]⟩) := (arr_cell hn15).trans rfl
          obtain ⟨⟨a0, a1, a2, a3, a4⟩, b0, b1, b2, b3, b4⟩ := HND.out _ hB15
          have hn16 := heap_new w15 (.cells #[.int .i8 a.k, .int .i64 a.n, .string a.s, .string a.t, .slice pa a.l.length ca, .int .i8 b.k, .int .i64 b.n, .string b.s, .string b.t, .slice pb b.l.length cb] 25)
          have hb16 := alloc_below w15 (.cells #[.int .i8 a.k, .int .i64 a.n, .string a.s, .string a.t, .slice pa a.l.length ca, .int .i8 b.k, .int .i64 b.n, .string b.s, .string b.t, .slice pb b.l.length cb] 25)
          have hB16 := hB15.trans (hb16.mono hB15.size)
          have htv := op_trv (s := ⟨#[60]⟩) hn16 (HA.out.below hB16) (HB.out.below hB16) (by decide)
          have c1 := gTest_any (x := nodeOp ⟨#[60]⟩ a b) (HL.out.under (hb1.trans (hB16.mono hb1.size))) htv (HS.out.under hB16)
          have c1 : Calls Tryz.prog 17 #[.agg #[.int .i8 11, .int .i64 0, .string ⟨#[60]⟩, .string ⟨#[]⟩, .slice (some ⟨w15.heap.size, 0, none⟩) 2 2], .slice pl l.length cl] (w15.alloc (.cells #[.int .i8 a.k, .int .i64 a.n, .string a.s, .string a.t, .slice pa a.l.length ca, .int .i8 b.k, .int .i64 b.n, .string b.s, .string b.t, .slice pb b.l.length cb] 25)) (fun e w' => e = .returned (.bool (testS (nodeOp ⟨#[60]⟩ a b) l)) ∧ Below (w15.alloc (.cells #[.int .i8 a.k, .int .i64 a.n, .string a.s, .string a.t, .slice pa a.l.length ca, .int .i8 b.k, .int .i64 b.n, .string b.s, .string b.t, .slice pb b.l.length cb] 25)).heap.size (w15.alloc (.cells #[.int .i8 a.k, .int .i64 a.n, .string a.s, .string a.t, .slice pa a.l.length ca, .int .i8 b.k, .int .i64 b.n, .string b.s, .string b.t, .slice pb b.l.length cb] 25)) w') := c1
          clear htv
          have hlt15 := (Array.getElem?_eq_some_iff.1 hn15).1
          have HN15 := Lib.hid hn15
          clear hn16 hn15
          generalize testS (nodeOp ⟨#[60]⟩ a b) l = one at c1 HLAW
          go_upto_region 16 with (go_at_call 17; refine c1.mono ?_; rintro e w17 ⟨rfl, hb17⟩)
          have hb157 := hb16.trans (hb17.mono hb16.size)
          have hB17 := hB15.trans (hb157.mono hB15.size)
          have hbr17 := hbr15.trans (hb157.mono hbr15.size)
          have hn17 := (hb157.block _ hlt15).trans HN15.out
          clear q0 a0 a1 a2 a3 a4 b0 b1 b2 b3 b4 c1 hb157
          have q1 : w17.cell? ⟨wr.heap.size, 1, none⟩ = some (.string ⟨#[62, 61]⟩) := (arr_cell hn17).trans rfl
          obtain ⟨⟨a0, a1, a2, a3, a4⟩, b0, b1, b2, b3, b4⟩ := HND.out _ hB17
          have hn18 := heap_new w17 (.cells #[.int .i8 a.k, .int .i64 a.n, .string a.s, .string a.t, .slice pa a.l.length ca, .int .i8 b.k, .int .i64 b.n, .string b.s, .string b.t, .slice pb b.l.length cb] 25)
          have hb18 := alloc_below w17 (.cells #[.int .i8 a.k, .int .i64 a.n, .string a.s, .string a.t, .slice pa a.l.length ca, .int .i8 b.k, .int .i64 b.n, .string b.s, .string b.t, .slice pb b.l.length cb] 25)
          have hB18 := hB17.trans (hb18.mono hB17.size)
          have htv := op_trv (s := ⟨#[62, 61]⟩) hn18 (HA.out.below hB18) (HB.out.below hB18) (by decide)
          have c2 := gTest_any (x := nodeOp ⟨#[62, 61]⟩ a b) (HL.out.under (hb1.trans (hB18.mono hb1.size))) htv (HS.out.under hB18)
          have c2 : Calls Tryz.prog 17 #[.agg #[.int .i8 11, .int .i64 0, .string ⟨#[62, 61]⟩, .string ⟨#[]⟩, .slice (some ⟨w17.heap.size, 0, none⟩) 2 2], .slice pl l.length cl] (w17.alloc (.cells #[.int .i8 a.k, .int .i64 a.n, .string a.s, .string a.t, .slice pa a.l.length ca, .int .i8 b.k, .int .i64 b.n, .string b.s, .string b.t, .slice pb b.l.length cb] 25)) (fun e w' => e = .returned (.bool (testS (nodeOp ⟨#[62, 61]⟩ a b) l)) ∧ Below (w17.alloc (.cells #[.int .i8 a.k, .int .i64 a.n, .string a.s, .string a.t, .slice pa a.l.length ca, .int .i8 b.k, .int .i64 b.n, .string b.s, .string b.t, .slice pb b.l.length cb] 25)).heap.size (w17.alloc (.cells #[.int .i8 a.k, .int .i64 a.n, .string a.s, .string a.t, .slice pa a.l.length ca, .int .i8 b.k, .int .i64 b.n, .string b.s, .string b.t, .slice pb b.l.length cb] 25)) w') := c2
          clear htv
          clear hn18 hn17 hlt15
          generalize testS (nodeOp ⟨#[62, 61]⟩ a b) l = two at c2 HLAW
          go_upto_region 17 with (go_at_call 17; refine c2.mono ?_; rintro e w19 ⟨rfl, hb19⟩)
          have hbr19 := hbr17.trans ((hb18.trans (hb19.mono hb18.size)).mono hbr17.size)
          clear q1 a0 a1 a2 a3 a4 b0 b1 b2 b3 b4 c2
          obtain rfl := HLAW.out
          clear HLAW
          cases two
          all_goals
            go_wp2_with fail
            go_roundw
            case rel => exact ⟨.inr (.inr (.inl rfl)), hbr19⟩
            case measure => simp [intOf]
        · have q0 : wr.cell? ⟨wc.heap.size, 4, none⟩ = some (.string ⟨#[62]⟩) := (arr_cell hn14).trans rfl
          have q1 : wr.cell? ⟨wc.heap.size, 5, none⟩ = some (.string ⟨#[61, 60]⟩) := (arr_cell hn14).trans rfl
          have HLAW := Lib.hid (HTB2.out ⟨#[62]⟩ ⟨#[61, 60]⟩ HE0.out HE1.out (by kernel_rfl) (by kernel_rfl) ic_pair3)
          go_upto_region 15 with fail
          have hn15 := heap_new wr (.cells #[.string ⟨#[62]⟩, .string ⟨#[61, 60]⟩] 50)
          have hb15 := alloc_below wr (.cells #[.string ⟨#[62]⟩, .string ⟨#[61, 60]⟩] 50)
          change Code.wp _ _ _ _ (wr.alloc (.cells #[.string ⟨#[62]⟩, .string ⟨#[61, 60]⟩] 50))
          have hB15 := hB14.trans (hb15.mono hB14.size)
          have hbr15 := hbr.trans (hb15.mono hbr.size)
          clear q0 q1
          generalize wr.alloc (.cells #[.string ⟨#[62]⟩, .string ⟨#[61, 60]⟩] 50) = w15 at hn15 hB15 hbr15 ⊢
          clear hb15
          have q0 : w15.cell? ⟨wr.heap.size, 0, none⟩ = some (.string ⟨#[62]⟩) := (arr_cell hn15).trans rfl
          obtain ⟨⟨a0, a1, a2, a3, a4⟩, b0, b1, b2, b3, b4⟩ := HND.out _ hB15
          have hn16 := heap_new w15 (.cells #[.int .i8 a.k, .int .i64 a.n, .string a.s, .string a.t, .slice pa a.l.length ca, .int .i8 b.k, .int .i64 b.n, .string b.s, .string b.t, .slice pb b.l.length cb] 25)
          have hb16 := alloc_below w15 (.cells #[.int .i8 a.k, .int .i64 a.n, .string a.s, .string a.t, .slice pa a.l.length ca, .int .i8 b.k, .int .i64 b.n, .string b.s, .string b.t, .slice pb b.l.length cb] 25)
          have hB16 := hB15.trans (hb16.mono hB15.size)
          have htv := op_trv (s := ⟨#[62]⟩) hn16 (HA.out.below hB16) (HB.out.below hB16) (by decide)
          have c1 := gTest_any (x := nodeOp ⟨#[62]⟩ a b) (HL.out.under (hb1.trans (hB16.mono hb1.size))) htv (HS.out.under hB16)
          have c1 : Calls Tryz.prog 17 #[.agg #[.int .i8 11, .int .i64 0, .string ⟨#[62]⟩, .string ⟨#[]⟩, .slice (some ⟨w15.heap.size, 0, none⟩) 2 2], .slice pl l.length cl] (w15.alloc (.cells #[.int .i8 a.k, .int .i64 a.n, .string a.s, .string a.t, .slice pa a.l.length ca, .int .i8 b.k, .int .i64 b.n, .string b.s, .string b.t, .slice pb b.l.length cb] 25)) (fun e w' => e = .returned (.bool (testS (nodeOp ⟨#[62]⟩ a b) l)) ∧ Below (w15.alloc (.cells #[.int .i8 a.k, .int .i64 a.n, .string a.s, .string a.t, .slice pa a.l.length ca, .int .i8 b.k, .int .i64 b.n, .string b.s, .string b.t, .slice pb b.l.length cb] 25)).heap.size (w15.alloc (.cells #[.int .i8 a.k, .int .i64 a.n, .string a.s, .string a.t, .slice pa a.l.length ca, .int .i8 b.k, .int .i64 b.n, .string b.s, .string b.t, .slice pb b.l.length cb] 25)) w') := c1
          clear htv
          have hlt15 := (Array.getElem?_eq_some_iff.1 hn15).1
          have HN15 := Lib.hid hn15
          clear hn16 hn15
          generalize testS (nodeOp ⟨#[62]⟩ a b) l = one at c1 HLAW
          go_upto_region 16 with (go_at_call 17; refine c1.mono ?_; rintro e w17 ⟨rfl, hb17⟩)
          have hb157 := hb16.trans (hb17.mono hb16.size)
          have hB17 := hB15.trans (hb157.mono hB15.size)
          have hbr17 := hbr15.trans (hb157.mono hbr15.size)
          have hn17 := (hb157.block _ hlt15).trans HN15.out
          clear q0 a0 a1 a2 a3 a4 b0 b1 b2 b3 b4 c1 hb157
          have q1 : w17.cell? ⟨wr.heap.size, 1, none⟩ = some (.string ⟨#[61, 60]⟩) := (arr_cell hn17).trans rfl
          obtain ⟨⟨a0, a1, a2, a3, a4⟩, b0, b1, b2, b3, b4⟩ := HND.out _ hB17
          have hn18 := heap_new w17 (.cells #[.int .i8 a.k, .int .i64 a.n, .string a.s, .string a.t, .slice pa a.l.length ca, .int .i8 b.k, .int .i64 b.n, .string b.s, .string b.t, .slice pb b.l.length cb] 25)
          have hb18 := alloc_below w17 (.cells #[.int .i8 a.k, .int .i64 a.n, .string a.s, .string a.t, .slice pa a.l.length ca, .int .i8 b.k, .int .i64 b.n, .string b.s, .string b.t, .slice pb b.l.length cb] 25)
          have hB18 := hB17.trans (hb18.mono hB17.size)
          have htv := op_trv (s := ⟨#[61, 60]⟩) hn18 (HA.out.below hB18) (HB.out.below hB18) (by decide)
          have c2 := gTest_any (x := nodeOp ⟨#[61, 60]⟩ a b) (HL.out.under (hb1.trans (hB18.mono hb1.size))) htv (HS.out.under hB18)
          have c2 : Calls Tryz.prog 17 #[.agg #[.int .i8 11, .int .i64 0, .string ⟨#[61, 60]⟩, .string ⟨#[]⟩, .slice (some ⟨w17.heap.size, 0, none⟩) 2 2], .slice pl l.length cl] (w17.alloc (.cells #[.int .i8 a.k, .int .i64 a.n, .string a.s, .string a.t, .slice pa a.l.length ca, .int .i8 b.k, .int .i64 b.n, .string b.s, .string b.t, .slice pb b.l.length cb] 25)) (fun e w' => e = .returned (.bool (testS (nodeOp ⟨#[61, 60]⟩ a b) l)) ∧ Below (w17.alloc (.cells #[.int .i8 a.k, .int .i64 a.n, .string a.s, .string a.t, .slice pa a.l.length ca, .int .i8 b.k, .int .i64 b.n, .string b.s, .string b.t, .slice pb b.l.length cb] 25)).heap.size (w17.alloc (.cells #[.int .i8 a.k, .int .i64 a.n, .string a.s, .string a.t, .slice pa a.l.length ca, .int .i8 b.k, .int .i64 b.n, .string b.s, .string b.t, .slice pb b.l.length cb] 25)) w') := c2
          clear htv
          clear hn18 hn17 hlt15
          generalize testS (nodeOp ⟨#[61, 60]⟩ a b) l = two at c2 HLAW
          go_upto_region 17 with (go_at_call 17; refine c2.mono ?_; rintro e w19 ⟨rfl, hb19⟩)
          have hbr19 := hbr17.trans ((hb18.trans (hb19.mono hb18.size)).mono hbr17.size)
          clear q1 a0 a1 a2 a3 a4 b0 b1 b2 b3 b4 c2
          obtain rfl := HLAW.out
          clear HLAW
          cases two
          all_goals
            go_wp2_with fail
            go_roundw
            case rel => exact ⟨.inr (.inr (.inr rfl)), hbr19⟩
            case measure => simp [intOf]
        · go_wp2_with (go_at_call 16; refine (wakes11_any (HL.out.under (hb1.trans (hB14.mono hb1.size)))).mono ?_; rintro e w9 ⟨rfl, hb9⟩)
          go_ret
          exact ⟨rfl, hb1.trans ((hB14.trans (hb9.mono hB14.size)).mono hb1.size)⟩
    have HE0 : Hid ((valS a l).2 ≠ 0 ∨ (valS b l).2 ≠ 0) := .inr fun h => hf (HEW.out.trans h)
    have hfn : (eW == 0) = false := by simpa using hf
    subst he
    clear hf
    go_wp2_with fail
    have hn13 := heap_new wc (.cells #[.string ⟨#[61, 58, 61]⟩, .string ⟨#[61, 47, 61]⟩, .string ⟨#[60]⟩, .string ⟨#[62, 61]⟩, .string ⟨#[62]⟩, .string ⟨#[61, 60]⟩] 50)
    have hb13 := alloc_below wc (.cells #[.string ⟨#[61, 58, 61]⟩, .string ⟨#[61, 47, 61]⟩, .string ⟨#[60]⟩, .string ⟨#[62, 61]⟩, .string ⟨#[62]⟩, .string ⟨#[61, 60]⟩] 50)
    change Code.wp _ _ _ _ (wc.alloc (.cells #[.string ⟨#[61, 58, 61]⟩, .string ⟨#[61, 47, 61]⟩, .string ⟨#[60]⟩, .string ⟨#[62, 61]⟩, .string ⟨#[62]⟩, .string ⟨#[61, 60]⟩] 50))
    have hB13 := hB12.trans (hb13.mono hB12.size)
    generalize wc.alloc (.cells #[.string ⟨#[61, 58, 61]⟩, .string ⟨#[61, 47, 61]⟩, .string ⟨#[60]⟩, .string ⟨#[62, 61]⟩, .string ⟨#[62]⟩, .string ⟨#[61, 60]⟩] 50) = w13 at hn13 hB13 ⊢
    clear hb13
    go_loopw [91] (fun i wr => NtRel w13 i wr) (fun i _ => 4 - (intOf i).toNat)
    case atStart => exact ⟨.inl rfl, Below.refl _ _⟩
    case round =>
      obtain ⟨hcase, hbr⟩ := hrel
      have hB14 := hB13.trans (hbr.mono hB13.size)
      have hn14 := (hbr.block _ (Array.getElem?_eq_some_iff.1 hn13).1).trans hn13
      rcases hcase with rfl | rfl | rfl | rfl
      · have q0 : wr.cell? ⟨wc.heap.size, 0, none⟩ = some (.string ⟨#[61, 58, 61]⟩) := (arr_cell hn14).trans rfl
        have q1 : wr.cell? ⟨wc.heap.size, 1, none⟩ = some (.string ⟨#[61, 47, 61]⟩) := (arr_cell hn14).trans rfl
        have HLAW := Lib.hid (And.intro (HTN2.out ⟨#[61, 58, 61]⟩ HE0.out (by kernel_rfl)) (HTN2.out ⟨#[61, 47, 61]⟩ HE0.out (by kernel_rfl)))
        go_upto_region 15 with fail
        have hn15 := heap_new wr (.cells #[.string ⟨#[61, 58, 61]⟩, .string ⟨#[61, 47, 61]⟩] 50)
        have hb15 := alloc_below wr (.cells #[.string ⟨#[61, 58, 61]⟩, .string ⟨#[61, 47, 61]⟩] 50)
        change Code.wp _ _ _ _ (wr.alloc (.cells #[.string ⟨#[61, 58, 61]⟩, .string ⟨#[61, 47, 61]⟩] 50))
        have hB15 := hB14.trans (hb15.mono hB14.size)
        have hbr15 := hbr.trans (hb15.mono hbr.size)
        clear q0 q1
        generalize wr.alloc (.cells #[.string ⟨#[61, 58, 61]⟩, .string ⟨#[61, 47, 61]⟩] 50) = w15 at hn15 hB15 hbr15 ⊢
        clear hb15
        have q0 : w15.cell? ⟨wr.heap.size, 0, none⟩ = some (.string ⟨#[61, 58, 61]⟩) := (arr_cell hn15).trans rfl
        obtain ⟨⟨a0, a1, a2, a3, a4⟩, b0, b1, b2, b3, b4⟩ := HND.out _ hB15
        have hn16 := heap_new w15 (.cells #[.int .i8 a.k, .int .i64 a.n, .string a.s, .string a.t, .slice pa a.l.length ca, .int .i8 b.k, .int .i64 b.n, .string b.s, .string b.t, .slice pb b.l.length cb] 25)
        have hb16 := alloc_below w15 (.cells #[.int .i8 a.k, .int .i64 a.n, .string a.s, .string a.t, .slice pa a.l.length ca, .int .i8 b.k, .int .i64 b.n, .string b.s, .string b.t, .slice pb b.l.length cb] 25)
        have hB16 := hB15.trans (hb16.mono hB15.size)
        have htv := op_trv (s := ⟨#[61, 58, 61]⟩) hn16 (HA.out.below hB16) (HB.out.below hB16) (by decide)
        have c1 := gTest_any (x := nodeOp ⟨#[61, 58, 61]⟩ a b) (HL.out.under (hb1.trans (hB16.mono hb1.size))) htv (HS.out.under hB16)
        have c1 : Calls Tryz.prog 17 #[.agg #[.int .i8 11, .int .i64 0, .string ⟨#[61, 58, 61]⟩, .string ⟨#[]⟩, .slice (some ⟨w15.heap.size, 0, none⟩) 2 2], .slice pl l.length cl] (w15.alloc (.cells #[.int .i8 a.k, .int .i64 a.n, .string a.s, .string a.t, .slice pa a.l.length ca, .int .i8 b.k, .int .i64 b.n, .string b.s, .string b.t, .slice pb b.l.length cb] 25)) (fun e w' => e = .returned (.bool (testS (nodeOp ⟨#[61, 58, 61]⟩ a b) l)) ∧ Below (w15.alloc (.cells #[.int .i8 a.k, .int .i64 a.n, .string a.s, .string a.t, .slice pa a.l.length ca, .int .i8 b.k, .int .i64 b.n, .string b.s, .string b.t, .slice pb b.l.length cb] 25)).heap.size (w15.alloc (.cells #[.int .i8 a.k, .int .i64 a.n, .string a.s, .string a.t, .slice pa a.l.length ca, .int .i8 b.k, .int .i64 b.n, .string b.s, .string b.t, .slice pb b.l.length cb] 25)) w') := c1
        clear htv
        have hlt15 := (Array.getElem?_eq_some_iff.1 hn15).1
        have HN15 := Lib.hid hn15
        clear hn16 hn15
        generalize testS (nodeOp ⟨#[61, 58, 61]⟩ a b) l = one at c1 HLAW
        go_upto_region 16 with (go_at_call 17; refine c1.mono ?_; rintro e w17 ⟨rfl, hb17⟩)
        have hb157 := hb16.trans (hb17.mono hb16.size)
        have hB17 := hB15.trans (hb157.mono hB15.size)
        have hbr17 := hbr15.trans (hb157.mono hbr15.size)
        have hn17 := (hb157.block _ hlt15).trans HN15.out
        clear q0 a0 a1 a2 a3 a4 b0 b1 b2 b3 b4 c1 hb157
        have q1 : w17.cell? ⟨wr.heap.size, 1, none⟩ = some (.string ⟨#[61, 47, 61]⟩) := (arr_cell hn17).trans rfl
        obtain ⟨⟨a0, a1, a2, a3, a4⟩, b0, b1, b2, b3, b4⟩ := HND.out _ hB17
        have hn18 := heap_new w17 (.cells #[.int .i8 a.k, .int .i64 a.n, .string a.s, .string a.t, .slice pa a.l.length ca, .int .i8 b.k, .int .i64 b.n, .string b.s, .string b.t, .slice pb b.l.length cb] 25)
        have hb18 := alloc_below w17 (.cells #[.int .i8 a.k, .int .i64 a.n, .string a.s, .string a.t, .slice pa a.l.length ca, .int .i8 b.k, .int .i64 b.n, .string b.s, .string b.t, .slice pb b.l.length cb] 25)
        have hB18 := hB17.trans (hb18.mono hB17.size)
        have htv := op_trv (s := ⟨#[61, 47, 61]⟩) hn18 (HA.out.below hB18) (HB.out.below hB18) (by decide)
        have c2 := gTest_any (x := nodeOp ⟨#[61, 47, 61]⟩ a b) (HL.out.under (hb1.trans (hB18.mono hb1.size))) htv (HS.out.under hB18)
        have c2 : Calls Tryz.prog 17 #[.agg #[.int .i8 11, .int .i64 0, .string ⟨#[61, 47, 61]⟩, .string ⟨#[]⟩, .slice (some ⟨w17.heap.size, 0, none⟩) 2 2], .slice pl l.length cl] (w17.alloc (.cells #[.int .i8 a.k, .int .i64 a.n, .string a.s, .string a.t, .slice pa a.l.length ca, .int .i8 b.k, .int .i64 b.n, .string b.s, .string b.t, .slice pb b.l.length cb] 25)) (fun e w' => e = .returned (.bool (testS (nodeOp ⟨#[61, 47, 61]⟩ a b) l)) ∧ Below (w17.alloc (.cells #[.int .i8 a.k, .int .i64 a.n, .string a.s, .string a.t, .slice pa a.l.length ca, .int .i8 b.k, .int .i64 b.n, .string b.s, .string b.t, .slice pb b.l.length cb] 25)).heap.size (w17.alloc (.cells #[.int .i8 a.k, .int .i64 a.n, .string a.s, .string a.t, .slice pa a.l.length ca, .int .i8 b.k, .int .i64 b.n, .string b.s, .string b.t, .slice pb b.l.length cb] 25)) w') := c2
        clear htv
        clear hn18 hn17 hlt15
        generalize testS (nodeOp ⟨#[61, 47, 61]⟩ a b) l = two at c2 HLAW
        go_upto_region 17 with (go_at_call 17; refine c2.mono ?_; rintro e w19 ⟨rfl, hb19⟩)
        have hbr19 := hbr17.trans ((hb18.trans (hb19.mono hb18.size)).mono hbr17.size)
        clear q1 a0 a1 a2 a3 a4 b0 b1 b2 b3 b4 c2
        obtain ⟨rfl, rfl⟩ := HLAW.out
        clear HLAW
        go_wp2_with fail
        go_roundw
        case rel => exact ⟨.inr (.inl rfl), hbr19⟩
        case measure => simp [intOf]
      · have q0 : wr.cell? ⟨wc.heap.size, 2, none⟩ = some (.string ⟨#[60]⟩) := (arr_cell hn14).trans rfl
        have q1 : wr.cell? ⟨wc.heap.size, 3, none⟩ = some (.string ⟨#[62, 61]⟩) := (arr_cell hn14).trans rfl
        have HLAW := Lib.hid (And.intro (HTN2.out ⟨#[60]⟩ HE0.out (by kernel_rfl)) (HTN2.out ⟨#[62, 61]⟩ HE0.out (by kernel_rfl)))
        go_upto_region 15 with fail
        have hn15 := heap_new wr (.cells #[.string ⟨#[60]⟩, .string ⟨#[62, 61]⟩] 50)
        have hb15 := alloc_below wr (.cells #[.string ⟨#[60]⟩, .string ⟨#[62, 61]⟩] 50)
        change Code.wp _ _ _ _ (wr.alloc (.cells #[.string ⟨#[60]⟩, .string ⟨#[62, 61]⟩] 50))
        have hB15 := hB14.trans (hb15.mono hB14.size)
        have hbr15 := hbr.trans (hb15.mono hbr.size)
        clear q0 q1
        generalize wr.alloc (.cells #[.string ⟨#[60]⟩, .string ⟨#[62, 61]⟩] 50) = w15 at hn15 hB15 hbr15 ⊢
        clear hb15
        have q0 : w15.cell? ⟨wr.heap.size, 0, none⟩ = some (.string ⟨#[60]⟩) := (arr_cell hn15).trans rfl
        obtain ⟨⟨a0, a1, a2, a3, a4⟩, b0, b1, b2, b3, b4⟩ := HND.out _ hB15
        have hn16 := heap_new w15 (.cells #[.int .i8 a.k, .int .i64 a.n, .string a.s, .string a.t, .slice pa a.l.length ca, .int .i8 b.k, .int .i64 b.n, .string b.s, .string b.t, .slice pb b.l.length cb] 25)
        have hb16 := alloc_below w15 (.cells #[.int .i8 a.k, .int .i64 a.n, .string a.s, .string a.t, .slice pa a.l.length ca, .int .i8 b.k, .int .i64 b.n, .string b.s, .string b.t, .slice pb b.l.length cb] 25)
        have hB16 := hB15.trans (hb16.mono hB15.size)
        have htv := op_trv (s := ⟨#[60]⟩) hn16 (HA.out.below hB16) (HB.out.below hB16) (by decide)
        have c1 := gTest_any (x := nodeOp ⟨#[60]⟩ a b) (HL.out.under (hb1.trans (hB16.mono hb1.size))) htv (HS.out.under hB16)
        have c1 : Calls Tryz.prog 17 #[.agg #[.int .i8 11, .int .i64 0, .string ⟨#[60]⟩, .string ⟨#[]⟩, .slice (some ⟨w15.heap.size, 0, none⟩) 2 2], .slice pl l.length cl] (w15.alloc (.cells #[.int .i8 a.k, .int .i64 a.n, .string a.s, .string a.t, .slice pa a.l.length ca, .int .i8 b.k, .int .i64 b.n, .string b.s, .string b.t, .slice pb b.l.length cb] 25)) (fun e w' => e = .returned (.bool (testS (nodeOp ⟨#[60]⟩ a b) l)) ∧ Below (w15.alloc (.cells #[.int .i8 a.k, .int .i64 a.n, .string a.s, .string a.t, .slice pa a.l.length ca, .int .i8 b.k, .int .i64 b.n, .string b.s, .string b.t, .slice pb b.l.length cb] 25)).heap.size (w15.alloc (.cells #[.int .i8 a.k, .int .i64 a.n, .string a.s, .string a.t, .slice pa a.l.length ca, .int .i8 b.k, .int .i64 b.n, .string b.s, .string b.t, .slice pb b.l.length cb] 25)) w') := c1
        clear htv
        have hlt15 := (Array.getElem?_eq_some_iff.1 hn15).1
        have HN15 := Lib.hid hn15
        clear hn16 hn15
        generalize testS (nodeOp ⟨#[60]⟩ a b) l = one at c1 HLAW
        go_upto_region 16 with (go_at_call 17; refine c1.mono ?_; rintro e w17 ⟨rfl, hb17⟩)
        have hb157 := hb16.trans (hb17.mono hb16.size)
        have hB17 := hB15.trans (hb157.mono hB15.size)
        have hbr17 := hbr15.trans (hb157.mono hbr15.size)
        have hn17 := (hb157.block _ hlt15).trans HN15.out
        clear q0 a0 a1 a2 a3 a4 b0 b1 b2 b3 b4 c1 hb157
        have q1 : w17.cell? ⟨wr.heap.size, 1, none⟩ = some (.string ⟨#[62, 61]⟩) := (arr_cell hn17).trans rfl
        obtain ⟨⟨a0, a1, a2, a3, a4⟩, b0, b1, b2, b3, b4⟩ := HND.out _ hB17
        have hn18 := heap_new w17 (.cells #[.int .i8 a.k, .int .i64 a.n, .string a.s, .string a.t, .slice pa a.l.length ca, .int .i8 b.k, .int .i64 b.n, .string b.s, .string b.t, .slice pb b.l.length cb] 25)
        have hb18 := alloc_below w17 (.cells #[.int .i8 a.k, .int .i64 a.n, .string a.s, .string a.t, .slice pa a.l.length ca, .int .i8 b.k, .int .i64 b.n, .string b.s, .string b.t, .slice pb b.l.length cb] 25)
        have hB18 := hB17.trans (hb18.mono hB17.size)
        have htv := op_trv (s := ⟨#[62, 61]⟩) hn18 (HA.out.below hB18) (HB.out.below hB18) (by decide)
        have c2 := gTest_any (x := nodeOp ⟨#[62, 61]⟩ a b) (HL.out.under (hb1.trans (hB18.mono hb1.size))) htv (HS.out.under hB18)
        have c2 : Calls Tryz.prog 17 #[.agg #[.int .i8 11, .int .i64 0, .string ⟨#[62, 61]⟩, .string ⟨#[]⟩, .slice (some ⟨w17.heap.size, 0, none⟩) 2 2], .slice pl l.length cl] (w17.alloc (.cells #[.int .i8 a.k, .int .i64 a.n, .string a.s, .string a.t, .slice pa a.l.length ca, .int .i8 b.k, .int .i64 b.n, .string b.s, .string b.t, .slice pb b.l.length cb] 25)) (fun e w' => e = .returned (.bool (testS (nodeOp ⟨#[62, 61]⟩ a b) l)) ∧ Below (w17.alloc (.cells #[.int .i8 a.k, .int .i64 a.n, .string a.s, .string a.t, .slice pa a.l.length ca, .int .i8 b.k, .int .i64 b.n, .string b.s, .string b.t, .slice pb b.l.length cb] 25)).heap.size (w17.alloc (.cells #[.int .i8 a.k, .int .i64 a.n, .string a.s, .string a.t, .slice pa a.l.length ca, .int .i8 b.k, .int .i64 b.n, .string b.s, .string b.t, .slice pb b.l.length cb] 25)) w') := c2
        clear htv
        clear hn18 hn17 hlt15
        generalize testS (nodeOp ⟨#[62, 61]⟩ a b) l = two at c2 HLAW
        go_upto_region 17 with (go_at_call 17; refine c2.mono ?_; rintro e w19 ⟨rfl, hb19⟩)
        have hbr19 := hbr17.trans ((hb18.trans (hb19.mono hb18.size)).mono hbr17.size)
        clear q1 a0 a1 a2 a3 a4 b0 b1 b2 b3 b4 c2
        obtain ⟨rfl, rfl⟩ := HLAW.out
        clear HLAW
        go_wp2_with fail
        go_roundw
        case rel => exact ⟨.inr (.inr (.inl rfl)), hbr19⟩
        case measure => simp [intOf]
      · have q0 : wr.cell? ⟨wc.heap.size, 4, none⟩ = some (.string ⟨#[62]⟩) := (arr_cell hn14).trans rfl
        have q1 : wr.cell? ⟨wc.heap.size, 5, none⟩ = some (.string ⟨#[61, 60]⟩) := (arr_cell hn14).trans rfl
        have HLAW := Lib.hid (And.intro (HTN2.out ⟨#[62]⟩ HE0.out (by kernel_rfl)) (HTN2.out ⟨#[61, 60]⟩ HE0.out (by kernel_rfl)))
        go_upto_region 15 with fail
        have hn15 := heap_new wr (.cells #[.string ⟨#[62]⟩, .string ⟨#[61, 60]⟩] 50)
        have hb15 := alloc_below wr (.cells #[.string ⟨#[62]⟩, .string ⟨#[61, 60]⟩] 50)
        change Code.wp _ _ _ _ (wr.alloc (.cells #[.string ⟨#[62]⟩, .string ⟨#[61, 60]⟩] 50))
        have hB15 := hB14.trans (hb15.mono hB14.size)
        have hbr15 := hbr.trans (hb15.mono hbr.size)
        clear q0 q1
        generalize wr.alloc (.cells #[.string ⟨#[62]⟩, .string ⟨#[61, 60]⟩] 50) = w15 at hn15 hB15 hbr15 ⊢
        clear hb15
        have q0 : w15.cell? ⟨wr.heap.size, 0, none⟩ = some (.string ⟨#[62]⟩) := (arr_cell hn15).trans rfl
        obtain ⟨⟨a0, a1, a2, a3, a4⟩, b0, b1, b2, b3, b4⟩ := HND.out _ hB15
        have hn16 := heap_new w15 (.cells #[.int .i8 a.k, .int .i64 a.n, .string a.s, .string a.t, .slice pa a.l.length ca, .int .i8 b.k, .int .i64 b.n, .string b.s, .string b.t, .slice pb b.l.length cb] 25)
        have hb16 := alloc_below w15 (.cells #[.int .i8 a.k, .int .i64 a.n, .string a.s, .string a.t, .slice pa a.l.length ca, .int .i8 b.k, .int .i64 b.n, .string b.s, .string b.t, .slice pb b.l.length cb] 25)
        have hB16 := hB15.trans (hb16.mono hB15.size)
        have htv := op_trv (s := ⟨#[62]⟩) hn16 (HA.out.below hB16) (HB.out.below hB16) (by decide)
        have c1 := gTest_any (x := nodeOp ⟨#[62]⟩ a b) (HL.out.under (hb1.trans (hB16.mono hb1.size))) htv (HS.out.under hB16)
        have c1 : Calls Tryz.prog 17 #[.agg #[.int .i8 11, .int .i64 0, .string ⟨#[62]⟩, .string ⟨#[]⟩, .slice (some ⟨w15.heap.size, 0, none⟩) 2 2], .slice pl l.length cl] (w15.alloc (.cells #[.int .i8 a.k, .int .i64 a.n, .string a.s, .string a.t, .slice pa a.l.length ca, .int .i8 b.k, .int .i64 b.n, .string b.s, .string b.t, .slice pb b.l.length cb] 25)) (fun e w' => e = .returned (.bool (testS (nodeOp ⟨#[62]⟩ a b) l)) ∧ Below (w15.alloc (.cells #[.int .i8 a.k, .int .i64 a.n, .string a.s, .string a.t, .slice pa a.l.length ca, .int .i8 b.k, .int .i64 b.n, .string b.s, .string b.t, .slice pb b.l.length cb] 25)).heap.size (w15.alloc (.cells #[.int .i8 a.k, .int .i64 a.n, .string a.s, .string a.t, .slice pa a.l.length ca, .int .i8 b.k, .int .i64 b.n, .string b.s, .string b.t, .slice pb b.l.length cb] 25)) w') := c1
        clear htv
        have hlt15 := (Array.getElem?_eq_some_iff.1 hn15).1
        have HN15 := Lib.hid hn15
        clear hn16 hn15
        generalize testS (nodeOp ⟨#[62]⟩ a b) l = one at c1 HLAW
        go_upto_region 16 with (go_at_call 17; refine c1.mono ?_; rintro e w17 ⟨rfl, hb17⟩)
        have hb157 := hb16.trans (hb17.mono hb16.size)
        have hB17 := hB15.trans (hb157.mono hB15.size)
        have hbr17 := hbr15.trans (hb157.mono hbr15.size)
        have hn17 := (hb157.block _ hlt15).trans HN15.out
        clear q0 a0 a1 a2 a3 a4 b0 b1 b2 b3 b4 c1 hb157
        have q1 : w17.cell? ⟨wr.heap.size, 1, none⟩ = some (.string ⟨#[61, 60]⟩) := (arr_cell hn17).trans rfl
        obtain ⟨⟨a0, a1, a2, a3, a4⟩, b0, b1, b2, b3, b4⟩ := HND.out _ hB17
        have hn18 := heap_new w17 (.cells #[.int .i8 a.k, .int .i64 a.n, .string a.s, .string a.t, .slice pa a.l.length ca, .int .i8 b.k, .int .i64 b.n, .string b.s, .string b.t, .slice pb b.l.length cb] 25)
        have hb18 := alloc_below w17 (.cells #[.int .i8 a.k, .int .i64 a.n, .string a.s, .string a.t, .slice pa a.l.length ca, .int .i8 b.k, .int .i64 b.n, .string b.s, .string b.t, .slice pb b.l.length cb] 25)
        have hB18 := hB17.trans (hb18.mono hB17.size)
        have htv := op_trv (s := ⟨#[61, 60]⟩) hn18 (HA.out.below hB18) (HB.out.below hB18) (by decide)
        have c2 := gTest_any (x := nodeOp ⟨#[61, 60]⟩ a b) (HL.out.under (hb1.trans (hB18.mono hb1.size))) htv (HS.out.under hB18)
        have c2 : Calls Tryz.prog 17 #[.agg #[.int .i8 11, .int .i64 0, .string ⟨#[61, 60]⟩, .string ⟨#[]⟩, .slice (some ⟨w17.heap.size, 0, none⟩) 2 2], .slice pl l.length cl] (w17.alloc (.cells #[.int .i8 a.k, .int .i64 a.n, .string a.s, .string a.t, .slice pa a.l.length ca, .int .i8 b.k, .int .i64 b.n, .string b.s, .string b.t, .slice pb b.l.length cb] 25)) (fun e w' => e = .returned (.bool (testS (nodeOp ⟨#[61, 60]⟩ a b) l)) ∧ Below (w17.alloc (.cells #[.int .i8 a.k, .int .i64 a.n, .string a.s, .string a.t, .slice pa a.l.length ca, .int .i8 b.k, .int .i64 b.n, .string b.s, .string b.t, .slice pb b.l.length cb] 25)).heap.size (w17.alloc (.cells #[.int .i8 a.k, .int .i64 a.n, .string a.s, .string a.t, .slice pa a.l.length ca, .int .i8 b.k, .int .i64 b.n, .string b.s, .string b.t, .slice pb b.l.length cb] 25)) w') := c2
        clear htv
        clear hn18 hn17 hlt15
        generalize testS (nodeOp ⟨#[61, 60]⟩ a b) l = two at c2 HLAW
        go_upto_region 17 with (go_at_call 17; refine c2.mono ?_; rintro e w19 ⟨rfl, hb19⟩)
        have hbr19 := hbr17.trans ((hb18.trans (hb19.mono hb18.size)).mono hbr17.size)
        clear q1 a0 a1 a2 a3 a4 b0 b1 b2 b3 b4 c2
        obtain ⟨rfl, rfl⟩ := HLAW.out
        clear HLAW
        go_wp2_with fail
        go_roundw
        case rel => exact ⟨.inr (.inr (.inr rfl)), hbr19⟩
        case measure => simp [intOf]
      · go_wp2_with (go_at_call 16; refine (wakes11_any (HL.out.under (hb1.trans (hB14.mono hb1.size)))).mono ?_; rintro e w9 ⟨rfl, hb9⟩)
        go_ret
        exact ⟨rfl, hb1.trans ((hB14.trans (hb9.mono hB14.size)).mono hb1.size)⟩
  have HE0 : Hid ((valS a l).2 ≠ 0 ∨ (valS b l).2 ≠ 0) := .inl fun h => he (HEV.out.trans h)
  have hen : (eV == 0) = false := by simpa using he
  clear he
  go_wp2_with fail
  have hn13 := heap_new wc (.cells #[.string ⟨#[61, 58, 61]⟩, .string ⟨#[61, 47, 61]⟩, .string ⟨#[60]⟩, .string ⟨#[62, 61]⟩, .string ⟨#[62]⟩, .string ⟨#[61, 60]⟩] 50)
  have hb13 := alloc_below wc (.cells #[.string ⟨#[61, 58, 61]⟩, .string ⟨#[61, 47, 61]⟩, .string ⟨#[60]⟩, .string ⟨#[62, 61]⟩, .string ⟨#[62]⟩, .string ⟨#[61, 60]⟩] 50)
  change Code.wp _ _ _ _ (wc.alloc (.cells #[.string ⟨#[61, 58, 61]⟩, .string ⟨#[61, 47, 61]⟩, .string ⟨#[60]⟩, .string ⟨#[62, 61]⟩, .string ⟨#[62]⟩, .string ⟨#[61, 60]⟩] 50))
  have hB13 := hB12.trans (hb13.mono hB12.size)
  generalize wc.alloc (.cells #[.string ⟨#[61, 58, 61]⟩, .string ⟨#[61, 47, 61]⟩, .string ⟨#[60]⟩, .string ⟨#[62, 61]⟩, .string ⟨#[62]⟩, .string ⟨#[61, 60]⟩] 50) = w13 at hn13 hB13 ⊢
  clear hb13
  go_loopw [91] (fun i wr => NtRel w13 i wr) (fun i _ => 4 - (intOf i).toNat)
  case atStart => exact ⟨.inl rfl, Below.refl _ _⟩
  case round =>
    obtain ⟨hcase, hbr⟩ := hrel
    have hB14 := hB13.trans (hbr.mono hB13.size)
    have hn14 := (hbr.block _ (Array.getElem?_eq_some_iff.1 hn13).1).trans hn13
    rcases hcase with rfl | rfl | rfl | rfl
    · have q0 : wr.cell? ⟨wc.heap.size, 0, none⟩ = some (.string ⟨#[61, 58, 61]⟩) := (arr_cell hn14).trans rfl
      have q1 : wr.cell? ⟨wc.heap.size, 1, none⟩ = some (.string ⟨#[61, 47, 61]⟩) := (arr_cell hn14).trans rfl
      have HLAW := Lib.hid (And.intro (HTN2.out ⟨#[61, 58, 61]⟩ HE0.out (by kernel_rfl)) (HTN2.out ⟨#[61, 47, 61]⟩ HE0.out (by kernel_rfl)))
      go_upto_region 15 with fail
      have hn15 := heap_new wr (.cells #[.string ⟨#[61, 58, 61]⟩, .string ⟨#[61, 47, 61]⟩] 50)
      have hb15 := alloc_below wr (.cells #[.string ⟨#[61, 58, 61]⟩, .string ⟨#[61, 47, 61]⟩] 50)
      change Code.wp _ _ _ _ (wr.alloc (.cells #[.string ⟨#[61, 58, 61]⟩, .string ⟨#[61, 47, 61]⟩] 50))
      have hB15 := hB14.trans (hb15.mono hB14.size)
      have hbr15 := hbr.trans (hb15.mono hbr.size)
      clear q0 q1
      generalize wr.alloc (.cells #[.string ⟨#[61, 58, 61]⟩, .string ⟨#[61, 47, 61]⟩] 50) = w15 at hn15 hB15 hbr15 ⊢
      clear hb15
      have q0 : w15.cell? ⟨wr.heap.size, 0, none⟩ = some (.string ⟨#[61, 58, 61]⟩) := (arr_cell hn15).trans rfl
      obtain ⟨⟨a0, a1, a2, a3, a4⟩, b0, b1, b2, b3, b4⟩ := HND.out _ hB15
      have hn16 := heap_new w15 (.cells #[.int .i8 a.k, .int .i64 a.n, .string a.s, .string a.t, .slice pa a.l.length ca, .int .i8 b.k, .int .i64 b.n, .string b.s, .string b.t, .slice pb b.l.length cb] 25)
      have hb16 := alloc_below w15 (.cells #[.int .i8 a.k, .int .i64 a.n, .string a.s, .string a.t, .slice pa a.l.length ca, .int .i8 b.k, .int .i64 b.n, .string b.s, .string b.t, .slice pb b.l.length cb] 25)
      have hB16 := hB15.trans (hb16.mono hB15.size)
      have htv := op_trv (s := ⟨#[61, 58, 61]⟩) hn16 (HA.out.below hB16) (HB.out.below hB16) (by decide)
      have c1 := gTest_any (x := nodeOp ⟨#[61, 58, 61]⟩ a b) (HL.out.under (hb1.trans (hB16.mono hb1.size))) htv (HS.out.under hB16)
      have c1 : Calls Tryz.prog 17 #[.agg #[.int .i8 11, .int .i64 0, .string ⟨#[61, 58, 61]⟩, .string ⟨#[]⟩, .slice (some ⟨w15.heap.size, 0, none⟩) 2 2], .slice pl l.length cl] (w15.alloc (.cells #[.int .i8 a.k, .int .i64 a.n, .string a.s, .string a.t, .slice pa a.l.length ca, .int .i8 b.k, .int .i64 b.n, .string b.s, .string b.t, .slice pb b.l.length cb] 25)) (fun e w' => e = .returned (.bool (testS (nodeOp ⟨#[61, 58, 61]⟩ a b) l)) ∧ Below (w15.alloc (.cells #[.int .i8 a.k, .int .i64 a.n, .string a.s, .string a.t, .slice pa a.l.length ca, .int .i8 b.k, .int .i64 b.n, .string b.s, .string b.t, .slice pb b.l.length cb] 25)).heap.size (w15.alloc (.cells #[.int .i8 a.k, .int .i64 a.n, .string a.s, .string a.t, .slice pa a.l.length ca, .int .i8 b.k, .int .i64 b.n, .string b.s, .string b.t, .slice pb b.l.length cb] 25)) w') := c1
      clear htv
      have hlt15 := (Array.getElem?_eq_some_iff.1 hn15).1
      have HN15 := Lib.hid hn15
      clear hn16 hn15
      generalize testS (nodeOp ⟨#[61, 58, 61]⟩ a b) l = one at c1 HLAW
      go_upto_region 16 with (go_at_call 17; refine c1.mono ?_; rintro e w17 ⟨rfl, hb17⟩)
      have hb157 := hb16.trans (hb17.mono hb16.size)
      have hB17 := hB15.trans (hb157.mono hB15.size)
      have hbr17 := hbr15.trans (hb157.mono hbr15.size)
      have hn17 := (hb157.block _ hlt15).trans HN15.out
      clear q0 a0 a1 a2 a3 a4 b0 b1 b2 b3 b4 c1 hb157
      have q1 : w17.cell? ⟨wr.heap.size, 1, none⟩ = some (.string ⟨#[61, 47, 61]⟩) := (arr_cell hn17).trans rfl
      obtain ⟨⟨a0, a1, a2, a3, a4⟩, b0, b1, b2, b3, b4⟩ := HND.out _ hB17
      have hn18 := heap_new w17 (.cells #[.int .i8 a.k, .int .i64 a.n, .string a.s, .string a.t, .slice pa a.l.length ca, .int .i8 b.k, .int .i64 b.n, .string b.s, .string b.t, .slice pb b.l.length cb] 25)
      have hb18 := alloc_below w17 (.cells #[.int .i8 a.k, .int .i64 a.n, .string a.s, .string a.t, .slice pa a.l.length ca, .int .i8 b.k, .int .i64 b.n, .string b.s, .string b.t, .slice pb b.l.length cb] 25)
      have hB18 := hB17.trans (hb18.mono hB17.size)
      have htv := op_trv (s := ⟨#[61, 47, 61]⟩) hn18 (HA.out.below hB18) (HB.out.below hB18) (by decide)
      have c2 := gTest_any (x := nodeOp ⟨#[61, 47, 61]⟩ a b) (HL.out.under (hb1.trans (hB18.mono hb1.size))) htv (HS.out.under hB18)
      have c2 : Calls Tryz.prog 17 #[.agg #[.int .i8 11, .int .i64 0, .string ⟨#[61, 47, 61]⟩, .string ⟨#[]⟩, .slice (some ⟨w17.heap.size, 0, none⟩) 2 2], .slice pl l.length cl] (w17.alloc (.cells #[.int .i8 a.k, .int .i64 a.n, .string a.s, .string a.t, .slice pa a.l.length ca, .int .i8 b.k, .int .i64 b.n, .string b.s, .string b.t, .slice pb b.l.length cb] 25)) (fun e w' => e = .returned (.bool (testS (nodeOp ⟨#[61, 47, 61]⟩ a b) l)) ∧ Below (w17.alloc (.cells #[.int .i8 a.k, .int .i64 a.n, .string a.s, .string a.t, .slice pa a.l.length ca, .int .i8 b.k, .int .i64 b.n, .string b.s, .string b.t, .slice pb b.l.length cb] 25)).heap.size (w17.alloc (.cells #[.int .i8 a.k, .int .i64 a.n, .string a.s, .string a.t, .slice pa a.l.length ca, .int .i8 b.k, .int .i64 b.n, .string b.s, .string b.t, .slice pb b.l.length cb] 25)) w') := c2
      clear htv
      clear hn18 hn17 hlt15
      generalize testS (nodeOp ⟨#[61, 47, 61]⟩ a b) l = two at c2 HLAW
      go_upto_region 17 with (go_at_call 17; refine c2.mono ?_; rintro e w19 ⟨rfl, hb19⟩)
      have hbr19 := hbr17.trans ((hb18.trans (hb19.mono hb18.size)).mono hbr17.size)
      clear q1 a0 a1 a2 a3 a4 b0 b1 b2 b3 b4 c2
      obtain ⟨rfl, rfl⟩ := HLAW.out
      clear HLAW
      go_wp2_with fail
      go_roundw
      case rel => exact ⟨.inr (.inl rfl), hbr19⟩
      case measure => simp [intOf]
    · have q0 : wr.cell? ⟨wc.heap.size, 2, none⟩ = some (.string ⟨#[60]⟩) := (arr_cell hn14).trans rfl
      have q1 : wr.cell? ⟨wc.heap.size, 3, none⟩ = some (.string ⟨#[62, 61]⟩) := (arr_cell hn14).trans rfl
      have HLAW := Lib.hid (And.intro (HTN2.out ⟨#[60]⟩ HE0.out (by kernel_rfl)) (HTN2.out ⟨#[62, 61]⟩ HE0.out (by kernel_rfl)))
      go_upto_region 15 with fail
      have hn15 := heap_new wr (.cells #[.string ⟨#[60]⟩, .string ⟨#[62, 61]⟩] 50)
      have hb15 := alloc_below wr (.cells #[.string ⟨#[60]⟩, .string ⟨#[62, 61]⟩] 50)
      change Code.wp _ _ _ _ (wr.alloc (.cells #[.string ⟨#[60]⟩, .string ⟨#[62, 61]⟩] 50))
      have hB15 := hB14.trans (hb15.mono hB14.size)
      have hbr15 := hbr.trans (hb15.mono hbr.size)
      clear q0 q1
      generalize wr.alloc (.cells #[.string ⟨#[60]⟩, .string ⟨#[62, 61]⟩] 50) = w15 at hn15 hB15 hbr15 ⊢
      clear hb15
      have q0 : w15.cell? ⟨wr.heap.size, 0, none⟩ = some (.string ⟨#[60]⟩) := (arr_cell hn15).trans rfl
      obtain ⟨⟨a0, a1, a2, a3, a4⟩, b0, b1, b2, b3, b4⟩ := HND.out _ hB15
      have hn16 := heap_new w15 (.cells #[.int .i8 a.k, .int .i64 a.n, .string a.s, .string a.t, .slice pa a.l.length ca, .int .i8 b.k, .int .i64 b.n, .string b.s, .string b.t, .slice pb b.l.length cb] 25)
      have hb16 := alloc_below w15 (.cells #[.int .i8 a.k, .int .i64 a.n, .string a.s, .string a.t, .slice pa a.l.length ca, .int .i8 b.k, .int .i64 b.n, .string b.s, .string b.t, .slice pb b.l.length cb] 25)
      have hB16 := hB15.trans (hb16.mono hB15.size)
      have htv := op_trv (s := ⟨#[60]⟩) hn16 (HA.out.below hB16) (HB.out.below hB16) (by decide)
      have c1 := gTest_any (x := nodeOp ⟨#[60]⟩ a b) (HL.out.under (hb1.trans (hB16.mono hb1.size))) htv (HS.out.under hB16)
      have c1 : Calls Tryz.prog 17 #[.agg #[.int .i8 11, .int .i64 0, .string ⟨#[60]⟩, .string ⟨#[]⟩, .slice (some ⟨w15.heap.size, 0, none⟩) 2 2], .slice pl l.length cl] (w15.alloc (.cells #[.int .i8 a.k, .int .i64 a.n, .string a.s, .string a.t, .slice pa a.l.length ca, .int .i8 b.k, .int .i64 b.n, .string b.s, .string b.t, .slice pb b.l.length cb] 25)) (fun e w' => e = .returned (.bool (testS (nodeOp ⟨#[60]⟩ a b) l)) ∧ Below (w15.alloc (.cells #[.int .i8 a.k, .int .i64 a.n, .string a.s, .string a.t, .slice pa a.l.length ca, .int .i8 b.k, .int .i64 b.n, .string b.s, .string b.t, .slice pb b.l.length cb] 25)).heap.size (w15.alloc (.cells #[.int .i8 a.k, .int .i64 a.n, .string a.s, .string a.t, .slice pa a.l.length ca, .int .i8 b.k, .int .i64 b.n, .string b.s, .string b.t, .slice pb b.l.length cb] 25)) w') := c1
      clear htv
      have hlt15 := (Array.getElem?_eq_some_iff.1 hn15).1
      have HN15 := Lib.hid hn15
      clear hn16 hn15
      generalize testS (nodeOp ⟨#[60]⟩ a b) l = one at c1 HLAW
      go_upto_region 16 with (go_at_call 17; refine c1.mono ?_; rintro e w17 ⟨rfl, hb17⟩)
      have hb157 := hb16.trans (hb17.mono hb16.size)
      have hB17 := hB15.trans (hb157.mono hB15.size)
      have hbr17 := hbr15.trans (hb157.mono hbr15.size)
      have hn17 := (hb157.block _ hlt15).trans HN15.out
      clear q0 a0 a1 a2 a3 a4 b0 b1 b2 b3 b4 c1 hb157
      have q1 : w17.cell? ⟨wr.heap.size, 1, none⟩ = some (.string ⟨#[62, 61]⟩) := (arr_cell hn17).trans rfl
      obtain ⟨⟨a0, a1, a2, a3, a4⟩, b0, b1, b2, b3, b4⟩ := HND.out _ hB17
      have hn18 := heap_new w17 (.cells #[.int .i8 a.k, .int .i64 a.n, .string a.s, .string a.t, .slice pa a.l.length ca, .int .i8 b.k, .int .i64 b.n, .string b.s, .string b.t, .slice pb b.l.length cb] 25)
      have hb18 := alloc_below w17 (.cells #[.int .i8 a.k, .int .i64 a.n, .string a.s, .string a.t, .slice pa a.l.length ca, .int .i8 b.k, .int .i64 b.n, .string b.s, .string b.t, .slice pb b.l.length cb] 25)
      have hB18 := hB17.trans (hb18.mono hB17.size)
      have htv := op_trv (s := ⟨#[62, 61]⟩) hn18 (HA.out.below hB18) (HB.out.below hB18) (by decide)
      have c2 := gTest_any (x := nodeOp ⟨#[62, 61]⟩ a b) (HL.out.under (hb1.trans (hB18.mono hb1.size))) htv (HS.out.under hB18)
      have c2 : Calls Tryz.prog 17 #[.agg #[.int .i8 11, .int .i64 0, .string ⟨#[62, 61]⟩, .string ⟨#[]⟩, .slice (some ⟨w17.heap.size, 0, none⟩) 2 2], .slice pl l.length cl] (w17.alloc (.cells #[.int .i8 a.k, .int .i64 a.n, .string a.s, .string a.t, .slice pa a.l.length ca, .int .i8 b.k, .int .i64 b.n, .string b.s, .string b.t, .slice pb b.l.length cb] 25)) (fun e w' => e = .returned (.bool (testS (nodeOp ⟨#[62, 61]⟩ a b) l)) ∧ Below (w17.alloc (.cells #[.int .i8 a.k, .int .i64 a.n, .string a.s, .string a.t, .slice pa a.l.length ca, .int .i8 b.k, .int .i64 b.n, .string b.s, .string b.t, .slice pb b.l.length cb] 25)).heap.size (w17.alloc (.cells #[.int .i8 a.k, .int .i64 a.n, .string a.s, .string a.t, .slice pa a.l.length ca, .int .i8 b.k, .int .i64 b.n, .string b.s, .string b.t, .slice pb b.l.length cb] 25)) w') := c2
      clear htv
      clear hn18 hn17 hlt15
      generalize testS (nodeOp ⟨#[62, 61]⟩ a b) l = two at c2 HLAW
      go_upto_region 17 with (go_at_call 17; refine c2.mono ?_; rintro e w19 ⟨rfl, hb19⟩)
      have hbr19 := hbr17.trans ((hb18.trans (hb19.mono hb18.size)).mono hbr17.size)
      clear q1 a0 a1 a2 a3 a4 b0 b1 b2 b3 b4 c2
      obtain ⟨rfl, rfl⟩ := HLAW.out
      clear HLAW
      go_wp2_with fail
      go_roundw
      case rel => exact ⟨.inr (.inr (.inl rfl)), hbr19⟩
      case measure => simp [intOf]
    · have q0 : wr.cell? ⟨wc.heap.size, 4, none⟩ = some (.string ⟨#[62]⟩) := (arr_cell hn14).trans rfl
      have q1 : wr.cell? ⟨wc.heap.size, 5, none⟩ = some (.string ⟨#[61, 60]⟩) := (arr_cell hn14).trans rfl
      have HLAW := Lib.hid (And.intro (HTN2.out ⟨#[62]⟩ HE0.out (by kernel_rfl)) (HTN2.out ⟨#[61, 60]⟩ HE0.out (by kernel_rfl)))
      go_upto_region 15 with fail
      have hn15 := heap_new wr (.cells #[.string ⟨#[62]⟩, .string ⟨#[61, 60]⟩] 50)
      have hb15 := alloc_below wr (.cells #[.string ⟨#[62]⟩, .string ⟨#[61, 60]⟩] 50)
      change Code.wp _ _ _ _ (wr.alloc (.cells #[.string ⟨#[62]⟩, .string ⟨#[61, 60]⟩] 50))
      have hB15 := hB14.trans (hb15.mono hB14.size)
      have hbr15 := hbr.trans (hb15.mono hbr.size)
      clear q0 q1
      generalize wr.alloc (.cells #[.string ⟨#[62]⟩, .string ⟨#[61, 60]⟩] 50) = w15 at hn15 hB15 hbr15 ⊢
      clear hb15
      have q0 : w15.cell? ⟨wr.heap.size, 0, none⟩ = some (.string ⟨#[62]⟩) := (arr_cell hn15).trans rfl
      obtain ⟨⟨a0, a1, a2, a3, a4⟩, b0, b1, b2, b3, b4⟩ := HND.out _ hB15
      have hn16 := heap_new w15 (.cells #[.int .i8 a.k, .int .i64 a.n, .string a.s, .string a.t, .slice pa a.l.length ca, .int .i8 b.k, .int .i64 b.n, .string b.s, .string b.t, .slice pb b.l.length cb] 25)
      have hb16 := alloc_below w15 (.cells #[.int .i8 a.k, .int .i64 a.n, .string a.s, .string a.t, .slice pa a.l.length ca, .int .i8 b.k, .int .i64 b.n, .string b.s, .string b.t, .slice pb b.l.length cb] 25)
      have hB16 := hB15.trans (hb16.mono hB15.size)
      have htv := op_trv (s := ⟨#[62]⟩) hn16 (HA.out.below hB16) (HB.out.below hB16) (by decide)
      have c1 := gTest_any (x := nodeOp ⟨#[62]⟩ a b) (HL.out.under (hb1.trans (hB16.mono hb1.size))) htv (HS.out.under hB16)
      have c1 : Calls Tryz.prog 17 #[.agg #[.int .i8 11, .int .i64 0, .string ⟨#[62]⟩, .string ⟨#[]⟩, .slice (some ⟨w15.heap.size, 0, none⟩) 2 2], .slice pl l.length cl] (w15.alloc (.cells #[.int .i8 a.k, .int .i64 a.n, .string a.s, .string a.t, .slice pa a.l.length ca, .int .i8 b.k, .int .i64 b.n, .string b.s, .string b.t, .slice pb b.l.length cb] 25)) (fun e w' => e = .returned (.bool (testS (nodeOp ⟨#[62]⟩ a b) l)) ∧ Below (w15.alloc (.cells #[.int .i8 a.k, .int .i64 a.n, .string a.s, .string a.t, .slice pa a.l.length ca, .int .i8 b.k, .int .i64 b.n, .string b.s, .string b.t, .slice pb b.l.length cb] 25)).heap.size (w15.alloc (.cells #[.int .i8 a.k, .int .i64 a.n, .string a.s, .string a.t, .slice pa a.l.length ca, .int .i8 b.k, .int .i64 b.n, .string b.s, .string b.t, .slice pb b.l.length cb] 25)) w') := c1
      clear htv
      have hlt15 := (Array.getElem?_eq_some_iff.1 hn15).1
      have HN15 := Lib.hid hn15
      clear hn16 hn15
      generalize testS (nodeOp ⟨#[62]⟩ a b) l = one at c1 HLAW
      go_upto_region 16 with (go_at_call 17; refine c1.mono ?_; rintro e w17 ⟨rfl, hb17⟩)
      have hb157 := hb16.trans (hb17.mono hb16.size)
      have hB17 := hB15.trans (hb157.mono hB15.size)
      have hbr17 := hbr15.trans (hb157.mono hbr15.size)
      have hn17 := (hb157.block _ hlt15).trans HN15.out
      clear q0 a0 a1 a2 a3 a4 b0 b1 b2 b3 b4 c1 hb157
      have q1 : w17.cell? ⟨wr.heap.size, 1, none⟩ = some (.string ⟨#[61, 60]⟩) := (arr_cell hn17).trans rfl
      obtain ⟨⟨a0, a1, a2, a3, a4⟩, b0, b1, b2, b3, b4⟩ := HND.out _ hB17
      have hn18 := heap_new w17 (.cells #[.int .i8 a.k, .int .i64 a.n, .string a.s, .string a.t, .slice pa a.l.length ca, .int .i8 b.k, .int .i64 b.n, .string b.s, .string b.t, .slice pb b.l.length cb] 25)
      have hb18 := alloc_below w17 (.cells #[.int .i8 a.k, .int .i64 a.n, .string a.s, .string a.t, .slice pa a.l.length ca, .int .i8 b.k, .int .i64 b.n, .string b.s, .string b.t, .slice pb b.l.length cb] 25)
      have hB18 := hB17.trans (hb18.mono hB17.size)
      have htv := op_trv (s := ⟨#[61, 60]⟩) hn18 (HA.out.below hB18) (HB.out.below hB18) (by decide)
      have c2 := gTest_any (x := nodeOp ⟨#[61, 60]⟩ a b) (HL.out.under (hb1.trans (hB18.mono hb1.size))) htv (HS.out.under hB18)
      have c2 : Calls Tryz.prog 17 #[.agg #[.int .i8 11, .int .i64 0, .string ⟨#[61, 60]⟩, .string ⟨#[]⟩, .slice (some ⟨w17.heap.size, 0, none⟩) 2 2], .slice pl l.length cl] (w17.alloc (.cells #[.int .i8 a.k, .int .i64 a.n, .string a.s, .string a.t, .slice pa a.l.length ca, .int .i8 b.k, .int .i64 b.n, .string b.s, .string b.t, .slice pb b.l.length cb] 25)) (fun e w' => e = .returned (.bool (testS (nodeOp ⟨#[61, 60]⟩ a b) l)) ∧ Below (w17.alloc (.cells #[.int .i8 a.k, .int .i64 a.n, .string a.s, .string a.t, .slice pa a.l.length ca, .int .i8 b.k, .int .i64 b.n, .string b.s, .string b.t, .slice pb b.l.length cb] 25)).heap.size (w17.alloc (.cells #[.int .i8 a.k, .int .i64 a.n, .string a.s, .string a.t, .slice pa a.l.length ca, .int .i8 b.k, .int .i64 b.n, .string b.s, .string b.t, .slice pb b.l.length cb] 25)) w') := c2
      clear htv
      clear hn18 hn17 hlt15
      generalize testS (nodeOp ⟨#[61, 60]⟩ a b) l = two at c2 HLAW
      go_upto_region 17 with (go_at_call 17; refine c2.mono ?_; rintro e w19 ⟨rfl, hb19⟩)
      have hbr19 := hbr17.trans ((hb18.trans (hb19.mono hb18.size)).mono hbr17.size)
      clear q1 a0 a1 a2 a3 a4 b0 b1 b2 b3 b4 c2
      obtain ⟨rfl, rfl⟩ := HLAW.out
      clear HLAW
      go_wp2_with fail
      go_roundw
      case rel => exact ⟨.inr (.inr (.inr rfl)), hbr19⟩
      case measure => simp [intOf]
    · go_wp2_with (go_at_call 16; refine (wakes11_any (HL.out.under (hb1.trans (hB14.mono hb1.size)))).mono ?_; rintro e w9 ⟨rfl, hb9⟩)
      go_ret
      exact ⟨rfl, hb1.trans ((hB14.trans (hb9.mono hB14.size)).mono hb1.size)⟩
end Go.Proofs.YtlhobpknflobgaaGreatDoor
