/-
  ast.atom; the rules of leaves; ast.each, the rules of parts. Conditions: as said.
-/
import Derived.Test.YtjnmdbfijdnaiaaGreatDoorAst8
namespace Go.Proofs.YtjnmdbfijdnaiaaGreatDoor
open Go.RowKit

theorem words_at (w : World) (T : TypeId) : WordsAt (w.alloc (.cells #[.string ⟨#[97, 102, 116, 101, 114]⟩, .string ⟨#[99, 97, 115, 101]⟩, .string ⟨#[99, 97, 116, 99, 104]⟩, .string ⟨#[99, 111, 110, 102, 105, 103]⟩, .string ⟨#[100, 105, 118]⟩, .string ⟨#[101, 110, 100]⟩, .string ⟨#[102, 117, 110]⟩, .string ⟨#[109, 111, 100, 117, 108, 101]⟩, .string ⟨#[111, 102]⟩, .string ⟨#[114, 101, 99, 101, 105, 118, 101]⟩, .string ⟨#[114, 101, 109]⟩, .string ⟨#[116, 114, 121]⟩, .string ⟨#[119, 104, 101, 110]⟩] T)) w.heap.size words13 := by
  intro k hk
  match k, hk with
  | 0, _ => exact ⟨⟨#[97, 102, 116, 101, 114]⟩, by rw [World.cell?_alloc_at _ _ _ _ (by simp)]; rfl, by rw [ByteArray.toList_eq]; rfl⟩
  | 1, _ => exact ⟨⟨#[99, 97, 115, 101]⟩, by rw [World.cell?_alloc_at _ _ _ _ (by simp)]; rfl, by rw [ByteArray.toList_eq]; rfl⟩
  | 2, _ => exact ⟨⟨#[99, 97, 116, 99, 104]⟩, by rw [World.cell?_alloc_at _ _ _ _ (by simp)]; rfl, by rw [ByteArray.toList_eq]; rfl⟩
  | 3, _ => exact ⟨⟨#[99, 111, 110, 102, 105, 103]⟩, by rw [World.cell?_alloc_at _ _ _ _ (by simp)]; rfl, by rw [ByteArray.toList_eq]; rfl⟩
  | 4, _ => exact ⟨⟨#[100, 105, 118]⟩, by rw [World.cell?_alloc_at _ _ _ _ (by simp)]; rfl, by rw [ByteArray.toList_eq]; rfl⟩
  | 5, _ => exact ⟨⟨#[101, 110, 100]⟩, by rw [World.cell?_alloc_at _ _ _ _ (by simp)]; rfl, by rw [ByteArray.toList_eq]; rfl⟩
  | 6, _ => exact ⟨⟨#[102, 117, 110]⟩, by rw [World.cell?_alloc_at _ _ _ _ (by simp)]; rfl, by rw [ByteArray.toList_eq]; rfl⟩
  | 7, _ => exact ⟨⟨#[109, 111, 100, 117, 108, 101]⟩, by rw [World.cell?_alloc_at _ _ _ _ (by simp)]; rfl, by rw [ByteArray.toList_eq]; rfl⟩
  | 8, _ => exact ⟨⟨#[111, 102]⟩, by rw [World.cell?_alloc_at _ _ _ _ (by simp)]; rfl, by rw [ByteArray.toList_eq]; rfl⟩
  | 9, _ => exact ⟨⟨#[114, 101, 99, 101, 105, 118, 101]⟩, by rw [World.cell?_alloc_at _ _ _ _ (by simp)]; rfl, by rw [ByteArray.toList_eq]; rfl⟩
  | 10, _ => exact ⟨⟨#[114, 101, 109]⟩, by rw [World.cell?_alloc_at _ _ _ _ (by simp)]; rfl, by rw [ByteArray.toList_eq]; rfl⟩
  | 11, _ => exact ⟨⟨#[116, 114, 121]⟩, by rw [World.cell?_alloc_at _ _ _ _ (by simp)]; rfl, by rw [ByteArray.toList_eq]; rfl⟩
  | 12, _ => exact ⟨⟨#[119, 104, 101, 110]⟩, by rw [World.cell?_alloc_at _ _ _ _ (by simp)]; rfl, by rw [ByteArray.toList_eq]; rfl⟩
theorem WordsAt.under {w w' : World} {b : Nat} {l : List (List UInt8)} (h : WordsAt w b l) (hb : Below w.heap.size w w') : WordsAt w' b l := fun k hk => by
  obtain ⟨u, h1, h2⟩ := h k hk
  exact ⟨u, (hb.cell (p := ⟨b, k, none⟩) (cell_block h1)).trans h1, h2⟩

set_option maxHeartbeats 2000000 in
set_option maxRecDepth 100000 in
theorem tatom_any {w : World} (hL : Letters w) (s : ByteArray) (hs : s.size ≤ 140737488355328) :
    Calls Tryz.prog 95 #[.string s] w fun e w' => e = .returned (.bool (atomN s)) ∧ Below w.heap.size w w' := by
  have hW := words_at w 9
  have hB := alloc_below w (.cells #[.string ⟨#[97, 102, 116, 101, 114]⟩, .string ⟨#[99, 97, 115, 101]⟩, .string ⟨#[99, 97, 116, 99, 104]⟩, .string ⟨#[99, 111, 110, 102, 105, 103]⟩, .string ⟨#[100, 105, 118]⟩, .string ⟨#[101, 110, 100]⟩, .string ⟨#[102, 117, 110]⟩, .string ⟨#[109, 111, 100, 117, 108, 101]⟩, .string ⟨#[111, 102]⟩, .string ⟨#[114, 101, 99, 101, 105, 118, 101]⟩, .string ⟨#[114, 101, 109]⟩, .string ⟨#[116, 114, 121]⟩, .string ⟨#[119, 104, 101, 110]⟩] 9)
  have cM := mayA_any (hL.under hB) s hs
  have hU : atomN s = (mayA s && !(words13.any fun u => s.toList == u)) := rfl
  have HU := Lib.hid hU
  clear hL hU
  go_enter Tryz.func95, Tryz.ntmps95
  go_upto_region 2 with fail
  generalize w.alloc (.cells #[.string ⟨#[97, 102, 116, 101, 114]⟩, .string ⟨#[99, 97, 115, 101]⟩, .string ⟨#[99, 97, 116, 99, 104]⟩, .string ⟨#[99, 111, 110, 102, 105, 103]⟩, .string ⟨#[100, 105, 118]⟩, .string ⟨#[101, 110, 100]⟩, .string ⟨#[102, 117, 110]⟩, .string ⟨#[109, 111, 100, 117, 108, 101]⟩, .string ⟨#[111, 102]⟩, .string ⟨#[114, 101, 99, 101, 105, 118, 101]⟩, .string ⟨#[114, 101, 109]⟩, .string ⟨#[116, 114, 121]⟩, .string ⟨#[119, 104, 101, 110]⟩] 9) = w1 at hW hB cM ⊢
  have HW := Lib.hid hW
  clear hW
  have cC := fun (W : World) (hb : Below w1.heap.size w1 W) => scontains_any (c := 13) (HW.out.under hb) (by decide) s
  cases hm : mayA s
  all_goals
    have HM := Lib.hid hm
    rw [hm] at cM
    clear hm
    go_wp2_with (first
      | (go_at_call 72; refine cM.mono ?_; rintro e w5 ⟨rfl, hb5⟩)
      | (go_at_call 104; refine (cC _ hb5).mono ?_; rintro e w' ⟨rfl, rfl⟩))
    go_ret
    exact ⟨by rw [HU.out, HM.out]; rfl, hB.trans (hb5.mono hB.size)⟩
end Go.Proofs.YtjnmdbfijdnaiaaGreatDoor
