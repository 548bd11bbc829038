/- The chapter's examples, walked: awake says true. -/
import Derived.Test.YtdfikembgljpkaaW20
namespace Go.Proofs.Ytdfikembgljpkaa
open Go.RowKit

theorem LI.new3 (w : World) (a b c : Int) : LI (w.alloc (.cells #[.int .i64 a, .int .i64 b, .int .i64 c] 3)) (some ⟨w.heap.size, 0, none⟩) 3 (w.heap.size + 1) [a, b, c] := LI.new w [a, b, c] (by simp)
theorem LV.new1 (w : World) (a b : Int) : LV (w.alloc (.cells #[.int .i64 a, .int .i64 b] 33)) (some ⟨w.heap.size, 0, none⟩) 1 (w.heap.size + 1) [(a, b)] :=
  ⟨by decide, rfl, fun _ => ⟨w.heap.size, 0, rfl, by omega, fun j hj => by
    obtain rfl : j = 0 := by omega
    have hb : Blk (w.alloc (.cells #[.int .i64 a, .int .i64 b] 33)) w.heap.size 33 #[.int .i64 a, .int .i64 b] := Blk.new w 33 _
    exact ⟨hb.cellIs rfl, hb.cellIs rfl⟩⟩, by simp⟩
theorem LV.alloc {w : World} {A : Option Addr} {n B : Nat} {l : List (Int × Int)} (h : LV w A n B l) (o : Obj) : LV (w.alloc o) A n B l := h.frm ((Frm.refl _ _).alloc o)
theorem LI.up {w : World} {A : Option Addr} {n B : Nat} {xs : List Int} (h : LI w A n B xs) : LI w A n w.heap.size xs := h.more h.hB (Nat.le_refl _)
theorem LS.new2 {w : World} {A : Option Addr} {B c c' : Nat} {xs : List Int} (h : LI w A xs.length B xs) :
    LS (w.alloc (.cells #[.slice A xs.length c, .slice A xs.length c'] 22)) (some ⟨w.heap.size, 0, none⟩) 2 (w.heap.size + 1) [xs, xs] :=
  ⟨by decide, rfl, fun _ => ⟨w.heap.size, 0, rfl, by omega, fun j hj => by
    have hb : Blk (w.alloc (.cells #[.slice A xs.length c, .slice A xs.length c'] 22)) w.heap.size 22 #[.slice A xs.length c, .slice A xs.length c'] := Blk.new w 22 _
    have hl := (h.alloc (.cells #[.slice A xs.length c, .slice A xs.length c'] 22)).more (B' := w.heap.size + 1) (by have := h.hB; omega) (by simp)
    match j, hj with
    | 0, _ => exact ⟨A, c, hb.cellIs rfl, hl⟩
    | 1, _ => exact ⟨A, c', hb.cellIs rfl, hl⟩⟩, by simp⟩

section
variable {A A2 : Option Addr} {c c2 B B2 : Nat} {w : World}
theorem ex_pass (hX : LI w A 3 B exA) (hY : LI w A2 3 B2 exS) :
    Calls Try.prog 12 #[.slice A 3 c, .slice A2 3 c2] w fun e w' => ∃ A' c', e = .returned (.tuple #[.slice A' 3 c', .int .i64 0]) ∧ LI w' A' 3 w'.heap.size [5, 10, 12] ∧ Frm w w' NoB := by
  refine (pass_t A A2 3 3 c c2 w.heap.size exA exS w hX.up hY.up).mono ?_
  rw [ex_chk, ex_pV]
  rintro e w' ⟨v, rfl, ho, hf⟩
  obtain ⟨A', c', rfl, hl⟩ := ho.li (by decide)
  exact ⟨A', c', rfl, hl, hf⟩
theorem ex_waits (hX : LI w A 3 B exA) (hY : LI w A2 3 B2 exS) :
    Calls Try.prog 14 #[.slice A 3 c, .slice A2 3 c2] w fun e w' => ∃ A' c', e = .returned (.tuple #[.slice A' 3 c', .int .i64 0]) ∧ LI w' A' 3 w'.heap.size [0, 4, 0] ∧ Frm w w' NoB := by
  refine (waits_t A A2 3 3 c c2 w.heap.size exA exS w hX.up hY.up).mono ?_
  rw [ex_chk, ex_wV]
  rintro e w' ⟨v, rfl, ho, hf⟩
  obtain ⟨A', c', rfl, hl⟩ := ho.li (by decide)
  exact ⟨A', c', rfl, hl, hf⟩
theorem ex_busy (hX : LI w A 3 B exA) (hY : LI w A2 3 B2 exS) :
    Calls Try.prog 17 #[.slice A 3 c, .slice A2 3 c2] w fun e w' => ∃ A' c', e = .returned (.tuple #[.slice A' 1 c', .int .i64 0]) ∧ LV w' A' 1 w'.heap.size [(0, 12)] ∧ Frm w w' NoB := by
  refine (busy_t A A2 3 3 c c2 w.heap.size exA exS w hX.up hY.up).mono ?_
  rw [ex_chk, ex_bV]
  rintro e w' ⟨v, rfl, ho, hf⟩
  obtain ⟨A', c', rfl, hl⟩ := OwnV.lv ho (by decide)
  exact ⟨A', c', rfl, hl, hf⟩
theorem ex_chain (hX : LI w A 3 B exA) (hY : LI w A2 3 B2 exS) :
    Calls Try.prog 22 #[.slice A 3 c, .slice (some ⟨w.heap.size, 0, none⟩) 2 2] (w.alloc (.cells #[.slice A2 3 c2, .slice A2 3 c2] 22)) fun e w' => ∃ A' c', e = .returned (.tuple #[.slice A' 3 c', .int .i64 0]) ∧ LI w' A' 3 w'.heap.size [10, 15, 17] ∧ Frm w w' NoB := by
  have hS : LS (w.alloc (.cells #[.slice A2 3 c2, .slice A2 3 c2] 22)) (some ⟨w.heap.size, 0, none⟩) 2 (w.heap.size + 1) [exS, exS] := LS.new2 (xs := exS) (c := c2) (c' := c2) hY
  have hX' := (hX.alloc (.cells #[.slice A2 3 c2, .slice A2 3 c2] 22)).more (B' := w.heap.size + 1) (by have := hX.hB; omega) (by simp)
  refine (chain_in _ _ _ _ _ _ _ _ _ _ hX' hS (by decide) (by decide)).mono ?_
  rw [ex_ferr]
  rintro e w' ⟨v, rfl, ⟨A', n', c', B', rfl, hl⟩, hf⟩
  rw [if_pos ex_ferr, ex_arr] at hl
  obtain rfl : 3 = n' := hl.HN
  exact ⟨A', c', rfl, hl.up, ((Frm.refl w NoB).alloc _).trans hf (fun _ _ h => h)⟩
theorem ex_eql {ks : List Int} (hX : LI w A 3 B ks) (hY : LI w A2 3 B2 ks) :
    Calls Try.prog 16 #[.slice A 3 c, .slice A2 3 c2] w fun e w' => e = .returned (.bool true) ∧ Frm w w' NoB := by
  refine (eql_same A A2 3 c c2 B B2 ks ks w (by decide) hX.HN hY.HN hX.hA hY.hA hX.hB hY.hB).mono ?_
  rintro e w' ⟨rfl, hf⟩
  exact ⟨by simp, hf⟩
theorem ex_b4c (hX : LI w A 3 B exA) (hY : LI w A2 3 B2 [5, 10, 12]) :
    Calls Try.prog 20 #[.slice A 3 c, .slice A2 3 c2, .int .i64 4] w fun e w' => e = .returned (.int .i64 2) ∧ Frm w w' NoB := by
  refine (backlog_t A A2 3 3 c c2 w.heap.size exA _ 4 w hX.up hY.up).mono ?_
  rintro e w' ⟨rfl, hf⟩
  exact ⟨by rw [show min 3 3 = 3 from rfl, ex_b4]; rfl, hf⟩
theorem ex_b10c (hX : LI w A 3 B exA) (hY : LI w A2 3 B2 [5, 10, 12]) :
    Calls Try.prog 20 #[.slice A 3 c, .slice A2 3 c2, .int .i64 10] w fun e w' => e = .returned (.int .i64 1) ∧ Frm w w' NoB := by
  refine (backlog_t A A2 3 3 c c2 w.heap.size exA _ 10 w hX.up hY.up).mono ?_
  rintro e w' ⟨rfl, hf⟩
  exact ⟨by rw [show min 3 3 = 3 from rfl, ex_b10]; rfl, hf⟩
end
end Go.Proofs.Ytdfikembgljpkaa
