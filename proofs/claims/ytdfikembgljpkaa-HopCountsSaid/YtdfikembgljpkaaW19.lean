/- Chain of the program: no hops, or too many. -/
import Derived.Test.YtdfikembgljpkaaW18
namespace Go.Proofs.Ytdfikembgljpkaa
open Go.RowKit

/-- A list of n zeros. -/
def zs (n : Nat) : List Int := List.replicate n 0
section
variable (A S : Option Addr) (n m c d B : Nat) (xs : List Int) (w : World)
set_option maxHeartbeats 4000000 in
theorem chain_many (hm : 16 < m) :
    Calls Try.prog 22 #[.slice A n c, .slice S m d] w fun e w' => e = .returned (.tuple #[.slice none 0 0, .int .i64 6]) ∧ Frm w w' NoB := by
  go_enter Try.func22, Try.ntmps22
  go_wp2
  go_ret2
  exact ⟨rfl, Frm.refl _ _⟩
set_option maxHeartbeats 4000000 in
theorem chain_none (hX : LI w A n B xs) :
    Calls Try.prog 22 #[.slice A n c, .slice S 0 d] w fun e w' => ∃ v, e = .returned (.tuple #[v, .int .i64 (chk xs (zs n) 1125899906842624)]) ∧ OwnI w' w.heap.size v (pV xs (zs n)).length (pV xs (zs n)) ∧ Frm w w' NoB := by
  have hmk := make_ints n hX.hn
  have hF : Frm w (w.alloc (.cells (cel (List.replicate n 0)) 3)) NoB := (Frm.refl w _).alloc _
  have hX1 := (hX.alloc (.cells (cel (List.replicate n 0)) 3)).more (B' := w.heap.size + 1) (by have := hX.hB; omega) (by simp)
  have hZ : LI (w.alloc (.cells (cel (List.replicate n 0)) 3)) (some ⟨w.heap.size, 0, none⟩) n (w.heap.size + 1) (zs n) :=
    ⟨hX.hn, by simp [zs], RdI.of_blk (t := 3) (Blk.new _ _ _), by simp⟩
  have hC := pass_t A (some ⟨w.heap.size, 0, none⟩) n n c n (w.heap.size + 1) xs (zs n) (w.alloc (.cells (cel (List.replicate n 0)) 3)) hX1 hZ
  have HC := Lib.hid hC
  clear hC
  go_enter Try.func22, Try.ntmps22
  go_wp2_with (first
    | (go_at_call 12; (with_reducible refine (HC.out).mono ?_); rintro e x1 ⟨v, rfl, ho, f1⟩))
  go_ret2
  exact ⟨_, rfl, ho.lower (by simp), hF.trans f1 (fun _ _ e => e)⟩
end
end Go.Proofs.Ytdfikembgljpkaa
