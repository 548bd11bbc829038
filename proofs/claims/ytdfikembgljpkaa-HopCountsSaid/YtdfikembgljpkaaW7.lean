/- departures, Pass. -/
import Derived.Test.YtdfikembgljpkaaW6
namespace Go.Proofs.Ytdfikembgljpkaa
open Go.RowKit

theorem LI.more {w : World} {A : Option Addr} {n B B' : Nat} {xs : List Int} (h : LI w A n B xs) (h1 : B ≤ B') (h2 : B' ≤ w.heap.size) : LI w A n B' xs :=
  ⟨h.hn, h.HN, h.hA.more h1, h2⟩

section
variable (A A2 : Option Addr) (n c c2 B : Nat) (xs ys : List Int) (w : World)
set_option maxHeartbeats 8000000 in
theorem dep_t (hX : LI w A n B xs) (hY : LI w A2 n B ys) (hn : n ≤ 512) (hw : fits xs ys n) :
    Calls Try.prog 25 #[.slice A n c, .slice A2 n c2] w fun e w' => ∃ v, e = .returned v ∧ OwnI w' w.heap.size v n (deps xs ys n) ∧ Frm w w' NoB := by
  have hX1 := (hX.alloc (.cells #[.slice none 0 0] 22)).more (B' := w.heap.size) hX.hB (by simp)
  have hY1 := (hY.alloc (.cells #[.slice none 0 0] 22)).more (B' := w.heap.size) hY.hB (by simp)
  have hF : Frm w (w.alloc (.cells #[.slice none 0 0] 22)) NoB := (Frm.refl w _).alloc _
  have hG : Blk (w.alloc (.cells #[.slice none 0 0] 22)) w.heap.size 22 #[.slice none 0 0] := Blk.new _ _ _
  have hC := serve31 (I := fun k wr => ∃ v, Blk wr w.heap.size 22 #[v] ∧ OwnI wr w.heap.size v k (deps xs ys k)) A A2 n c c2 w.heap.size w.heap.size xs ys (w.alloc (.cells #[.slice none 0 0] 22)) hX1 hY1 hn hw
    ⟨_, hG, World.ownsRow_nil _ _ _ _⟩ (fun k wr hk ⟨v, hb, ho⟩ hf => by
      refine (tell31 w.heap.size w.heap.size k v _ _ _ _ wr (by omega) (by have := hf.size; simp at this; omega) (Nat.le_refl _) hb ho).mono ?_
      rintro e w' ⟨rfl, v', h1, h2, h3⟩
      exact ⟨rfl, ⟨v', h1, by rw [deps_succ]; exact h2⟩, h3⟩)
  have hmf : ∀ (fn : Fn) (first cap : Array Value) (w : World), (Instr.makeFunc fn first cap).run Try.prog w = .ok (.func fn first cap) w := fun _ _ _ _ => rfl
  have HC := Lib.hid hC
  clear hC hX hY hX1 hY1 hw
  go_enter Try.func25, Try.ntmps25
  go_wp2_with (first
    | (go_at_call 28; (with_reducible refine (HC.out).mono ?_); rintro e w2 ⟨rfl, ⟨v, hb, ho⟩, f2⟩; have c0 : w2.cell? ⟨w.heap.size, 0, none⟩ = some v := hb.cellIs rfl))
  go_ret
  exact ⟨_, rfl, ho, hF.trans f2 (fun i h1 h2 => absurd h1 (Nat.not_lt.2 h2))⟩
end
end Go.Proofs.Ytdfikembgljpkaa
