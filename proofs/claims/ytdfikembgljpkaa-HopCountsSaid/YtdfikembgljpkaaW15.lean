/- slices.Equal on two slices of the same intervals. -/
import Derived.Test.YtdfikembgljpkaaW14
namespace Go.Proofs.Ytdfikembgljpkaa
open Go.RowKit

/-- A slice of n intervals that reads as l, in memory below block B. -/
structure LV (w : World) (A : Option Addr) (n B : Nat) (l : List (Int × Int)) : Prop where
  hn : n ≤ 17592186044416
  HN : l.length = n
  hA : 0 < n → ∃ b o, A = some ⟨b, o, none⟩ ∧ b < B ∧ ∀ j, j < n → w.cell? ⟨b, o + j * 2, none⟩ = some (.int .i64 (l.getD j (0, 0)).1) ∧ w.cell? ⟨b, o + j * 2 + 1, none⟩ = some (.int .i64 (l.getD j (0, 0)).2)
  hB : B ≤ w.heap.size
theorem LV.frm {w w' : World} {A : Option Addr} {n B : Nat} {l : List (Int × Int)} (h : LV w A n B l) (f : Frm w w' NoB) : LV w' A n B l :=
  ⟨h.hn, h.HN, fun hp => by
    obtain ⟨b, o, e, hb, hc⟩ := h.hA hp
    have hlt := Nat.lt_of_lt_of_le hb h.hB
    exact ⟨b, o, e, hb, fun j hj => ⟨(f.cell (p := ⟨b, o + j * 2, none⟩) hlt (fun e => e)).trans (hc j hj).1, (f.cell (p := ⟨b, o + j * 2 + 1, none⟩) hlt (fun e => e)).trans (hc j hj).2⟩⟩, Nat.le_trans h.hB f.size⟩

set_option maxHeartbeats 4000000 in
theorem eqv_same (A A2 : Option Addr) (n c c2 B B2 : Nat) (l : List (Int × Int)) (w : World) (h1 : LV w A n B l) (h2 : LV w A2 n B2 l) :
    Calls Try.prog 19 #[.slice A n c, .slice A2 n c2] w fun e w' => e = .returned (.bool true) ∧ Frm w w' NoB := by
  have hF : Frm w w NoB := Frm.refl w _
  have hn := h1.hn
  go_enter Try.func19, Try.ntmps19
  go_wp2
  go_loopw [13, 5] (fun i _ wr => ∃ k : Nat, k ≤ n ∧ i = .int .i64 k ∧ Frm w wr NoB) (fun i _ _ => n - (intOf i).toNat)
  case atStart => exact ⟨0, Nat.zero_le _, rfl, hF⟩
  case round =>
    clear hF
    obtain ⟨k, hk, rfl, hF⟩ := hrel
    by_cases hlt : k < n
    · obtain ⟨b, o, rfl, _, hc⟩ := (h1.frm hF).hA (by omega)
      obtain ⟨b2, o2, rfl, _, hc2⟩ := (h2.frm hF).hA (by omega)
      obtain ⟨q1, q2⟩ := hc k hlt
      obtain ⟨q3, q4⟩ := hc2 k hlt
      obtain ⟨x, hx⟩ : ∃ x, x = (l.getD k (0, 0)).1 := ⟨_, rfl⟩
      obtain ⟨y, hy⟩ : ∃ y, y = (l.getD k (0, 0)).2 := ⟨_, rfl⟩
      rw [← hx] at q1 q3
      rw [← hy] at q2 q4
      clear hx hy hc hc2 h1 h2
      have hk0 : (0 : Int) ≤ (k : Int) := Int.natCast_nonneg _
      have hk1 : (k : Int) < (n : Int) := by omega
      go_wp2
      go_quiet (fail)
      go_wp2
      go_roundw
      case rel => exact ⟨k + 1, by omega, by go_num, hF.drewN _⟩
      case measure => simp [intOf]; omega
    · clear h1 h2
      go_wp2
      go_ret
      exact ⟨rfl, hF⟩
end Go.Proofs.Ytdfikembgljpkaa
