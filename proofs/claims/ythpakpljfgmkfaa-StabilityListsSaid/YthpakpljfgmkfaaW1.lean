/- What Check of the program and of the reference return. -/
import Derived.Test.YthpakpljfgmkfaaInts
namespace Go.Proofs.Ythpakpljfgmkfaa
open Go.RowKit

/-- A slice of n ints that reads as xs, in memory below block B. -/
structure LI (w : World) (A : Option Addr) (n B : Nat) (xs : List Int) : Prop where
  hn : n ≤ 17592186044416
  HN : xs.length = n
  hA : RdI w B A xs
  hB : B ≤ w.heap.size
theorem LI.frm {w w' : World} {A : Option Addr} {n B : Nat} {xs : List Int} (h : LI w A n B xs) (f : Frm w w' NoB) : LI w' A n B xs :=
  ⟨h.hn, h.HN, h.hA.frm0 f h.hB, Nat.le_trans h.hB f.size⟩
theorem LI.alloc {w : World} {A : Option Addr} {n B : Nat} {xs : List Int} (h : LI w A n B xs) (o : Obj) : LI (w.alloc o) A n B xs := h.frm ((Frm.refl _ _).alloc o)
theorem LI.drew {w : World} {A : Option Addr} {n B : Nat} {xs : List Int} (h : LI w A n B xs) : LI w.drew A n B xs := h.frm ((Frm.refl _ _).drew)
theorem LI.more {w : World} {A : Option Addr} {n B B' : Nat} {xs : List Int} (h : LI w A n B xs) (h1 : B ≤ B') (h2 : B' ≤ w.heap.size) : LI w A n B' xs :=
  ⟨h.hn, h.HN, h.hA.more h1, h2⟩
theorem LI.up {w : World} {A : Option Addr} {n B : Nat} {xs : List Int} (h : LI w A n B xs) : LI w A n w.heap.size xs := h.more h.hB (Nat.le_refl _)
theorem LI.new (w : World) (ks : List Int) (hk : ks.length ≤ 17592186044416) : LI (w.alloc (.cells (cel ks) 3)) (some ⟨w.heap.size, 0, none⟩) ks.length (w.heap.size + 1) ks :=
  ⟨hk, rfl, RdI.of_blk (Blk.new w 3 (cel ks)), by simp⟩
theorem LI.nil (w : World) : LI w none 0 w.heap.size [] := ⟨Nat.zero_le _, rfl, .inl rfl, Nat.le_refl _⟩

/-- The first k elements are in range. -/
def okl (xs : List Int) (k : Nat) : Prop := ∀ j, j < k → -1099511627776 ≤ xs.getD j 0 ∧ xs.getD j 0 ≤ 1099511627776
open Classical in
/-- What Check returns. -/
noncomputable def chk (xs : List Int) : Int := if 1024 < xs.length then 6 else if okl xs xs.length then 0 else 3
theorem chk_long {xs : List Int} (h : 1024 < xs.length) : chk xs = 6 := by unfold chk; rw [if_pos h]
theorem chk_ok {xs : List Int} (h : ¬ 1024 < xs.length) (h1 : okl xs xs.length) : chk xs = 0 := by unfold chk; rw [if_neg h, if_pos h1]
theorem chk_bad {xs : List Int} (h : ¬ 1024 < xs.length) (k : Nat) (hk : k < xs.length) (e : ¬ (-1099511627776 ≤ xs.getD k 0 ∧ xs.getD k 0 ≤ 1099511627776)) : chk xs = 3 := by
  unfold chk; rw [if_neg h, if_neg (fun c => e (c k hk))]
theorem chk_zero {xs : List Int} (h : chk xs = 0) : xs.length ≤ 1024 ∧ okl xs xs.length := by
  unfold chk at h
  split at h
  · cases h
  · split at h
    · rename_i h1 h2
      exact ⟨by omega, h2⟩
    · cases h
theorem okl_succ {xs : List Int} {k : Nat} (h : okl xs k) (e : -1099511627776 ≤ xs.getD k 0 ∧ xs.getD k 0 ≤ 1099511627776) : okl xs (k + 1) := fun j hj => by
  rcases Nat.lt_or_ge j k with h' | h'
  · exact h j h'
  · obtain rfl : j = k := by omega
    exact e

section
variable (A : Option Addr) (n c B : Nat) (xs : List Int) (w : World)
set_option maxHeartbeats 8000000 in
theorem check_t (hX : LI w A n B xs) : Calls Try.prog 23 #[.slice A n c] w fun e w' => e = .returned (.int .i64 (chk xs)) ∧ Frm w w' NoB := by
  have hF : Frm w w NoB := Frm.refl w _
  have HX := Lib.hid hX.HN
  by_cases hl : 1024 < n
  · have Hres := Lib.hid (chk_long (by rw [hX.HN]; exact hl))
    clear hX
    go_enter Try.func23, Try.ntmps23
    go_wp2
    go_ret
    exact ⟨by rw [Hres.out]; rfl, hF⟩
  · have hA := hX.hA
    clear hX
    go_enter Try.func23, Try.ntmps23
    go_wp2
    go_loopw [10, 4] (fun i _ wr => ∃ k : Nat, k ≤ n ∧ i = .int .i64 k ∧ okl xs k ∧ w = wr) (fun i _ _ => n - (intOf i).toNat)
    case atStart => exact ⟨0, Nat.zero_le _, rfl, fun _ h => by omega, by trivial⟩
    case round =>
      obtain ⟨k, hk, rfl, hall, rfl⟩ := hrel
      have Hall := Lib.hid hall
      clear hall
      by_cases hlt : k < n
      · obtain ⟨b, o, rfl, _, hcell⟩ := hA.pos (by rw [HX.out]; omega)
        have q1 := hcell k (by rw [HX.out]; omega)
        obtain ⟨x, hx⟩ : ∃ x, x = xs.getD k 0 := ⟨_, rfl⟩
        rw [← hx] at q1
        have HX1 := Lib.hid hx
        clear hx hcell hA
        have hk0 : (0 : Int) ≤ (k : Int) := Int.natCast_nonneg _
        have hk1 : (k : Int) < (n : Int) := by omega
        by_cases a0 : x < -1099511627776
        · have Hres := Lib.hid (chk_bad (by rw [HX.out]; exact hl) k (by rw [HX.out]; exact hlt) (by rw [← HX1.out]; omega))
          go_wp2
          go_ret
          exact ⟨by rw [Hres.out]; rfl, hF⟩
        by_cases a1 : 1099511627776 < x
        · have Hres := Lib.hid (chk_bad (by rw [HX.out]; exact hl) k (by rw [HX.out]; exact hlt) (by rw [← HX1.out]; omega))
          go_wp2
          go_ret
          exact ⟨by rw [Hres.out]; rfl, hF⟩
        have He := Lib.hid (okl_succ Hall.out (by rw [← HX1.out]; omega))
        go_wp2
        go_roundw
        case rel => exact ⟨k + 1, by omega, by go_num, He.out, by trivial⟩
        case measure => simp [intOf]; omega
      · have hkn : k = n := by omega
        have Hres := Lib.hid (chk_ok (xs := xs) (by rw [HX.out]; exact hl) (fun j hj => Hall.out j (by rw [HX.out] at hj; omega)))
        clear hkn Hall hA
        go_wp2
        go_ret
        exact ⟨by rw [Hres.out]; rfl, hF⟩
set_option maxHeartbeats 8000000 in
theorem rcheck_t (hX : LI w A n B xs) : Calls Try.prog 24 #[.slice A n c] w fun e w' => e = .returned (.int .i64 (chk xs)) ∧ Frm w w' NoB := by
  have hF : Frm w w NoB := Frm.refl w _
  have HX := Lib.hid hX.HN
  by_cases hl : 1024 < n
  · have Hres := Lib.hid (chk_long (by rw [hX.HN]; exact hl))
    clear hX
    go_enter Try.func24, Try.ntmps24
    go_wp2
    go_ret
    exact ⟨by rw [Hres.out]; rfl, hF⟩
  · have hA := hX.hA
    clear hX
    go_enter Try.func24, Try.ntmps24
    go_wp2
    go_loopw [3] (fun i wr => ∃ k : Nat, k ≤ n ∧ i = .int .i64 k ∧ okl xs k ∧ w = wr) (fun i _ => n - (intOf i).toNat)
    case atStart => exact ⟨0, Nat.zero_le _, rfl, fun _ h => by omega, by trivial⟩
    case round =>
      obtain ⟨k, hk, rfl, hall, rfl⟩ := hrel
      have Hall := Lib.hid hall
      clear hall
      by_cases hlt : k < n
      · obtain ⟨b, o, rfl, _, hcell⟩ := hA.pos (by rw [HX.out]; omega)
        have q1 := hcell k (by rw [HX.out]; omega)
        obtain ⟨x, hx⟩ : ∃ x, x = xs.getD k 0 := ⟨_, rfl⟩
        rw [← hx] at q1
        have HX1 := Lib.hid hx
        clear hx hcell hA
        have hk0 : (0 : Int) ≤ (k : Int) := Int.natCast_nonneg _
        have hk1 : (k : Int) < (n : Int) := by omega
        by_cases a0 : x < -1099511627776
        · have Hres := Lib.hid (chk_bad (by rw [HX.out]; exact hl) k (by rw [HX.out]; exact hlt) (by rw [← HX1.out]; omega))
          go_wp2
          go_ret
          exact ⟨by rw [Hres.out]; rfl, hF⟩
        by_cases a1 : 1099511627776 < x
        · have Hres := Lib.hid (chk_bad (by rw [HX.out]; exact hl) k (by rw [HX.out]; exact hlt) (by rw [← HX1.out]; omega))
          go_wp2
          go_ret
          exact ⟨by rw [Hres.out]; rfl, hF⟩
        have He := Lib.hid (okl_succ Hall.out (by rw [← HX1.out]; omega))
        go_wp2
        go_roundw
        case rel => exact ⟨k + 1, by omega, by go_num, He.out, by trivial⟩
        case measure => simp [intOf]; omega
      · have hkn : k = n := by omega
        have Hres := Lib.hid (chk_ok (xs := xs) (by rw [HX.out]; exact hl) (fun j hj => Hall.out j (by rw [HX.out] at hj; omega)))
        clear hkn Hall hA
        go_wp2
        go_ret
        exact ⟨by rw [Hres.out]; rfl, hF⟩
end
section
variable {A : Option Addr} {n c B : Nat} {xs : List Int} {w : World} {e0 : Int}
theorem check_b (H : Hid (chk xs = e0)) (hX : LI w A n B xs) : Calls Try.prog 23 #[.slice A n c] w fun e w' => e = .returned (.int .i64 e0) ∧ Frm w w' NoB := by
  rw [← H.out]; exact check_t A n c B xs w hX
theorem rcheck_b (H : Hid (chk xs = e0)) (hX : LI w A n B xs) : Calls Try.prog 24 #[.slice A n c] w fun e w' => e = .returned (.int .i64 e0) ∧ Frm w w' NoB := by
  rw [← H.out]; exact rcheck_t A n c B xs w hX
end
end Go.Proofs.Ythpakpljfgmkfaa
