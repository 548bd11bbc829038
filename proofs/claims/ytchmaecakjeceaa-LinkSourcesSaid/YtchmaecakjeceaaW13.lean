/- What Bounds of the reference returns. -/
import Derived.Test.YtchmaecakjeceaaW9
namespace Go.Proofs.Ytchmaecakjeceaa
open Go.RowKit

section
variable (d0 d1 v0 v1 ls sd : Int) (A : Option Addr) (n c B : Nat) (cs : List Chg) (dir at_ m : Int) (w : World)
set_option maxHeartbeats 8000000 in
theorem rbounds_no {e0 : Int} {p1 : Bool} (hL : LC w A n B cs) (HE : Hid (chk d0 d1 v0 v1 ls cs = e0)) (E1 : Hid (okr 1 dir = p1)) (ht : e0 ≠ 0 ∨ e0 = 0 ∧ p1 = false) :
    Calls Try.prog 21 #[.agg #[.int .i64 d0, .int .i64 d1, .int .i64 v0, .int .i64 v1, .int .i64 ls, .int .u64 sd, .slice A n c], .int .i64 dir] w fun e w' => e = .returned (.agg #[.int .i64 0, .int .i64 0]) ∧ Frm w w' NoB := by
  have hF : Frm w ((w.alloc (.cells (LkCells d0 d1 v0 v1 ls sd A n c) 26)).alloc (.cells #[.int .i64 0, .int .i64 0] 35)) NoB := ((Frm.refl w _).alloc _).alloc _
  have hB : Blk ((w.alloc (.cells (LkCells d0 d1 v0 v1 ls sd A n c) 26)).alloc (.cells #[.int .i64 0, .int .i64 0] 35)) w.heap.size 26 (LkCells d0 d1 v0 v1 ls sd A n c) := (Blk.new _ _ _).alloc _
  have hR : Blk ((w.alloc (.cells (LkCells d0 d1 v0 v1 ls sd A n c) 26)).alloc (.cells #[.int .i64 0, .int .i64 0] 35)) (w.heap.size + 1) 35 #[.int .i64 0, .int .i64 0] := Blk.newAt _ _ _ (by simp)
  replace hL := (hL.alloc (.cells (LkCells d0 d1 v0 v1 ls sd A n c) 26)).alloc (.cells #[.int .i64 0, .int .i64 0] 35)
  rcases ht with h0 | ⟨rfl, rfl⟩
  · have hb : (e0 != 0) = true := by rw [bne_iff_ne]; exact h0
    clear h0
    go_enter Try.func21, Try.ntmps21
    go_wp2_with (first | (go_at_call 13; (with_reducible refine (rcheck_b hL HE).mono ?_); rintro e x1 ⟨rfl, f1⟩; replace hL := hL.frm f1; replace hF := hF.trans f1 (fun _ _ e => e); replace hB := hB.frm f1 (fun e => e); replace hR := hR.frm f1 (fun e => e); have r0 := hR.cellIs (i := 0) (v := .int .i64 0) rfl; have r1 := hR.cellIs (i := 1) (v := .int .i64 0) rfl; have y0 := hR.frozen 0; have y1 := hR.frozen 1; have hR3 := hR.put 0 (.int .i64 0); have hR4 := hR3.put 1 (.int .i64 0); have g0 := hR3.cellIs (i := 0) (v := .int .i64 0) rfl; have g1 := hR4.cellIs (i := 1) (v := .int .i64 0) rfl))
    have hF4 := (hF.put (b := w.heap.size + 1) (fun h => by omega) 0 (.int .i64 0)).put (b := w.heap.size + 1) (fun h => by omega) 1 (.int .i64 0); refine bodyPost_ret (v := .agg #[.int .i64 0, .int .i64 0]) (by simp [results, Try.results21, go_sem, g0, g1]) rfl ?_; exact ⟨rfl, hF4⟩
  · go_enter Try.func21, Try.ntmps21
    go_wp2_with (first | (go_at_call 13; (with_reducible refine (rcheck_b hL HE).mono ?_); rintro e x1 ⟨rfl, f1⟩; replace hL := hL.frm f1; replace hF := hF.trans f1 (fun _ _ e => e); replace hB := hB.frm f1 (fun e => e); replace hR := hR.frm f1 (fun e => e); have r0 := hR.cellIs (i := 0) (v := .int .i64 0) rfl; have r1 := hR.cellIs (i := 1) (v := .int .i64 0) rfl; have y0 := hR.frozen 0; have y1 := hR.frozen 1; have hR3 := hR.put 0 (.int .i64 0); have hR4 := hR3.put 1 (.int .i64 0); have g0 := hR3.cellIs (i := 0) (v := .int .i64 0) rfl; have g1 := hR4.cellIs (i := 1) (v := .int .i64 0) rfl) | (go_at_call 27; (with_reducible refine (rright_b E1 _).mono ?_); rintro e x1 ⟨rfl, rfl⟩))
    have hF4 := (hF.put (b := w.heap.size + 1) (fun h => by omega) 0 (.int .i64 0)).put (b := w.heap.size + 1) (fun h => by omega) 1 (.int .i64 0); refine bodyPost_ret (v := .agg #[.int .i64 0, .int .i64 0]) (by simp [results, Try.results21, go_sem, g0, g1]) rfl ?_; exact ⟨rfl, hF4⟩

set_option maxHeartbeats 8000000 in
theorem rbounds_in {dk : Nat} {d v : Int} (hL : LC w A n B cs) (hdk : dk ≤ 1) (hd : 0 ≤ d ∧ d ≤ 10000000000) (hv : 0 ≤ v ∧ v ≤ 10000000000) (ha : allc cs)
    (HE : Hid (chk d0 d1 v0 v1 ls cs = 0)) (E1 : Hid (okr 1 (dk : Int) = true)) (HD : Hid (d = if dk = 0 then d0 else d1)) (HV : Hid (v = if dk = 0 then v0 else v1)) :
    Calls Try.prog 21 #[.agg #[.int .i64 d0, .int .i64 d1, .int .i64 v0, .int .i64 v1, .int .i64 ls, .int .u64 sd, .slice A n c], .int .i64 dk] w fun e w' => e = .returned (.agg #[.int .i64 (lok cs dk d n), .int .i64 (hik cs dk d n + v)]) ∧ Frm w w' NoB := by
  have hF : Frm w ((w.alloc (.cells (LkCells d0 d1 v0 v1 ls sd A n c) 26)).alloc (.cells #[.int .i64 0, .int .i64 0] 35)) NoB := ((Frm.refl w _).alloc _).alloc _
  have hB : Blk ((w.alloc (.cells (LkCells d0 d1 v0 v1 ls sd A n c) 26)).alloc (.cells #[.int .i64 0, .int .i64 0] 35)) w.heap.size 26 (LkCells d0 d1 v0 v1 ls sd A n c) := (Blk.new _ _ _).alloc _
  have hR : Blk ((w.alloc (.cells (LkCells d0 d1 v0 v1 ls sd A n c) 26)).alloc (.cells #[.int .i64 0, .int .i64 0] 35)) (w.heap.size + 1) 35 #[.int .i64 0, .int .i64 0] := Blk.newAt _ _ _ (by simp)
  have hA := hL.hA
  have hBw := hL.hB
  have HN := Lib.hid hL.HN
  have hn := hL.hn
  have Ha := Lib.hid ha
  have hdk0 : (0 : Int) ≤ (dk : Int) := Int.natCast_nonneg _
  have hdk1 : (dk : Int) < 2 := by omega
  clear ha
  replace hL := (hL.alloc (.cells (LkCells d0 d1 v0 v1 ls sd A n c) 26)).alloc (.cells #[.int .i64 0, .int .i64 0] 35)
  go_enter Try.func21, Try.ntmps21
  go_wp2_with (first
    | (go_at_call 13; (with_reducible refine (rcheck_b hL HE).mono ?_); rintro e x1 ⟨rfl, f1⟩; replace hL := hL.frm f1; replace hF := hF.trans f1 (fun _ _ e => e); replace hB := hB.frm f1 (fun e => e); replace hR := hR.frm f1 (fun e => e))
    | (go_at_call 27; (with_reducible refine (rright_b E1 _).mono ?_); rintro e x1 ⟨rfl, rfl⟩))
  have cd : x1.cell? ⟨w.heap.size, dk, none⟩ = some (.int .i64 d) := by
    obtain ⟨c0, c1, c2, c3, c4, c5, c6⟩ := lk_cells hB
    rcases Nat.lt_or_ge dk 1 with h | h
    · obtain rfl : dk = 0 := by omega
      rw [HD.out]; exact c0
    · obtain rfl : dk = 1 := by omega
      rw [HD.out]; exact c1
  go_region_held3 (fun w' => w'.cell? ⟨w.heap.size, dk, none⟩ = some (.int .i64 d)) (go_keep) (fail)
  replace hB := hB.drew
  replace hR := hR.drew
  replace hF := hF.drew
  clear cd hL
  obtain ⟨_, _, _, _, _, _, c6⟩ := lk_cells hB
  go_wp2_with fail
  clear c6
  go_loopw [5, 6, 7] (fun l h i wr => ∃ k : Nat, k ≤ n ∧ i = .int .i64 k ∧ l = .int .i64 (lok cs dk d k) ∧ h = .int .i64 (hik cs dk d k) ∧ Blk wr w.heap.size 26 (LkCells d0 d1 v0 v1 ls sd A n c) ∧
    Blk wr (w.heap.size + 1) 35 #[.int .i64 0, .int .i64 0] ∧ Frm w wr NoB) (fun _ _ i _ => n - (intOf i).toNat)
  case atStart => exact ⟨0, Nat.zero_le _, rfl, rfl, rfl, hB, hR, hF⟩
  case round =>
    clear hB hR hF
    obtain ⟨k, hk, rfl, rfl, rfl, hB, hR, hF⟩ := hrel
    by_cases hlt2 : k < n
    · have hA' := hA.frm hF hBw
      obtain ⟨b, o, rfl, _, hcell⟩ := hA'.pos (by rw [HN.out]; omega)
      obtain ⟨_, _, _, _, _, _, c6⟩ := lk_cells hB
      obtain ⟨q1, q2, q3⟩ := hcell k (by rw [HN.out]; omega)
      have hsl : lok cs dk d (k + 1) = if (cs.getD k Chg.z).dir = dk then (if (cs.getD k Chg.z).del < lok cs dk d k then (cs.getD k Chg.z).del else lok cs dk d k) else lok cs dk d k := rfl
      have hsh : hik cs dk d (k + 1) = if (cs.getD k Chg.z).dir = dk then (if hik cs dk d k < (cs.getD k Chg.z).del then (cs.getD k Chg.z).del else hik cs dk d k) else hik cs dk d k := rfl
      obtain ⟨x, hx⟩ : ∃ x, x = (cs.getD k Chg.z).at_ := ⟨_, rfl⟩
      obtain ⟨y, hy⟩ : ∃ y, y = (cs.getD k Chg.z).dir := ⟨_, rfl⟩
      obtain ⟨z, hz⟩ : ∃ z, z = (cs.getD k Chg.z).del := ⟨_, rfl⟩
      rw [← hx] at q1
      rw [← hy] at q2 hsl hsh
      rw [← hz] at q3 hsl hsh
      clear hx hy hz hcell hA' hA
      obtain ⟨lo, hlo⟩ : ∃ D, D = lok cs dk d k := ⟨_, rfl⟩
      obtain ⟨hi, hhi⟩ : ∃ D, D = hik cs dk d k := ⟨_, rfl⟩
      rw [← hlo] at hsl ⊢
      rw [← hhi] at hsh ⊢
      by_cases h2 : y = dk
      · have hb : (y == (dk : Int)) = true := beq_iff_eq.2 h2
        have hb2 : (y != (dk : Int)) = false := by rw [bne, hb]; rfl
        rw [if_pos h2] at hsl hsh
        have Hl := Lib.hid hsl
        have Hh := Lib.hid hsh
        clear hsl hsh h2 hlo hhi
        go_wp2
        go_roundw
        case rel => exact ⟨k + 1, by omega, by go_num, by rw [Hl.out], by rw [Hh.out], hB, hR, hF⟩
        case measure => simp [intOf]; omega
      · have hb : (y == (dk : Int)) = false := beq_eq_false_iff_ne.2 h2
        have hb2 : (y != (dk : Int)) = true := by rw [bne, hb]; rfl
        rw [if_neg h2] at hsl hsh
        have Hl := Lib.hid hsl
        have Hh := Lib.hid hsh
        clear hsl hsh h2 hlo hhi
        go_wp2
        go_roundw
        case rel => exact ⟨k + 1, by omega, by go_num, by rw [Hl.out], by rw [Hh.out], hB, hR, hF⟩
        case measure => simp [intOf]; omega
    · have hkn : k = n := by omega
      have bh := hik_bounds (dir := dk) Ha.out hd k (by rw [HN.out]; exact hk)
      have HK := Lib.hid hkn
      have cd : wr.cell? ⟨w.heap.size, 2 + dk, none⟩ = some (.int .i64 v) := by
        obtain ⟨c0, c1, c2, c3, c4, c5, c6⟩ := lk_cells hB
        rcases Nat.lt_or_ge dk 1 with h | h
        · obtain rfl : dk = 0 := by omega
          rw [HV.out]; exact c2
        · obtain rfl : dk = 1 := by omega
          rw [HV.out]; exact c3
      obtain ⟨_, _, _, _, _, _, c6⟩ := lk_cells hB
      obtain ⟨lo, hlo⟩ : ∃ D, D = lok cs dk d k := ⟨_, rfl⟩
      obtain ⟨hi, hhi⟩ : ∃ D, D = hik cs dk d k := ⟨_, rfl⟩
      rw [← hlo]
      rw [← hhi] at bh ⊢
      have Hlo := Lib.hid hlo
      have Hhi := Lib.hid hhi
      clear hlo hhi hkn
      have t1 : IntKind.i64.wrap (hi + v) = hi + v := IntWalk.i64_in _ (by omega)
      have r0 := hR.cellIs (i := 0) (v := .int .i64 0) rfl
      have r1 := hR.cellIs (i := 1) (v := .int .i64 0) rfl
      have y0 := hR.frozen 0
      have y1 := hR.frozen 1
      have hR3 := hR.put 0 (.int .i64 lo)
      have hR4 := hR3.put 1 (.int .i64 (hi + v))
      have g0 := hR3.cellIs (i := 0) (v := .int .i64 lo) rfl
      have g1 := hR4.cellIs (i := 1) (v := .int .i64 (hi + v)) rfl
      have hF4 := (hF.put (b := w.heap.size + 1) (fun h => by omega) 0 (.int .i64 lo)).put (b := w.heap.size + 1) (fun h => by omega) 1 (.int .i64 (hi + v))
      go_wp2
      refine bodyPost_ret (v := .agg #[.int .i64 lo, .int .i64 (hi + v)]) (by simp [results, Try.results21, go_sem, g0, g1]) rfl ?_
      exact ⟨by rw [Hlo.out, Hhi.out, HK.out], hF4⟩

theorem rbounds_t (hL : LC w A n B cs) :
    Calls Try.prog 21 #[.agg #[.int .i64 d0, .int .i64 d1, .int .i64 v0, .int .i64 v1, .int .i64 ls, .int .u64 sd, .slice A n c], .int .i64 dir] w fun e w' => e = .returned (.agg #[.int .i64 (bLo d0 d1 v0 v1 ls cs dir), .int .i64 (bHi d0 d1 v0 v1 ls cs dir)]) ∧ Frm w w' NoB := by
  obtain ⟨e0, he⟩ : ∃ e, chk d0 d1 v0 v1 ls cs = e := ⟨_, rfl⟩
  obtain ⟨p1, e1⟩ : ∃ p, okr 1 dir = p := ⟨_, rfl⟩
  have z1 : okr 1125899906842624 0 = true := by decide
  have z2 : okr 1099511627776 0 = true := by decide
  have hv : vld d0 d1 v0 v1 ls cs dir 0 0 = (decide (e0 = 0) && p1) := by unfold vld; rw [he, e1, z1, z2]; simp
  by_cases h : e0 = 0 ∧ p1 = true
  · obtain ⟨rfl, rfl⟩ := h
    obtain ⟨hh, ha, _, _⟩ := chk_zero he
    obtain ⟨b1, b2, b3, b4, _⟩ := hd_bounds hh
    have hd' := okr_iff.1 e1
    obtain ⟨dk, rfl⟩ := Int.eq_ofNat_of_zero_le hd'.1
    have k1 : bLo d0 d1 v0 v1 ls cs dk = lok cs dk (if dk = 0 then d0 else d1) n := by unfold bLo; rw [hv]; simp [hL.HN]
    have k2 : bHi d0 d1 v0 v1 ls cs dk = hik cs dk (if dk = 0 then d0 else d1) n + (if dk = 0 then v0 else v1) := by unfold bHi; rw [hv]; simp [hL.HN]
    rw [k1, k2]
    exact rbounds_in d0 d1 v0 v1 ls sd A n c B cs w hL (by omega) (by split <;> assumption) (by split <;> assumption) ha he e1 rfl rfl
  · have hf : (decide (e0 = 0) && p1) = false := by
      rw [Bool.and_eq_false_iff]
      by_cases h0 : e0 = 0
      · right; cases p1 <;> simp_all
      · left; exact decide_eq_false h0
    have k1 : bLo d0 d1 v0 v1 ls cs dir = 0 := by unfold bLo; rw [hv, hf]; rfl
    have k2 : bHi d0 d1 v0 v1 ls cs dir = 0 := by unfold bHi; rw [hv, hf]; rfl
    rw [k1, k2]
    refine rbounds_no d0 d1 v0 v1 ls sd A n c B cs dir w hL he e1 ?_
    by_cases h0 : e0 = 0
    · exact .inr ⟨h0, by cases p1 <;> simp_all⟩
    · exact .inl h0
end
end Go.Proofs.Ytchmaecakjeceaa
