/- What Bounds of the program and of the reference return. -/
import Derived.Test.YtchmaecakjeceaaW8
import Derived.StillTailTactics
namespace Go.Proofs.Ytchmaecakjeceaa
open Go.RowKit

/-- The least delay of a direction after the first k changes; the greatest. -/
def lok (cs : List Chg) (dir d : Int) : Nat → Int
  | 0 => d
  | k + 1 => if (cs.getD k Chg.z).dir = dir then (if (cs.getD k Chg.z).del < lok cs dir d k then (cs.getD k Chg.z).del else lok cs dir d k) else lok cs dir d k
def hik (cs : List Chg) (dir d : Int) : Nat → Int
  | 0 => d
  | k + 1 => if (cs.getD k Chg.z).dir = dir then (if hik cs dir d k < (cs.getD k Chg.z).del then (cs.getD k Chg.z).del else hik cs dir d k) else hik cs dir d k

theorem hik_bounds {cs : List Chg} {dir d : Int} (ha : allc cs) (hd : 0 ≤ d ∧ d ≤ 10000000000) : ∀ k, k ≤ cs.length → 0 ≤ hik cs dir d k ∧ hik cs dir d k ≤ 10000000000
  | 0, _ => hd
  | k + 1, hk => by
    have h := ha k (by omega)
    unfold okc at h
    simp only [Bool.and_eq_true, okr_iff] at h
    have ih := hik_bounds (dir := dir) ha hd k (by omega)
    unfold hik
    split
    · split
      · exact h.2
      · exact ih
    · exact ih
theorem lok_bounds {cs : List Chg} {dir d : Int} (ha : allc cs) (hd : 0 ≤ d ∧ d ≤ 10000000000) : ∀ k, k ≤ cs.length → 0 ≤ lok cs dir d k ∧ lok cs dir d k ≤ 10000000000
  | 0, _ => hd
  | k + 1, hk => by
    have h := ha k (by omega)
    unfold okc at h
    simp only [Bool.and_eq_true, okr_iff] at h
    have ih := lok_bounds (dir := dir) ha hd k (by omega)
    unfold lok
    split
    · split
      · exact h.2
      · exact ih
    · exact ih

set_option maxHeartbeats 4000000 in
theorem bounds_yes (d0 d1 v0 v1 ls sd : Int) (A : Option Addr) (n c B dk : Nat) (cs : List Chg) (d v : Int) (w : World) (hL : LC w A n B cs) (hdk : dk ≤ 1)
    (hd : 0 ≤ d ∧ d ≤ 10000000000) (hv : 0 ≤ v ∧ v ≤ 10000000000) (ha : allc cs)
    (H : Hid (vld d0 d1 v0 v1 ls cs dk 0 0 = true)) (HD : Hid (d = if dk = 0 then d0 else d1)) (HV : Hid (v = if dk = 0 then v0 else v1)) :
    Calls Try.prog 20 #[.agg #[.int .i64 d0, .int .i64 d1, .int .i64 v0, .int .i64 v1, .int .i64 ls, .int .u64 sd, .slice A n c], .int .i64 dk] w fun e w' =>
      e = .returned (.agg #[.int .i64 (lok cs dk d n), .int .i64 (hik cs dk d n + v)]) ∧ Frm w w' NoB := by
  have hF : Frm w ((w.alloc (.cells (LkCells d0 d1 v0 v1 ls sd A n c) 26)).alloc (.cells #[.int .i64 0, .int .i64 0] 35)) NoB := ((Frm.refl w _).alloc _).alloc _
  have hB : Blk ((w.alloc (.cells (LkCells d0 d1 v0 v1 ls sd A n c) 26)).alloc (.cells #[.int .i64 0, .int .i64 0] 35)) w.heap.size 26 (LkCells d0 d1 v0 v1 ls sd A n c) := (Blk.new _ _ _).alloc _
  have hR : Blk ((w.alloc (.cells (LkCells d0 d1 v0 v1 ls sd A n c) 26)).alloc (.cells #[.int .i64 0, .int .i64 0] 35)) (w.heap.size + 1) 35 #[.int .i64 0, .int .i64 0] := Blk.newAt _ _ _ (by simp)
  have hL' := (hL.alloc (.cells (LkCells d0 d1 v0 v1 ls sd A n c) 26)).alloc (.cells #[.int .i64 0, .int .i64 0] 35)
  have hA := hL.hA
  have hBw := hL.hB
  have HN := Lib.hid hL.HN
  have hn := hL.hn
  have Ha := Lib.hid ha
  have hdk0 : (0 : Int) ≤ (dk : Int) := Int.natCast_nonneg _
  have hdk1 : (dk : Int) < 2 := by omega
  clear hL ha
  go_enter Try.func20, Try.ntmps20
  go_wp2_with (first
    | (go_at_call 28
       refine (right_b hL' H).mono ?_
       rintro e x1 ⟨rfl, f1⟩
       replace hF := hF.trans f1 (fun _ _ e => e)
       replace hB := hB.frm f1 (fun e => e)
       replace hR := hR.frm f1 (fun e => e)
       have cd : x1.cell? ⟨w.heap.size, dk, none⟩ = some (.int .i64 d) := by
         obtain ⟨c0, c1, c2, c3, c4, c5, c6⟩ := lk_cells hB
         rcases Nat.lt_or_ge dk 1 with h | h
         · obtain rfl : dk = 0 := by omega
           rw [HD.out]; exact c0
         · obtain rfl : dk = 1 := by omega
           rw [HD.out]; exact c1
       obtain ⟨c0, c1, c2, c3, c4, c5, c6⟩ := lk_cells hB))
  have hlt := hB.lt
  have hlr := hR.lt
  have hne := World.new_ne x1 ⟨w.heap.size, dk, none⟩ cd
  go_region_held3 (fun w' => w'.cell? ⟨w.heap.size, dk, none⟩ = some (.int .i64 d)) (go_keep) (fail)
  have hI : Blk (x1.alloc (.cells #[.int .i64 d, .int .i64 d] 35)) x1.heap.size 35 #[.int .i64 d, .int .i64 d] := Blk.new _ _ _
  replace hB := hB.alloc (.cells #[.int .i64 d, .int .i64 d] 35)
  replace hR := hR.alloc (.cells #[.int .i64 d, .int .i64 d] 35)
  replace hF := hF.alloc (.cells #[.int .i64 d, .int .i64 d] 35)
  clear cd hne c0 c1 c2 c3 c4 c5
  have c6' : (x1.alloc (.cells #[.int .i64 d, .int .i64 d] 35)).cell? ⟨w.heap.size, 6, none⟩ = some (.slice A n c) := (lk_cells hB).2.2.2.2.2.2
  go_wp2
  go_loopw [25] (fun i wr => ∃ k : Nat, k ≤ n ∧ i = .int .i64 k ∧ Blk wr x1.heap.size 35 #[.int .i64 (lok cs dk d k), .int .i64 (hik cs dk d k)] ∧ Blk wr w.heap.size 26 (LkCells d0 d1 v0 v1 ls sd A n c) ∧
    Blk wr (w.heap.size + 1) 35 #[.int .i64 0, .int .i64 0] ∧ Frm w wr NoB) (fun i _ => n - (intOf i).toNat)
  case atStart => exact ⟨0, Nat.zero_le _, rfl, hI.drew, hB.drew, hR.drew, hF.drew⟩
  case round =>
    clear hI hB hR hF c6 c6'
    obtain ⟨k, hk, rfl, hI, hB, hR, hF⟩ := hrel
    by_cases hlt2 : k < n
    · have hA' := hA.frm hF hBw
      obtain ⟨b, o, rfl, _, hcell⟩ := hA'.pos (by rw [HN.out]; omega)
      obtain ⟨q1, q2, q3⟩ := hcell k (by rw [HN.out]; omega)
      have hsl : lok cs dk d (k + 1) = if (cs.getD k Chg.z).dir = dk then (if (cs.getD k Chg.z).del < lok cs dk d k then (cs.getD k Chg.z).del else lok cs dk d k) else lok cs dk d k := rfl
      have hsh : hik cs dk d (k + 1) = if (cs.getD k Chg.z).dir = dk then (if hik cs dk d k < (cs.getD k Chg.z).del then (cs.getD k Chg.z).del else hik cs dk d k) else hik cs dk d k := rfl
      obtain ⟨x, hx⟩ : ∃ x, x = (cs.getD k Chg.z).at_ := ⟨_, rfl⟩
      obtain ⟨y, hy⟩ : ∃ y, y = (cs.getD k Chg.z).dir := ⟨_, rfl⟩
      obtain ⟨z, hz⟩ : ∃ z, z = (cs.getD k Chg.z).del := ⟨_, rfl⟩
      rw [← hx] at q1
      rw [← hy] at q2 hsl hsh
      rw [← hz] at q3 hsl hsh
      clear hx hy hz hcell hA' hA
      obtain ⟨lo, hlo⟩ : ∃ D, D = lok cs dk d k := ⟨_, rfl⟩
      obtain ⟨hi, hhi⟩ : ∃ D, D = hik cs dk d k := ⟨_, rfl⟩
      rw [← hlo] at hsl hI
      rw [← hhi] at hsh hI
      have ci0 : wr.cell? ⟨x1.heap.size, 0, none⟩ = some (.int .i64 lo) := hI.cellIs rfl
      have ci1 : wr.cell? ⟨x1.heap.size, 1, none⟩ = some (.int .i64 hi) := hI.cellIs rfl
      have zi0 := hI.frozen 0
      have zi1 := hI.frozen 1
      have hlI := hI.lt
      by_cases h2 : y = dk
      · have hb : (y == (dk : Int)) = true := beq_iff_eq.2 h2
        rw [if_pos h2] at hsl hsh
        have Hl := Lib.hid hsl
        have Hh := Lib.hid hsh
        clear hsl hsh h2 hlo hhi
        go_wp2
        go_region
        generalize hl' : (if z < lo then z else lo) = lo' at Hl ⊢
        generalize hh' : (if hi < z then z else hi) = hi' at Hh ⊢
        clear hl' hh'
        have hI2 := (hI.put 0 (.int .i64 lo')).put 1 (.int .i64 hi')
        have hB2 := (hB.away (b := x1.heap.size) (by omega) 0 (.int .i64 lo')).away (b := x1.heap.size) (by omega) 1 (.int .i64 hi')
        have hR2 := (hR.away (b := x1.heap.size) (by omega) 0 (.int .i64 lo')).away (b := x1.heap.size) (by omega) 1 (.int .i64 hi')
        have hF2 := (hF.put (b := x1.heap.size) (fun h => by omega) 0 (.int .i64 lo')).put (b := x1.heap.size) (fun h => by omega) 1 (.int .i64 hi')
        go_wp2
        go_roundw
        case rel => exact ⟨k + 1, by omega, by go_num, by rw [Hl.out, Hh.out]; exact (hI2.alloc _).drew, (hB2.alloc _).drew, (hR2.alloc _).drew, (hF2.alloc _).drew⟩
        case measure => simp [intOf]; omega
      · have hb : (y == (dk : Int)) = false := beq_eq_false_iff_ne.2 h2
        rw [if_neg h2] at hsl hsh
        have Hl := Lib.hid hsl
        have Hh := Lib.hid hsh
        clear hsl hsh h2 hlo hhi
        go_wp2
        go_roundw
        case rel => exact ⟨k + 1, by omega, by go_num, by rw [Hl.out, Hh.out]; exact hI.alloc _, hB.alloc _, hR.alloc _, hF.alloc _⟩
        case measure => simp [intOf]; omega
    · have hkn : k = n := by omega
      have hI' : Blk wr x1.heap.size 35 #[.int .i64 (lok cs dk d n), .int .i64 (hik cs dk d n)] := hkn ▸ hI
      have cd : wr.cell? ⟨w.heap.size, 2 + dk, none⟩ = some (.int .i64 v) := by
        obtain ⟨c0, c1, c2, c3, c4, c5, c6⟩ := lk_cells hB
        rcases Nat.lt_or_ge dk 1 with h | h
        · obtain rfl : dk = 0 := by omega
          rw [HV.out]; exact c2
        · obtain rfl : dk = 1 := by omega
          rw [HV.out]; exact c3
      have bh := hik_bounds (dir := dk) Ha.out hd n (by rw [HN.out]; exact Nat.le_refl _)
      obtain ⟨lo, hlo⟩ : ∃ D, D = lok cs dk d n := ⟨_, rfl⟩
      obtain ⟨hi, hhi⟩ : ∃ D, D = hik cs dk d n := ⟨_, rfl⟩
      rw [← hlo] at hI'
      rw [← hhi] at hI' bh
      have Hlo := Lib.hid hlo
      have Hhi := Lib.hid hhi
      clear hlo hhi hkn hI
      have ci0 : wr.cell? ⟨x1.heap.size, 0, none⟩ = some (.int .i64 lo) := hI'.cellIs rfl
      have ci1 : wr.cell? ⟨x1.heap.size, 1, none⟩ = some (.int .i64 hi) := hI'.cellIs rfl
      have zi1 := hI'.frozen 1
      have hlI := hI'.lt
      have t1 : IntKind.i64.wrap (hi + v) = hi + v := IntWalk.i64_in _ (by omega)
      go_wp2
      go_still_tail 8, (by kernel_rfl)
      change wpList _ _ _ _ _ wr.drew
      obtain ⟨w2, hw2⟩ : ∃ w2, w2 = wr.drew := ⟨_, rfl⟩
      rw [← hw2]
      have kI : Blk w2 x1.heap.size 35 #[.int .i64 lo, .int .i64 hi] := by rw [hw2]; exact hI'.drew
      have kR : Blk w2 (w.heap.size + 1) 35 #[.int .i64 0, .int .i64 0] := by rw [hw2]; exact hR.drew
      have kF : Frm w w2 NoB := by rw [hw2]; exact hF.drew
      clear hI' hR hF hB ci0 ci1 zi1 cd hw2
      have ci1 : w2.cell? ⟨x1.heap.size, 1, none⟩ = some (.int .i64 hi) := kI.cellIs rfl
      have zi1 := kI.frozen 1
      have hI2 : Blk (w2.setCell ⟨x1.heap.size, 1, none⟩ (.int .i64 (hi + v))) x1.heap.size 35 #[.int .i64 lo, .int .i64 (hi + v)] := kI.put 1 (.int .i64 (hi + v))
      have hR2 := kR.away (b := x1.heap.size) (by omega) 1 (.int .i64 (hi + v))
      have e0 := hI2.cellIs (i := 0) (v := .int .i64 lo) rfl
      have e1 := hI2.cellIs (i := 1) (v := .int .i64 (hi + v)) rfl
      have r0 := hR2.cellIs (i := 0) (v := .int .i64 0) rfl
      have r1 := hR2.cellIs (i := 1) (v := .int .i64 0) rfl
      have y0 := hR2.frozen 0
      have y1 := hR2.frozen 1
      have hR3 := hR2.put 0 (.int .i64 lo)
      have hR4 := hR3.put 1 (.int .i64 (hi + v))
      have g0 := hR3.cellIs (i := 0) (v := .int .i64 lo) rfl
      have g1 := hR4.cellIs (i := 1) (v := .int .i64 (hi + v)) rfl
      have hF4 := ((kF.put (b := x1.heap.size) (fun h => by omega) 1 (.int .i64 (hi + v))).put (b := w.heap.size + 1) (fun h => by omega) 0 (.int .i64 lo)).put (b := w.heap.size + 1) (fun h => by omega) 1 (.int .i64 (hi + v))
      go_wp2
      refine bodyPost_ret (v := .agg #[.int .i64 lo, .int .i64 (hi + v)]) (by simp [results, Try.results20, go_sem, g0, g1]) rfl ?_
      exact ⟨by rw [Hlo.out, Hhi.out], hF4⟩

/-- What Bounds returns. -/
noncomputable def bLo (d0 d1 v0 v1 ls : Int) (cs : List Chg) (dir : Int) : Int := if vld d0 d1 v0 v1 ls cs dir 0 0 = true then lok cs dir (if dir = 0 then d0 else d1) cs.length else 0
noncomputable def bHi (d0 d1 v0 v1 ls : Int) (cs : List Chg) (dir : Int) : Int := if vld d0 d1 v0 v1 ls cs dir 0 0 = true then hik cs dir (if dir = 0 then d0 else d1) cs.length + (if dir = 0 then v0 else v1) else 0

theorem bounds_no (d0 d1 v0 v1 ls sd : Int) (A : Option Addr) (n c B : Nat) (cs : List Chg) (dir : Int) (w : World) (hL : LC w A n B cs) (H : Hid (vld d0 d1 v0 v1 ls cs dir 0 0 = false)) :
    Calls Try.prog 20 #[.agg #[.int .i64 d0, .int .i64 d1, .int .i64 v0, .int .i64 v1, .int .i64 ls, .int .u64 sd, .slice A n c], .int .i64 dir] w fun e w' => e = .returned (.agg #[.int .i64 0, .int .i64 0]) ∧ Frm w w' NoB := by
  have hF : Frm w ((w.alloc (.cells (LkCells d0 d1 v0 v1 ls sd A n c) 26)).alloc (.cells #[.int .i64 0, .int .i64 0] 35)) NoB := ((Frm.refl w _).alloc _).alloc _
  have hR : Blk ((w.alloc (.cells (LkCells d0 d1 v0 v1 ls sd A n c) 26)).alloc (.cells #[.int .i64 0, .int .i64 0] 35)) (w.heap.size + 1) 35 #[.int .i64 0, .int .i64 0] := Blk.newAt _ _ _ (by simp)
  have hL' := (hL.alloc (.cells (LkCells d0 d1 v0 v1 ls sd A n c) 26)).alloc (.cells #[.int .i64 0, .int .i64 0] 35)
  clear hL
  go_enter Try.func20, Try.ntmps20
  go_wp2_with (
    go_at_call 28
    refine (right_b hL' H).mono ?_
    rintro e x1 ⟨rfl, f1⟩
    replace hF := hF.trans f1 (fun _ _ e => e)
    replace hR := hR.frm f1 (fun e => e)
    have r0 := hR.cellIs (i := 0) (v := .int .i64 0) rfl
    have r1 := hR.cellIs (i := 1) (v := .int .i64 0) rfl
    have y0 := hR.frozen 0
    have y1 := hR.frozen 1
    have hR3 := hR.put 0 (.int .i64 0)
    have hR4 := hR3.put 1 (.int .i64 0)
    have g0 := hR3.cellIs (i := 0) (v := .int .i64 0) rfl
    have g1 := hR4.cellIs (i := 1) (v := .int .i64 0) rfl)
  have hF4 := (hF.put (b := w.heap.size + 1) (fun h => by omega) 0 (.int .i64 0)).put (b := w.heap.size + 1) (fun h => by omega) 1 (.int .i64 0)
  refine bodyPost_ret (v := .agg #[.int .i64 0, .int .i64 0]) (by simp [results, Try.results20, go_sem, g0, g1]) rfl ?_
  exact ⟨rfl, hF4⟩

theorem bounds_t (d0 d1 v0 v1 ls sd : Int) (A : Option Addr) (n c B : Nat) (cs : List Chg) (dir : Int) (w : World) (hL : LC w A n B cs) :
    Calls Try.prog 20 #[.agg #[.int .i64 d0, .int .i64 d1, .int .i64 v0, .int .i64 v1, .int .i64 ls, .int .u64 sd, .slice A n c], .int .i64 dir] w fun e w' => e = .returned (.agg #[.int .i64 (bLo d0 d1 v0 v1 ls cs dir), .int .i64 (bHi d0 d1 v0 v1 ls cs dir)]) ∧ Frm w w' NoB := by
  cases h : vld d0 d1 v0 v1 ls cs dir 0 0
  · have e1 : bLo d0 d1 v0 v1 ls cs dir = 0 := by unfold bLo; rw [h]; rfl
    have e2 : bHi d0 d1 v0 v1 ls cs dir = 0 := by unfold bHi; rw [h]; rfl
    rw [e1, e2]
    exact bounds_no d0 d1 v0 v1 ls sd A n c B cs dir w hL h
  · obtain ⟨hc, hd', _, _⟩ := vld_iff.1 h
    obtain ⟨hh, ha, _, _⟩ := chk_zero hc
    obtain ⟨b1, b2, b3, b4, _⟩ := hd_bounds hh
    obtain ⟨dk, rfl⟩ := Int.eq_ofNat_of_zero_le hd'.1
    have e1 : bLo d0 d1 v0 v1 ls cs dk = lok cs dk (if dk = 0 then d0 else d1) n := by unfold bLo; rw [h, if_pos rfl, sel_eq, hL.HN]
    have e2 : bHi d0 d1 v0 v1 ls cs dk = hik cs dk (if dk = 0 then d0 else d1) n + (if dk = 0 then v0 else v1) := by unfold bHi; rw [h, if_pos rfl, sel_eq, sel_eq, hL.HN]
    rw [e1, e2]
    exact bounds_yes d0 d1 v0 v1 ls sd A n c B dk cs _ _ w hL (by omega) (by split <;> assumption) (by split <;> assumption) ha h rfl rfl
end Go.Proofs.Ytchmaecakjeceaa
