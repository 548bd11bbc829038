/- What Check of the program returns. -/
import Derived.Test.YtchmaecakjeceaaW2
namespace Go.Proofs.Ytchmaecakjeceaa
open Go.RowKit

theorem cg_cells {w : World} {g : Nat} {x y z : Int} (h : Blk w g 48 #[.int .i64 x, .int .i64 y, .int .i64 z]) :
    w.cell? ⟨g, 0, none⟩ = some (.int .i64 x) ∧ w.cell? ⟨g, 1, none⟩ = some (.int .i64 y) ∧ w.cell? ⟨g, 2, none⟩ = some (.int .i64 z) :=
  ⟨h.cellIs rfl, h.cellIs rfl, h.cellIs rfl⟩

set_option maxRecDepth 100000 in
set_option maxHeartbeats 8000000 in
theorem check_go (d0 d1 v0 v1 ls sd : Int) (A : Option Addr) (n c B : Nat) (cs : List Chg) (w : World) (hn : n ≤ 5864062014805)
    (HN : Hid (cs.length = n)) (hA : RdC w B A cs) (hBw : B ≤ w.heap.size) (Hh : Hid (hd d0 d1 v0 v1 ls = true))
    (H1 : Hid ((okr 10000000000 d0 && okr 10000000000 d1) = true)) (H2 : Hid ((okr 10000000000 v0 && okr 10000000000 v1) = true)) (H3 : Hid ((okr 1000 ls && okr 1000 0) = true)) :
    Calls Try.prog 12 #[.agg #[.int .i64 d0, .int .i64 d1, .int .i64 v0, .int .i64 v1, .int .i64 ls, .int .u64 sd, .slice A n c]] w fun e w' => e = .returned (.int .i64 (chk d0 d1 v0 v1 ls cs)) ∧ Frm w w' NoB := by
  have hB : Blk (w.alloc (.cells (LkCells d0 d1 v0 v1 ls sd A n c) 26)) w.heap.size 26 (LkCells d0 d1 v0 v1 ls sd A n c) := Blk.new _ _ _
  have hF : Frm w (w.alloc (.cells (LkCells d0 d1 v0 v1 ls sd A n c) 26)) NoB := (Frm.refl w _).alloc _
  go_enter Try.func12, Try.ntmps12
  go_wp2_with (first
    | (go_at_call 26; (with_reducible refine (in_b H1 _).mono ?_); rintro e x1 ⟨rfl, f1⟩; replace hB := hB.frm f1 (fun e => e); replace hF := hF.trans f1 (fun _ _ e => e); obtain ⟨_, _, _, _, _, _, _⟩ := lk_cells hB)
    | (go_at_call 26; (with_reducible refine (in_b H2 _).mono ?_); rintro e x1 ⟨rfl, f1⟩; replace hB := hB.frm f1 (fun e => e); replace hF := hF.trans f1 (fun _ _ e => e); obtain ⟨_, _, _, _, _, _, _⟩ := lk_cells hB)
    | (go_at_call 26; (with_reducible refine (in_b H3 _).mono ?_); rintro e x1 ⟨rfl, f1⟩; replace hB := hB.frm f1 (fun e => e); replace hF := hF.trans f1 (fun _ _ e => e); obtain ⟨_, _, _, _, _, _, _⟩ := lk_cells hB))
  clear H1 H2 H3
  go_loopw [26] (fun i wr => ∃ k : Nat, k ≤ n ∧ i = .int .i64 k ∧ allk cs k ∧ Blk wr w.heap.size 26 (LkCells d0 d1 v0 v1 ls sd A n c) ∧ Frm w wr NoB) (fun i _ => n - (intOf i).toNat)
  case atStart => exact ⟨0, Nat.zero_le _, rfl, fun _ h => by omega, hB, hF⟩
  case round =>
    clear hB hF
    obtain ⟨k, hk, rfl, hall, hB, hF⟩ := hrel
    have Hall := Lib.hid hall
    clear hall
    by_cases hlt : k < n
    · have hA' := hA.frm hF hBw
      obtain ⟨b, o, rfl, _, hcell⟩ := hA'.pos (by rw [HN.out]; omega)
      obtain ⟨q1, q2, q3⟩ := hcell k (by rw [HN.out]; omega)
      obtain ⟨x, hx⟩ : ∃ x, x = (cs.getD k Chg.z).at_ := ⟨_, rfl⟩
      obtain ⟨y, hy⟩ : ∃ y, y = (cs.getD k Chg.z).dir := ⟨_, rfl⟩
      obtain ⟨z, hz⟩ : ∃ z, z = (cs.getD k Chg.z).del := ⟨_, rfl⟩
      rw [← hx] at q1
      rw [← hy] at q2
      rw [← hz] at q3
      obtain ⟨p1, e1⟩ : ∃ p, okr 1125899906842624 x = p := ⟨_, rfl⟩
      obtain ⟨p2, e2⟩ : ∃ p, okr 1 y = p := ⟨_, rfl⟩
      obtain ⟨p3, e3⟩ : ∃ p, okr 10000000000 z = p := ⟨_, rfl⟩
      have Hk := Lib.hid (okc_of hx hy hz e1 e2 e3)
      have E1 := hid0 (by omega) e1
      have E2 := hid0 (by omega) e2
      have E3 := hid0 (by omega) e3
      clear hx hy hz hcell hA' hA e1 e2 e3
      have hC : Blk (wr.alloc (.cells #[.int .i64 x, .int .i64 y, .int .i64 z] 48)) wr.heap.size 48 #[.int .i64 x, .int .i64 y, .int .i64 z] := Blk.new _ _ _
      replace hB := hB.alloc (.cells #[.int .i64 x, .int .i64 y, .int .i64 z] 48)
      replace hF := hF.alloc (.cells #[.int .i64 x, .int .i64 y, .int .i64 z] 48)
      have ht : (p1 && p2 && p3) = false ∧ (p1 = false ∨ (p1 = true ∧ p2 = false) ∨ (p1 = true ∧ p2 = true ∧ p3 = false)) ∨ (p1 = true ∧ p2 = true ∧ p3 = true) := by cases p1 <;> cases p2 <;> cases p3 <;> simp
      rcases ht with ⟨hf, ht⟩ | ⟨rfl, rfl, rfl⟩
      · rw [hf] at Hk
        clear hf
        have hres : chk d0 d1 v0 v1 ls cs = 3 := chk_bad k (by rw [HN.out]; exact hlt) Hk.out
        have Hres := Lib.hid hres
        clear hres
        rcases ht with rfl | ⟨rfl, rfl⟩ | ⟨rfl, rfl, rfl⟩
        all_goals
          go_wp2_with (first
            | (go_at_call 26; (with_reducible refine (in_b E1 _).mono ?_); rintro e x1 ⟨rfl, f1⟩; replace hB := hB.frm f1 (fun e => e); replace hF := hF.trans f1 (fun _ _ e => e); replace hC := hC.frm f1 (fun e => e); obtain ⟨_, _, _⟩ := cg_cells hC)
            | (go_at_call 26; (with_reducible refine (in_b E2 _).mono ?_); rintro e x1 ⟨rfl, f1⟩; replace hB := hB.frm f1 (fun e => e); replace hF := hF.trans f1 (fun _ _ e => e); replace hC := hC.frm f1 (fun e => e); obtain ⟨_, _, _⟩ := cg_cells hC)
            | (go_at_call 26; (with_reducible refine (in_b E3 _).mono ?_); rintro e x1 ⟨rfl, f1⟩; replace hB := hB.frm f1 (fun e => e); replace hF := hF.trans f1 (fun _ _ e => e); replace hC := hC.frm f1 (fun e => e); obtain ⟨_, _, _⟩ := cg_cells hC))
          go_ret
          exact ⟨by rw [Hres.out]; rfl, hF⟩
      · go_wp2_with (first
          | (go_at_call 26; (with_reducible refine (in_b E1 _).mono ?_); rintro e x1 ⟨rfl, f1⟩; replace hB := hB.frm f1 (fun e => e); replace hF := hF.trans f1 (fun _ _ e => e); replace hC := hC.frm f1 (fun e => e); obtain ⟨_, _, _⟩ := cg_cells hC)
          | (go_at_call 26; (with_reducible refine (in_b E2 _).mono ?_); rintro e x1 ⟨rfl, f1⟩; replace hB := hB.frm f1 (fun e => e); replace hF := hF.trans f1 (fun _ _ e => e); replace hC := hC.frm f1 (fun e => e); obtain ⟨_, _, _⟩ := cg_cells hC)
          | (go_at_call 26; (with_reducible refine (in_b E3 _).mono ?_); rintro e x1 ⟨rfl, f1⟩; replace hB := hB.frm f1 (fun e => e); replace hF := hF.trans f1 (fun _ _ e => e); replace hC := hC.frm f1 (fun e => e); obtain ⟨_, _, _⟩ := cg_cells hC))
        go_roundw
        case rel => exact ⟨k + 1, by omega, by go_num, allk_succ Hall.out Hk.out, hB, hF⟩
        case measure => simp [intOf]; omega
    · have hkn : k = n := by omega
      have hall : allc cs := fun j hj => Hall.out j (by rw [HN.out] at hj; omega)
      have Ha := Lib.hid hall
      clear hall hkn Hall
      obtain ⟨c0, c1, c2, c3, c4, c5, c6⟩ := lk_cells hB
      by_cases hl : 16 < n
      · have Hres := Lib.hid (chk_long Hh.out Ha.out (by rw [HN.out]; exact hl))
        go_wp2
        go_ret
        exact ⟨by rw [Hres.out]; rfl, hF⟩
      · go_wp2
        obtain ⟨wa, rfl⟩ : ∃ wo : World, wo = wr := ⟨_, rfl⟩
        go_loopw [5] (fun i wr => ∃ k : Nat, 1 ≤ k ∧ (k ≤ n ∨ k = 1) ∧ i = .int .i64 k ∧ ordk cs k ∧ Blk wr w.heap.size 26 (LkCells d0 d1 v0 v1 ls sd A n c) ∧ Frm w wr NoB) (fun i _ => n - (intOf i).toNat)
        case atStart => exact ⟨1, Nat.le_refl _, .inr rfl, rfl, fun _ h => by omega, hB, hF⟩
        case round =>
          clear hB hF c0 c1 c2 c3 c4 c5 c6
          obtain ⟨k2, hk1, hk2, rfl, hord, hB, hF⟩ := hrel
          have Hord := Lib.hid hord
          clear hord
          obtain ⟨c0, c1, c2, c3, c4, c5, c6⟩ := lk_cells hB
          by_cases hlt2 : k2 < n
          · have hA' := hA.frm hF hBw
            obtain ⟨b, o, rfl, _, hcell⟩ := hA'.pos (by rw [HN.out]; omega)
            obtain ⟨j, rfl⟩ : ∃ j, k2 = j + 1 := ⟨k2 - 1, by omega⟩
            obtain ⟨q1, _, _⟩ := hcell (j + 1) (by rw [HN.out]; omega)
            obtain ⟨q2, _, _⟩ := hcell j (by rw [HN.out]; omega)
            obtain ⟨x, hx⟩ : ∃ x, x = (cs.getD (j + 1) Chg.z).at_ := ⟨_, rfl⟩
            obtain ⟨y, hy⟩ : ∃ y, y = (cs.getD j Chg.z).at_ := ⟨_, rfl⟩
            rw [← hx] at q1
            rw [← hy] at q2
            have Hx := Lib.hid hx
            have Hy := Lib.hid hy
            clear hx hy hcell hA' hA c0 c1 c2 c3 c4 c5
            have hj0 : (0 : Int) ≤ ((j + 1 : Nat) : Int) := Int.natCast_nonneg _
            have hj1 : ((j + 1 : Nat) : Int) < (n : Int) := by omega
            by_cases hxy : x < y
            · have Hres := Lib.hid (chk_ord Hh.out Ha.out (by rw [HN.out]; exact hl) j (by rw [HN.out]; exact hlt2) (by rw [← Hx.out, ← Hy.out]; exact hxy))
              go_wp2
              go_quiet (fail)
              go_wp2
              go_ret
              exact ⟨by rw [Hres.out]; rfl, hF.drewN _⟩
            · go_wp2
              go_quiet (fail)
              go_wp2
              go_roundw
              case rel => exact ⟨j + 1 + 1, by omega, by omega, by go_num, ordk_succ Hord.out (by rw [Nat.add_sub_cancel, ← Hx.out, ← Hy.out]; omega) (by omega), hB.drewN _, hF.drewN _⟩
              case measure => simp [intOf]; omega
          · have Hres := Lib.hid (chk_ok (d0 := d0) (d1 := d1) (v0 := v0) (v1 := v1) (ls := ls) Hh.out Ha.out (by rw [HN.out]; exact hl) (fun j hj => Hord.out j (by rw [HN.out] at hj; omega)))
            go_wp2
            go_ret
            exact ⟨by rw [Hres.out]; rfl, hF⟩
end Go.Proofs.Ytchmaecakjeceaa
