/- What Arrive of the program and of the reference return. -/
import Derived.Test.YtchmaecakjeceaaW7
namespace Go.Proofs.Ytchmaecakjeceaa
open Go.RowKit

section
variable {P : Program} {md : Region.Mode} {ops : Array Oper} {Q : Exit → Act → World → Prop} {S : World → Prop} {fuel : Nat} {listed : Array Bool} {tm : List Value} {ds : List Deferred} {w : World}
/-- In a region that draws its order: an operation whose guard says no is passed over first. -/
theorem skipH (i d : Nat) (hd : (ops[i]?).map (·.dst) = some (some d)) (hw : (ops[i]?).map (fun o => Region.wanted o (yielded ops tm.toArray)) = some false)
    (hs : Region.noSelect ops = true) (hf : Region.free md ops listed i = true) (hr : (Region.ready md ops listed).contains i = true)
    (hQ : ∀ c a w, Q (.panic c) { a with tmps := a.tmps.setIfInBounds d undef } w → Q (.panic c) a w) (hS : S w)
    (h : wpAnyH P md ops Q S fuel (listed.setIfInBounds i true) ⟨(tm.set d undef).toArray, ds⟩ w) : wpAnyH P md ops Q S (fuel + 1) listed ⟨tm.toArray, ds⟩ w := by
  cases ho : ops[i]? with
  | none => rw [ho] at hd; cases hd
  | some oi =>
    rw [ho] at hd hw
    have hd' : oi.dst = some d := by simpa using hd
    have hw' : Region.wanted oi (yielded ops tm.toArray) = false := by simpa using hw
    have e : ∀ (a : Act) (v : Value), a.put oi.dst v = { a with tmps := a.tmps.setIfInBounds d v } := fun a v => by rw [hd']; rfl
    refine wpAnyH_take (v := undef) ho hs hf hr (fun c a w hh => hQ c a w (by rw [← e]; exact hh)) (Or.inr ⟨hw', rfl⟩) hS ?_
    rw [e]
    simpa using h
/-- An operation that yields v in every world that meets S is taken first. -/
theorem takeH (i d : Nat) (v : Value) (hd : (ops[i]?).map (·.dst) = some (some d)) (hw : (ops[i]?).map (fun o => Region.wanted o (yielded ops tm.toArray)) = some true)
    (hs : Region.noSelect ops = true) (hf : Region.free md ops listed i = true) (hr : (Region.ready md ops listed).contains i = true)
    (hQ : ∀ c a w, Q (.panic c) { a with tmps := a.tmps.setIfInBounds d v } w → Q (.panic c) a w)
    (hy : ∀ oi, ops[i]? = some oi → ∀ w, S w → (execOp (Act.eval ⟨tm.toArray, ds⟩) oi).run P w = .ok (.value v) w) (hS : S w)
    (h : wpAnyH P md ops Q S fuel (listed.setIfInBounds i true) ⟨(tm.set d v).toArray, ds⟩ w) : wpAnyH P md ops Q S (fuel + 1) listed ⟨tm.toArray, ds⟩ w := by
  cases ho : ops[i]? with
  | none => rw [ho] at hd; cases hd
  | some oi =>
    rw [ho] at hd hw
    have hd' : oi.dst = some d := by simpa using hd
    have hw' : Region.wanted oi (yielded ops tm.toArray) = true := by simpa using hw
    have e : ∀ (a : Act) (v : Value), a.put oi.dst v = { a with tmps := a.tmps.setIfInBounds d v } := fun a v => by rw [hd']; rfl
    refine wpAnyH_take (v := v) ho hs hf hr (fun c a w hh => hQ c a w (by rw [← e]; exact hh)) (Or.inl ⟨hw', hy oi ho⟩) hS ?_
    rw [e]
    simpa using h
end

/-- Is a message lost? -/
def lost (sd ls dir m : Int) : Bool := decide (mixI sd (4 * m + 2 * dir) % 1000 < ls)
/-- Does a message arrive, and when? -/
noncomputable def arrB (d0 d1 v0 v1 ls sd : Int) (cs : List Chg) (dir at_ m : Int) : Bool := vld d0 d1 v0 v1 ls cs dir at_ m && !lost sd ls dir m
noncomputable def arrT (d0 d1 v0 v1 ls sd : Int) (cs : List Chg) (dir at_ m : Int) : Int :=
  if arrB d0 d1 v0 v1 ls sd cs dir at_ m = true then at_ + delayF d0 d1 v0 v1 ls cs dir at_ + noiseF d0 d1 v0 v1 ls sd cs dir m else 0

theorem mixed_0 (d0 d1 v0 v1 ls sd : Int) (A : Option Addr) (n c : Nat) (dir m : Int) (w : World) (h1 : 0 ≤ dir ∧ dir ≤ 1) (h2 : 0 ≤ m ∧ m ≤ 1099511627776) :
    Calls Try.prog 29 #[.agg #[.int .i64 d0, .int .i64 d1, .int .i64 v0, .int .i64 v1, .int .i64 ls, .int .u64 sd, .slice A n c], .int .i64 dir, .int .i64 m, .int .i64 0] w fun e w' => e = .returned (.int .u64 (mixI sd (4 * m + 2 * dir))) ∧ Frm w w' NoB := by
  have h := mixed_t d0 d1 v0 v1 ls sd A n c dir m 0 w h1 h2 (by omega)
  rw [Int.add_zero] at h
  exact h

set_option maxHeartbeats 4000000 in
set_option linter.unusedSimpArgs false in
theorem arrive_no (d0 d1 v0 v1 ls sd : Int) (A : Option Addr) (n c B : Nat) (cs : List Chg) (dir at_ m : Int) (w : World) (hL : LC w A n B cs) (H : Hid (vld d0 d1 v0 v1 ls cs dir at_ m = false)) :
    Calls Try.prog 22 #[.agg #[.int .i64 d0, .int .i64 d1, .int .i64 v0, .int .i64 v1, .int .i64 ls, .int .u64 sd, .slice A n c], .int .i64 dir, .int .i64 at_, .int .i64 m] w fun e w' => e = .returned (.tuple #[.int .i64 0, .bool false]) ∧ Frm w w' NoB := by
  have hF : Frm w (w.alloc (.cells (LkCells d0 d1 v0 v1 ls sd A n c) 26)) NoB := (Frm.refl w _).alloc _
  have hB : Blk (w.alloc (.cells (LkCells d0 d1 v0 v1 ls sd A n c) 26)) w.heap.size 26 (LkCells d0 d1 v0 v1 ls sd A n c) := Blk.new _ _ _
  replace hL := hL.alloc (.cells (LkCells d0 d1 v0 v1 ls sd A n c) 26)
  go_enter Try.func22, Try.ntmps22
  go_wp2_with fail
  refine wp_region_held_drew (S := (fun w' => w'.cell? ⟨w.heap.size, 0, none⟩ = some (.int .i64 d0) ∧ w'.cell? ⟨w.heap.size, 1, none⟩ = some (.int .i64 d1) ∧ w'.cell? ⟨w.heap.size, 2, none⟩ = some (.int .i64 v0) ∧ w'.cell? ⟨w.heap.size, 3, none⟩ = some (.int .i64 v1) ∧ w'.cell? ⟨w.heap.size, 4, none⟩ = some (.int .i64 ls) ∧ w'.cell? ⟨w.heap.size, 5, none⟩ = some (.int .u64 sd) ∧ w'.cell? ⟨w.heap.size, 6, none⟩ = some (.slice A n c))) (by kernel_rfl) (lk_cells hB) (fun hHeld => ?_)
  (refine takeH 0 10 ?_ (by kernel_rfl) (by kernel_rfl) (by kernel_rfl) (by kernel_rfl) (by kernel_rfl) (fun _ _ _ h => h) ?_ (by assumption) ?_; rotate_left; (intro oi ho w hSw; simp only [List.getElem?_toArray, List.getElem?_cons_succ, List.getElem?_cons_zero, Option.some.injEq] at ho; subst ho; (try dsimp only at hSw); go_simp; try (with_reducible rfl)); simp only [List.set_cons_zero, List.set_cons_succ])
  (refine takeH 1 11 ?_ (by kernel_rfl) (by kernel_rfl) (by kernel_rfl) (by kernel_rfl) (by kernel_rfl) (fun _ _ _ h => h) ?_ (by assumption) ?_; rotate_left; (intro oi ho w hSw; simp only [List.getElem?_toArray, List.getElem?_cons_succ, List.getElem?_cons_zero, Option.some.injEq] at ho; subst ho; (try dsimp only at hSw); go_simp; try (with_reducible rfl)); simp only [List.set_cons_zero, List.set_cons_succ])
  (refine takeH 2 12 ?_ (by kernel_rfl) (by kernel_rfl) (by kernel_rfl) (by kernel_rfl) (by kernel_rfl) (fun _ _ _ h => h) ?_ (by assumption) ?_; rotate_left; (intro oi ho w hSw; simp only [List.getElem?_toArray, List.getElem?_cons_succ, List.getElem?_cons_zero, Option.some.injEq] at ho; subst ho; (try dsimp only at hSw); go_simp; try (with_reducible rfl)); simp only [List.set_cons_zero, List.set_cons_succ])
  (refine takeH 3 13 ?_ (by kernel_rfl) (by kernel_rfl) (by kernel_rfl) (by kernel_rfl) (by kernel_rfl) (fun _ _ _ h => h) ?_ (by assumption) ?_; rotate_left; (intro oi ho w hSw; simp only [List.getElem?_toArray, List.getElem?_cons_succ, List.getElem?_cons_zero, Option.some.injEq] at ho; subst ho; (try dsimp only at hSw); go_simp; try (with_reducible rfl)); simp only [List.set_cons_zero, List.set_cons_succ])
  refine wpAnyH_ready (rs := [4]) (by kernel_rfl) (by simp) ?_
  refine AllReadyH.cons rfl (fun K hK => ?_) AllReadyH.nil
  go_simp
  go_at_call 28
  (with_reducible refine (right_b (by exact hL.drew) H).mono ?_)
  rintro e x1 ⟨rfl, f1⟩; replace hL := hL.drew.frm f1; replace hF := hF.drew.trans f1 (fun _ _ e => e); replace hB := hB.drew.frm f1 (fun e => e)
  go_wp2_with fail
  refine hK.out _ _ (lk_cells hB) (fun hHeld2 => ?_)
  (try simp only [Act.put, List.setIfInBounds_toArray, List.set_cons_zero, List.set_cons_succ])
  (refine takeH 5 15 ?_ (by kernel_rfl) (by kernel_rfl) (by kernel_rfl) (by kernel_rfl) (by kernel_rfl) (fun _ _ _ h => h) ?_ (by assumption) ?_; rotate_left; (intro oi ho w hSw; simp only [List.getElem?_toArray, List.getElem?_cons_succ, List.getElem?_cons_zero, Option.some.injEq] at ho; subst ho; (try dsimp only at hSw); go_simp; try (with_reducible rfl)); simp only [List.set_cons_zero, List.set_cons_succ])
  (refine takeH 6 16 ?_ (by kernel_rfl) (by kernel_rfl) (by kernel_rfl) (by kernel_rfl) (by kernel_rfl) (fun _ _ _ h => h) ?_ (by assumption) ?_; rotate_left; (intro oi ho w hSw; simp only [List.getElem?_toArray, List.getElem?_cons_succ, List.getElem?_cons_zero, Option.some.injEq] at ho; subst ho; (try dsimp only at hSw); go_simp; try (with_reducible rfl)); simp only [List.set_cons_zero, List.set_cons_succ])
  (refine skipH 7 17 (by kernel_rfl) (by kernel_rfl) (by kernel_rfl) (by kernel_rfl) (by kernel_rfl) (fun _ _ _ h => h) (by assumption) ?_; simp only [List.set_cons_zero, List.set_cons_succ])
  (refine skipH 8 18 (by kernel_rfl) (by kernel_rfl) (by kernel_rfl) (by kernel_rfl) (by kernel_rfl) (fun _ _ _ h => h) (by assumption) ?_; simp only [List.set_cons_zero, List.set_cons_succ])
  (refine skipH 9 19 (by kernel_rfl) (by kernel_rfl) (by kernel_rfl) (by kernel_rfl) (by kernel_rfl) (fun _ _ _ h => h) (by assumption) ?_; simp only [List.set_cons_zero, List.set_cons_succ])
  (refine skipH 13 23 (by kernel_rfl) (by kernel_rfl) (by kernel_rfl) (by kernel_rfl) (by kernel_rfl) (fun _ _ _ h => h) (by assumption) ?_; simp only [List.set_cons_zero, List.set_cons_succ])
  (refine skipH 10 20 (by kernel_rfl) (by kernel_rfl) (by kernel_rfl) (by kernel_rfl) (by kernel_rfl) (fun _ _ _ h => h) (by assumption) ?_; simp only [List.set_cons_zero, List.set_cons_succ])
  (refine skipH 11 21 (by kernel_rfl) (by kernel_rfl) (by kernel_rfl) (by kernel_rfl) (by kernel_rfl) (fun _ _ _ h => h) (by assumption) ?_; simp only [List.set_cons_zero, List.set_cons_succ])
  (refine skipH 12 22 (by kernel_rfl) (by kernel_rfl) (by kernel_rfl) (by kernel_rfl) (by kernel_rfl) (fun _ _ _ h => h) (by assumption) ?_; simp only [List.set_cons_zero, List.set_cons_succ])
  (refine skipH 14 24 (by kernel_rfl) (by kernel_rfl) (by kernel_rfl) (by kernel_rfl) (by kernel_rfl) (fun _ _ _ h => h) (by assumption) ?_; simp only [List.set_cons_zero, List.set_cons_succ])
  (refine skipH 15 25 (by kernel_rfl) (by kernel_rfl) (by kernel_rfl) (by kernel_rfl) (by kernel_rfl) (fun _ _ _ h => h) (by assumption) ?_; simp only [List.set_cons_zero, List.set_cons_succ])
  (refine takeH 16 26 ?_ (by kernel_rfl) (by kernel_rfl) (by kernel_rfl) (by kernel_rfl) (by kernel_rfl) (fun _ _ _ h => h) ?_ (by assumption) ?_; rotate_left; (intro oi ho w hSw; simp only [List.getElem?_toArray, List.getElem?_cons_succ, List.getElem?_cons_zero, Option.some.injEq] at ho; subst ho; (try dsimp only at hSw); go_simp; try (with_reducible rfl)); simp only [List.set_cons_zero, List.set_cons_succ])
  refine wpAnyH_done (by kernel_rfl) ?_ _
  go_wp2
  go_ret2
  exact ⟨rfl, hF⟩


section
variable (d0 d1 v0 v1 ls sd : Int) (A : Option Addr) (n c B : Nat) (cs : List Chg) (dir at_ m : Int) (w : World)

set_option maxHeartbeats 4000000 in
theorem arrive_lost (hL : LC w A n B cs) (H : Hid (vld d0 d1 v0 v1 ls cs dir at_ m = true)) (hl : Hid (lost sd ls dir m = true))
    (h1 : 0 ≤ dir ∧ dir ≤ 1) (h2 : 0 ≤ m ∧ m ≤ 1099511627776) :
    Calls Try.prog 22 #[.agg #[.int .i64 d0, .int .i64 d1, .int .i64 v0, .int .i64 v1, .int .i64 ls, .int .u64 sd, .slice A n c], .int .i64 dir, .int .i64 at_, .int .i64 m] w fun e w' => e = .returned (.tuple #[.int .i64 0, .bool false]) ∧ Frm w w' NoB := by
  have hF : Frm w (w.alloc (.cells (LkCells d0 d1 v0 v1 ls sd A n c) 26)) NoB := (Frm.refl w _).alloc _
  have hB : Blk (w.alloc (.cells (LkCells d0 d1 v0 v1 ls sd A n c) 26)) w.heap.size 26 (LkCells d0 d1 v0 v1 ls sd A n c) := Blk.new _ _ _
  replace hL := hL.alloc (.cells (LkCells d0 d1 v0 v1 ls sd A n c) 26)
  obtain ⟨X, hX⟩ : ∃ X, mixI sd (4 * m + 2 * dir) = X := ⟨_, rfl⟩
  have hX0 : 0 ≤ X := by rw [← hX]; exact mixI_nonneg _ _
  have hm := mixed_0 d0 d1 v0 v1 ls sd A n c dir m
  have hl2 : decide (X % 1000 < ls) = true := by rw [← hX]; exact hl.out
  rw [hX] at hm
  have s1 : X.tmod 1000 = X % 1000 := Int.tmod_eq_emod_of_nonneg hX0
  have s2 : IntKind.i64.wrap (X % 1000) = X % 1000 := IntWalk.i64_in _ (by omega)
  have HM := Lib.hid hm
  clear hm hX
  go_enter Try.func22, Try.ntmps22
  go_wp2_with fail
  go_region_held3 (fun w' => w'.cell? ⟨w.heap.size, 0, none⟩ = some (.int .i64 d0) ∧ w'.cell? ⟨w.heap.size, 1, none⟩ = some (.int .i64 d1) ∧ w'.cell? ⟨w.heap.size, 2, none⟩ = some (.int .i64 v0) ∧ w'.cell? ⟨w.heap.size, 3, none⟩ = some (.int .i64 v1) ∧ w'.cell? ⟨w.heap.size, 4, none⟩ = some (.int .i64 ls) ∧ w'.cell? ⟨w.heap.size, 5, none⟩ = some (.int .u64 sd) ∧ w'.cell? ⟨w.heap.size, 6, none⟩ = some (.slice A n c)) (first | go_keep | exact lk_cells hB)
    (first
      | (go_at_call 28; (with_reducible refine (right_b (by exact hL.drew) H).mono ?_); rintro e x1 ⟨rfl, f1⟩; replace hL := hL.drew.frm f1; replace hF := hF.drew.trans f1 (fun _ _ e => e); replace hB := hB.drew.frm f1 (fun e => e))
      | (go_at_call 29; (with_reducible refine (HM.out _ h1 h2).mono ?_); rintro e x1 ⟨rfl, f1⟩; replace hL := hL.frm f1; replace hF := hF.trans f1 (fun _ _ e => e); replace hB := hB.frm f1 (fun e => e)))
  go_wp2
  go_ret2
  exact ⟨rfl, hF⟩

set_option maxHeartbeats 8000000 in
theorem arrive_ok (hL : LC w A n B cs) (H : Hid (vld d0 d1 v0 v1 ls cs dir at_ m = true)) (hl : Hid (lost sd ls dir m = false))
    (h1 : 0 ≤ dir ∧ dir ≤ 1) (h2 : 0 ≤ m ∧ m ≤ 1099511627776) (h3 : 0 ≤ at_ ∧ at_ ≤ 1125899906842624) :
    Calls Try.prog 22 #[.agg #[.int .i64 d0, .int .i64 d1, .int .i64 v0, .int .i64 v1, .int .i64 ls, .int .u64 sd, .slice A n c], .int .i64 dir, .int .i64 at_, .int .i64 m] w fun e w' =>
      e = .returned (.tuple #[.int .i64 (at_ + delayF d0 d1 v0 v1 ls cs dir at_ + noiseF d0 d1 v0 v1 ls sd cs dir m), .bool true]) ∧ Frm w w' NoB := by
  have hF : Frm w (w.alloc (.cells (LkCells d0 d1 v0 v1 ls sd A n c) 26)) NoB := (Frm.refl w _).alloc _
  have hB : Blk (w.alloc (.cells (LkCells d0 d1 v0 v1 ls sd A n c) 26)) w.heap.size 26 (LkCells d0 d1 v0 v1 ls sd A n c) := Blk.new _ _ _
  replace hL := hL.alloc (.cells (LkCells d0 d1 v0 v1 ls sd A n c) 26)
  have b0 := delayF_bounds d0 d1 v0 v1 ls cs dir at_
  have b1 := noiseF_bounds d0 d1 v0 v1 ls sd cs dir m
  obtain ⟨x, hx⟩ : ∃ x, delayF d0 d1 v0 v1 ls cs dir at_ = x := ⟨_, rfl⟩
  obtain ⟨y, hy⟩ : ∃ y, noiseF d0 d1 v0 v1 ls sd cs dir m = y := ⟨_, rfl⟩
  rw [hx] at b0 ⊢
  rw [hy] at b1 ⊢
  have Hx := Lib.hid hx
  have Hy := Lib.hid hy
  have t1 : IntKind.i64.wrap (at_ + x) = at_ + x := IntWalk.i64_in _ (by omega)
  have t2 : IntKind.i64.wrap (at_ + x + y) = at_ + x + y := IntWalk.i64_in _ (by omega)
  obtain ⟨X, hX⟩ : ∃ X, mixI sd (4 * m + 2 * dir) = X := ⟨_, rfl⟩
  have hX0 : 0 ≤ X := by rw [← hX]; exact mixI_nonneg _ _
  have hm := mixed_0 d0 d1 v0 v1 ls sd A n c dir m
  have hl2 : decide (X % 1000 < ls) = false := by rw [← hX]; exact hl.out
  rw [hX] at hm
  have s1 : X.tmod 1000 = X % 1000 := Int.tmod_eq_emod_of_nonneg hX0
  have s2 : IntKind.i64.wrap (X % 1000) = X % 1000 := IntWalk.i64_in _ (by omega)
  have HM := Lib.hid hm
  clear hm hX hx hy
  go_enter Try.func22, Try.ntmps22
  go_wp2_with fail
  go_region_held3 (fun w' => w'.cell? ⟨w.heap.size, 0, none⟩ = some (.int .i64 d0) ∧ w'.cell? ⟨w.heap.size, 1, none⟩ = some (.int .i64 d1) ∧ w'.cell? ⟨w.heap.size, 2, none⟩ = some (.int .i64 v0) ∧ w'.cell? ⟨w.heap.size, 3, none⟩ = some (.int .i64 v1) ∧ w'.cell? ⟨w.heap.size, 4, none⟩ = some (.int .i64 ls) ∧ w'.cell? ⟨w.heap.size, 5, none⟩ = some (.int .u64 sd) ∧ w'.cell? ⟨w.heap.size, 6, none⟩ = some (.slice A n c)) (first | go_keep | exact lk_cells hB)
    (first
      | (go_at_call 28; (with_reducible refine (right_b (by exact hL.drew) H).mono ?_); rintro e x1 ⟨rfl, f1⟩; replace hL := hL.drew.frm f1; replace hF := hF.drew.trans f1 (fun _ _ e => e); replace hB := hB.drew.frm f1 (fun e => e))
      | (go_at_call 29; (with_reducible refine (HM.out _ h1 h2).mono ?_); rintro e x1 ⟨rfl, f1⟩; replace hL := hL.frm f1; replace hF := hF.trans f1 (fun _ _ e => e); replace hB := hB.frm f1 (fun e => e)))
  go_wp2_with fail
  have hK := lk_cells hB
  go_region_held3 (fun w' => w'.cell? ⟨w.heap.size, 0, none⟩ = some (.int .i64 d0) ∧ w'.cell? ⟨w.heap.size, 1, none⟩ = some (.int .i64 d1) ∧ w'.cell? ⟨w.heap.size, 2, none⟩ = some (.int .i64 v0) ∧ w'.cell? ⟨w.heap.size, 3, none⟩ = some (.int .i64 v1) ∧ w'.cell? ⟨w.heap.size, 4, none⟩ = some (.int .i64 ls) ∧ w'.cell? ⟨w.heap.size, 5, none⟩ = some (.int .u64 sd) ∧ w'.cell? ⟨w.heap.size, 6, none⟩ = some (.slice A n c)) (first | go_keep | exact lk_cells hB)
    (first
      | (go_at_call 14; (with_reducible refine (delay_b (by exact hL.drew) Hx).mono ?_); rintro e x1 ⟨rfl, f1⟩; replace hL := hL.drew.frm f1; replace hF := hF.drew.trans f1 (fun _ _ e => e); replace hB := hB.drew.frm f1 (fun e => e))
      | (go_at_call 18; (with_reducible refine (noise_b (by exact hL) Hy).mono ?_); rintro e x1 ⟨rfl, f1⟩; replace hL := hL.frm f1; replace hF := hF.trans f1 (fun _ _ e => e); replace hB := hB.frm f1 (fun e => e)))
  go_wp2
  go_ret2
  exact ⟨rfl, hF⟩
theorem arrive_t (hL : LC w A n B cs) :
    Calls Try.prog 22 #[.agg #[.int .i64 d0, .int .i64 d1, .int .i64 v0, .int .i64 v1, .int .i64 ls, .int .u64 sd, .slice A n c], .int .i64 dir, .int .i64 at_, .int .i64 m] w fun e w' =>
      e = .returned (.tuple #[.int .i64 (arrT d0 d1 v0 v1 ls sd cs dir at_ m), .bool (arrB d0 d1 v0 v1 ls sd cs dir at_ m)]) ∧ Frm w w' NoB := by
  cases h : vld d0 d1 v0 v1 ls cs dir at_ m
  · have e1 : arrB d0 d1 v0 v1 ls sd cs dir at_ m = false := by unfold arrB; rw [h]; rfl
    have e2 : arrT d0 d1 v0 v1 ls sd cs dir at_ m = 0 := by unfold arrT; rw [e1]; rfl
    rw [e1, e2]
    exact arrive_no d0 d1 v0 v1 ls sd A n c B cs dir at_ m w hL h
  · obtain ⟨_, h1, h3, h2⟩ := vld_iff.1 h
    cases hl : lost sd ls dir m
    · have e1 : arrB d0 d1 v0 v1 ls sd cs dir at_ m = true := by unfold arrB; rw [h, hl]; rfl
      have e2 : arrT d0 d1 v0 v1 ls sd cs dir at_ m = at_ + delayF d0 d1 v0 v1 ls cs dir at_ + noiseF d0 d1 v0 v1 ls sd cs dir m := by unfold arrT; rw [if_pos e1]
      rw [e1, e2]
      exact arrive_ok d0 d1 v0 v1 ls sd A n c B cs dir at_ m w hL h hl h1 h2 h3
    · have e1 : arrB d0 d1 v0 v1 ls sd cs dir at_ m = false := by unfold arrB; rw [h, hl]; rfl
      have e2 : arrT d0 d1 v0 v1 ls sd cs dir at_ m = 0 := by unfold arrT; rw [e1]; rfl
      rw [e1, e2]
      exact arrive_lost d0 d1 v0 v1 ls sd A n c B cs dir at_ m w hL h hl h1 h2
end
end Go.Proofs.Ytchmaecakjeceaa
