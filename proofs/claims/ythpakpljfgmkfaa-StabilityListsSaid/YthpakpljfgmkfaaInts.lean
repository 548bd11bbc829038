/- Slices of ints: what it means that one reads as a list, and that slices.Equal compares the lists. -/
import Derived.Test.YthpakpljfgmkfaaBase
namespace Go.Proofs.Ythpakpljfgmkfaa
open Go.RowKit

/-- The cells of a list of ints. -/
def cel (l : List Int) : Array Value := (l.map (Value.int .i64)).toArray
theorem cel_get (l : List Int) (j : Nat) (h : j < l.length) : (cel l)[j]? = some (.int .i64 (l.getD j 0)) := by
  simp [cel, h]
theorem cel_set (l : List Int) (j : Nat) (x : Int) : (cel l).setIfInBounds j (.int .i64 x) = cel (l.set j x) := by
  simp [cel, List.map_set]
theorem cel_size (l : List Int) : (cel l).size = l.length := by simp [cel]
theorem cel_replicate (n : Nat) : Array.replicate n (Value.int .i64 0) = cel (List.replicate n 0) := by
  simp [cel]

/-- A slice at A reads as the list xs, in memory below block B. -/
def RdI (w : World) (B : Nat) (A : Option Addr) (xs : List Int) : Prop :=
  xs = [] ∨ ∃ b o, A = some ⟨b, o, none⟩ ∧ b < B ∧ ∀ j, j < xs.length → w.cell? ⟨b, o + j, none⟩ = some (.int .i64 (xs.getD j 0))

section
variable {w w' : World} {B : Nat} {A : Option Addr} {xs : List Int} {S : Nat → Prop}
theorem RdI.frm (h : RdI w B A xs) (hf : Frm w w' S) (hB : B ≤ w.heap.size) (hS : ∀ i, i < B → ¬ S i) : RdI w' B A xs := by
  rcases h with h | ⟨b, o, h1, h2, h3⟩
  · exact .inl h
  · exact .inr ⟨b, o, h1, h2, fun j hj => (hf.cell (p := ⟨b, o + j, none⟩) (Nat.lt_of_lt_of_le h2 hB) (hS b h2)).trans (h3 j hj)⟩
theorem RdI.frm0 (h : RdI w B A xs) (hf : Frm w w' NoB) (hB : B ≤ w.heap.size) : RdI w' B A xs := h.frm hf hB (fun _ _ h => h)
theorem RdI.more (h : RdI w B A xs) {B' : Nat} (hB : B ≤ B') : RdI w B' A xs := by
  rcases h with h | ⟨b, o, h1, h2, h3⟩
  · exact .inl h
  · exact .inr ⟨b, o, h1, by omega, h3⟩
theorem RdI.pos (h : RdI w B A xs) (hx : 0 < xs.length) : ∃ b o, A = some ⟨b, o, none⟩ ∧ b < B ∧ ∀ j, j < xs.length → w.cell? ⟨b, o + j, none⟩ = some (.int .i64 (xs.getD j 0)) := by
  rcases h with h | h
  · subst h; simp at hx
  · exact h
theorem RdI.of_blk {g : Nat} {t : TypeId} (h : Blk w g t (cel xs)) : RdI w (g + 1) (some ⟨g, 0, none⟩) xs :=
  .inr ⟨g, 0, rfl, by omega, fun j hj => by rw [Nat.zero_add]; exact h.cellIs (cel_get xs j hj)⟩
end

theorem madeCells_int (n : Nat) : madeCells (Value.cells (.int .i64 0)) (n * 1) = cel (List.replicate n 0) := by
  rw [← cel_replicate]
  apply Array.ext
  · simp [madeCells]
  · intro i h1 h2
    simp [madeCells, Value.cells, Nat.mod_one]
theorem int_info : (Try.prog.info? 3).map (fun i => (i.zero, i.size, i.bytes)) = some (some (.int .i64 0), 1, 8) := by kernel_rfl
/-- make([]int, n) of a number n: a block of n zeros. -/
theorem make_ints (n : Nat) (hn : n ≤ 17592186044416) (w : World) :
    (Instr.makeSlice 23 (.int .i64 (n : Int)) (.int .i64 (n : Int))).run Try.prog w = .ok (.slice (some ⟨w.heap.size, 0, none⟩) n n) (w.alloc (.cells (cel (List.replicate n 0)) 3)) := by
  obtain ⟨i0, hi, hz0, hz1, hz2⟩ := info_parts int_info
  have h := run_make (P := Try.prog) w 23 3 i0 _ Try.underlying23 hi hz0 .i64 .i64 (n : Int) (n : Int) (by omega) (by omega) (by rw [hz2]; omega) (by omega)
  rw [hz1, Int.toNat_natCast, madeCells_int] at h
  exact h

/-- The two lists agree in their first k places. -/
def agree (xs ys : List Int) (k : Nat) : Prop := ∀ j, j < k → xs.getD j 0 = ys.getD j 0
theorem agree_all {xs ys : List Int} (h : agree xs ys xs.length) (hl : xs.length = ys.length) : xs = ys := by
  apply List.ext_getElem hl
  intro j h1 h2
  have := h j h1
  simpa [List.getD_eq_getElem?_getD, h1, h2] using this

theorem agree_not {xs ys : List Int} {k : Nat} (h : xs.getD k 0 ≠ ys.getD k 0) : xs ≠ ys := fun e => h (by rw [e])
theorem agree_succ {xs ys : List Int} {k : Nat} (h : agree xs ys k) (e : xs.getD k 0 = ys.getD k 0) : agree xs ys (k + 1) := fun j hj => by
  rcases Nat.lt_or_ge j k with h1 | h1
  · exact h j h1
  · have : j = k := by omega
    subst this; exact e

set_option maxHeartbeats 1000000 in
theorem eql_same (A B : Option Addr) (n c d bA bB : Nat) (xs ys : List Int) (w : World) (hn : n ≤ 140737488351232)
    (HX : Hid (xs.length = n)) (HY : Hid (ys.length = n))
    (hA : RdI w bA A xs) (hB : RdI w bB B ys) (hbA : bA ≤ w.heap.size) (hbB : bB ≤ w.heap.size) :
    Calls Try.prog 19 #[.slice A n c, .slice B n d] w fun e w' => e = .returned (.bool (decide (xs = ys))) ∧ Frm w w' NoB := by
  go_enter Try.func19, Try.ntmps19
  go_wp2
  go_loopw [13] (fun i wr => ∃ k : Nat, k ≤ n ∧ i = .int .i64 k ∧ agree xs ys k ∧ Frm w wr NoB) (fun i _ => n - (intOf i).toNat)
  case atStart => exact ⟨0, Nat.zero_le _, rfl, fun _ h => by omega, Frm.refl _ _⟩
  case round =>
    obtain ⟨k, hk, rfl, hag, hf⟩ := hrel
    have Hag := Lib.hid hag
    clear hag
    have hA' := hA.frm0 hf hbA
    have hB' := hB.frm0 hf hbB
    by_cases hlt : k < n
    · obtain ⟨b, o, rfl, _, hcA⟩ := hA'.pos (by rw [HX.out]; omega)
      obtain ⟨b', o', rfl, _, hcB⟩ := hB'.pos (by rw [HY.out]; omega)
      obtain ⟨x, hx⟩ : ∃ x, x = xs.getD k 0 := ⟨_, rfl⟩
      obtain ⟨y, hy⟩ : ∃ y, y = ys.getD k 0 := ⟨_, rfl⟩
      have cA : wr.cell? ⟨b, o + k, none⟩ = some (.int .i64 x) := by rw [hx]; exact hcA k (by rw [HX.out]; omega)
      have cB : wr.cell? ⟨b', o' + k, none⟩ = some (.int .i64 y) := by rw [hy]; exact hcB k (by rw [HY.out]; omega)
      have Hx := Lib.hid hx
      have Hy := Lib.hid hy
      clear hx hy
      have hk0 : (0 : Int) ≤ (k : Int) := Int.natCast_nonneg _
      have hk1 : (k : Int) < (n : Int) := by omega
      clear hcA hcB hA' hB' hA hB
      by_cases hxy : x = y
      · have hb : (x != y) = false := by rw [hxy]; simp
        have HX1 := Lib.hid hxy
        clear hxy
        go_wp2
        go_quiet (fail)
        go_wp2
        go_roundw
        case rel => exact ⟨k + 1, by omega, by go_num, agree_succ Hag.out (by rw [← Hx.out, ← Hy.out]; exact HX1.out), hf.drewN _⟩
        case measure => simp [intOf]; omega
      · have hb : (x != y) = true := by rw [bne_iff_ne]; exact hxy
        have HN := Lib.hid hxy
        clear hxy
        go_wp2
        go_quiet (fail)
        go_wp2
        go_ret
        refine ⟨?_, hf.drewN _⟩
        rw [decide_eq_false (agree_not (k := k) (by rw [← Hx.out, ← Hy.out]; exact HN.out))]
        rfl
    · have hkn : k = n := by omega
      have HN := Lib.hid hkn
      clear hkn
      clear hA' hB' hA hB
      go_wp2
      go_ret
      refine ⟨?_, hf⟩
      rw [decide_eq_true (agree_all (by rw [HX.out, ← HN.out]; exact Hag.out) (by rw [HX.out, HY.out]))]
      rfl

theorem eql_t (A B : Option Addr) (c d bA bB : Nat) (xs ys : List Int) (w : World) (hn : xs.length ≤ 140737488351232)
    (hA : RdI w bA A xs) (hB : RdI w bB B ys) (hbA : bA ≤ w.heap.size) (hbB : bB ≤ w.heap.size) :
    Calls Try.prog 19 #[.slice A xs.length c, .slice B ys.length d] w fun e w' => e = .returned (.bool (decide (xs = ys))) ∧ Frm w w' NoB := by
  by_cases hl : xs.length = ys.length
  · rw [← hl]
    exact eql_same A B _ c d bA bB xs ys w hn rfl hl.symm hA hB hbA hbB
  · have hlb : (((xs.length : Nat) : Int) != ((ys.length : Nat) : Int)) = true := by rw [bne_iff_ne]; omega
    have hne : decide (xs = ys) = false := by
      rw [decide_eq_false_iff_not]; intro h; exact hl (by rw [h])
    rw [hne]
    go_enter Try.func19, Try.ntmps19
    go_wp2
    go_ret
    exact ⟨rfl, Frm.refl _ _⟩
end Go.Proofs.Ythpakpljfgmkfaa
