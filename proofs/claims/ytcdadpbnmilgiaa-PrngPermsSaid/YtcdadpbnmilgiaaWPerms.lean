/- PrngPerms returns true, whatever the numbers. -/
import Derived.Test.YtcdadpbnmilgiaaW6
namespace Go.Proofs.Ytcdadpbnmilgiaa
open Go.RowKit PrngPure

/-- The cells of a list of bools. -/
def celb (l : List Bool) : Array Value := (l.map Value.bool).toArray
theorem celb_get (l : List Bool) (j : Nat) (h : j < l.length) : (celb l)[j]? = some (.bool (l.getD j false)) := by simp [celb, h]
theorem celb_set (l : List Bool) (j : Nat) (x : Bool) : (celb l).setIfInBounds j (.bool x) = celb (l.set j x) := by simp [celb, List.map_set]
theorem bool_info : (Try.prog.info? 4).map (fun i => (i.zero, i.size, i.bytes)) = some (some (.bool false), 1, 1) := by kernel_rfl
theorem madeCells_bool (n : Nat) : madeCells (Value.cells (.bool false)) (n * 1) = celb (List.replicate n false) := by
  apply Array.ext
  · simp [madeCells, celb]
  · intro i h1 h2
    simp [madeCells, Value.cells, Nat.mod_one, celb]
theorem make_bools (n : Nat) (hn : n ≤ 17592186044416) (w : World) :
    (Instr.makeSlice 37 (.int .i64 (n : Int)) (.int .i64 (n : Int))).run Try.prog w = .ok (.slice (some ⟨w.heap.size, 0, none⟩) n n) (w.alloc (.cells (celb (List.replicate n false)) 4)) := by
  obtain ⟨i0, hi, hz0, hz1, hz2⟩ := info_parts bool_info
  have h := run_make (P := Try.prog) w 37 4 i0 _ Try.underlying37 hi hz0 .i64 .i64 (n : Int) (n : Int) (by omega) (by omega) (by rw [hz2]; omega) (by omega)
  rw [hz1, Int.toNat_natCast, madeCells_bool] at h
  exact h

/-- Which of the numbers below n are among the first k of L. -/
def sn (L : List Int) (n k : Nat) : List Bool := (List.range n).map fun j : Nat => decide ((j : Int) ∈ L.take k)
theorem sn_length (L : List Int) (n k : Nat) : (sn L n k).length = n := by simp [sn]
theorem sn_zero (L : List Int) (n : Nat) : sn L n 0 = List.replicate n false := by apply List.ext_getElem <;> simp [sn]
theorem sn_get (L : List Int) (n k X : Nat) (hX : X < n) : (sn L n k).getD X false = decide ((X : Int) ∈ L.take k) := by simp [sn, hX]
theorem sn_succ (L : List Int) (n k X : Nat) (hk : k < L.length) (hX : (X : Int) = L.getD k 0) : (sn L n k).set X true = sn L n (k + 1) := by
  apply List.ext_getElem
  · simp [sn]
  · intro j h1 h2
    have e : L.take (k + 1) = L.take k ++ [(X : Int)] := by
      rw [List.take_add_one, List.getElem?_eq_getElem hk, hX]; simp [hk]
    simp only [sn, List.getElem_set, List.getElem_map, List.getElem_range, e, List.mem_append, List.mem_singleton]
    by_cases hj : X = j
    · subst hj; simp
    · rw [if_neg hj]
      have : ¬ (j : Int) = (X : Int) := by omega
      simp [this]
theorem nodup_fresh (L : List Int) (k : Nat) (hk : k < L.length) (hd : L.Nodup) : ¬ L.getD k 0 ∈ L.take k := by
  intro h
  rw [List.getD_eq_getElem?_getD, List.getElem?_eq_getElem hk] at h
  obtain ⟨i, hi, e⟩ := List.getElem_of_mem h
  rw [List.length_take] at hi
  rw [List.getElem_take] at e
  exact (List.pairwise_iff_getElem.1 hd) i k (by omega) hk (by omega) e

section
variable {w0 w w' : World} {g h : Nat} {s c t d : Int}
theorem Duo.put (k : Duo w0 w g s c h t d) {p : Nat} (h1 : g ≠ p) (h2 : h ≠ p) (h3 : w0.heap.size ≤ p) (o : Nat) (u : Value) : Duo w0 (w.setCell ⟨p, o, none⟩ u) g s c h t d :=
  ⟨k.b1.away h1 _ _, k.b2.away h2 _ _, k.ne, k.l1, k.l2, k.f.put (fun e => by omega) _ _⟩
theorem Duo.alloc (k : Duo w0 w g s c h t d) (o : Obj) : Duo w0 (w.alloc o) g s c h t d :=
  ⟨k.b1.alloc _, k.b2.alloc _, k.ne, k.l1, k.l2, k.f.alloc _⟩
theorem Duo.drew (k : Duo w0 w g s c h t d) : Duo w0 w.drew g s c h t d := ⟨k.b1, k.b2, k.ne, k.l1, k.l2, k.f.drew⟩
theorem Duo.drewN (k : Duo w0 w g s c h t d) (n : Nat) : Duo w0 (w.drewN n) g s c h t d := ⟨k.b1, k.b2, k.ne, k.l1, k.l2, k.f.drewN n⟩
end

set_option maxHeartbeats 2000000 in
theorem perms_no (a0 a1 : Int) (w : World) (h : a1 < 1 ∨ 4096 < a1) :
    Calls Try.prog 7 #[.int .u64 a0, .int .i64 a1] w fun e w' => e = .returned (.bool true) ∧ Frm w w' NoB := by
  rcases h with h | h
  all_goals
    go_enter Try.func7, Try.ntmps7
    go_wp2_with (first
      | (go_at_call 14; (with_reducible refine (new_t _ w).mono ?_); rintro e x1 ⟨rfl, b1, f1⟩)
      | (go_at_call 14; (with_reducible refine (new_t _ x1).mono ?_); rintro e x2 ⟨rfl, b2, f2⟩; have hD := duo_new _ _ _ _ _ b1 f1 b2 f2)
      | (go_at_call 18; (with_reducible refine (perm_no _ _ _ (.inr (by omega))).mono ?_); rintro e x3 ⟨rfl, rfl⟩)
      | (go_at_call 15; (with_reducible refine (duo_next1 hD).mono ?_); rintro e x3 ⟨rfl, hD⟩)
      | (go_at_call 15; (with_reducible refine (duo_next2 hD).mono ?_); rintro e x3 ⟨rfl, hD⟩)
      | (go_at_call 13; (with_reducible refine (duo_awake hD).mono ?_); rintro e x3 ⟨rfl, hD⟩))
    go_ret
    exact ⟨rfl, hD.f⟩

set_option maxRecDepth 100000 in
set_option maxHeartbeats 4000000 in
theorem perms_yes (a0 : Int) (n : Nat) (w : World) (h1 : 1 ≤ n) (h2 : n ≤ 4096) :
    Calls Try.prog 7 #[.int .u64 a0, .int .i64 n] w fun e w' => e = .returned (.bool true) ∧ Frm w w' NoB := by
  obtain ⟨L, hL⟩ : ∃ L, L = (prm a0 0 n).1 := ⟨_, rfl⟩
  obtain ⟨C, hC⟩ : ∃ C, C = (prm a0 0 n).2 := ⟨_, rfl⟩
  have honce := permGo_once (pk a0) sc (fun c i hi => pk_le a0 c i hi) n h2 0
  obtain ⟨hLn, hnd, hrg⟩ : L.length = n ∧ L.Nodup ∧ ∀ x ∈ L, 0 ≤ x ∧ x < n := by rw [hL]; exact honce
  have hmb := make_bools n (by omega)
  have hmi := make_ints n (by omega)
  have HL := Lib.hid hL
  have HC := Lib.hid hC
  have HLn := Lib.hid hLn
  have Hnd := Lib.hid hnd
  have Hrg := Lib.hid hrg
  clear hL hC honce hLn hnd hrg
  go_enter Try.func7, Try.ntmps7
  go_wp2_with (first
    | (go_at_call 14; (with_reducible refine (new_t _ w).mono ?_); rintro e x1 ⟨rfl, b1, f1⟩)
    | (go_at_call 14; (with_reducible refine (new_t _ x1).mono ?_); rintro e x2 ⟨rfl, b2, f2⟩; have hD := duo_new _ _ _ _ _ b1 f1 b2 f2)
    | (go_at_call 18; (with_reducible refine (perm_yes _ n _ _ _ h1 h2 hD.b1).mono ?_); rintro e x3 ⟨b, rfl, hb, hbL, hs3, f3⟩; have hD := hD.left hs3 f3))
  have l1 := b1.lt
  have l2 := b2.lt
  have l3 := hbL.lt
  clear b1 f1 b2 f2 hs3 f3
  go_loopw [55] (fun i wr => ∃ k : Nat, k ≤ n ∧ i = .int .i64 k ∧ Duo w wr w.heap.size a0 C x1.heap.size a0 0 ∧ Blk wr b 3 (cel L) ∧ Blk wr x3.heap.size 4 (celb (sn L n k))) (fun i _ => n - (intOf i).toNat)
  case atStart => exact ⟨0, Nat.zero_le _, rfl, by rw [HC.out]; exact hD.alloc _, by rw [HL.out]; exact hbL.alloc _, by rw [sn_zero]; exact Blk.new _ _ _⟩
  case round =>
    clear hD hbL
    obtain ⟨k, hk, rfl, hD, hbL, hbs⟩ := hrel
    by_cases hlt : k < n
    · have hx := Hrg.out (L.getD k 0) (by rw [List.getD_eq_getElem?_getD, List.getElem?_eq_getElem (by rw [HLn.out]; exact hlt)]; simp)
      obtain ⟨X, hX⟩ := Int.eq_ofNat_of_zero_le hx.1
      have hXn : X < n := by omega
      have hfr : sn L n k = sn L n k := rfl
      have cL : wr.cell? ⟨b, k, none⟩ = some (.int .i64 (X : Int)) := by rw [← hX]; exact hbL.cellIs (cel_get _ _ (by rw [HLn.out]; exact hlt))
      have cS : wr.cell? ⟨x3.heap.size, X, none⟩ = some (.bool false) := by
        have h := hbs.cellIs (celb_get _ X (by rw [sn_length]; exact hXn))
        rw [sn_get L n k X hXn, ← hX, decide_eq_false (nodup_fresh L k (by rw [HLn.out]; exact hlt) Hnd.out)] at h
        exact h
      have zS := hbs.frozen X
      have HX := Lib.hid hX
      clear hX hx hfr
      go_wp2
      go_roundw
      case rel => exact ⟨k + 1, by omega, by go_num, hD.put (by omega) (by omega) (by omega) _ _, hbL.away (by omega) _ _, by rw [← sn_succ L n k X (by rw [HLn.out]; exact hlt) HX.out.symm, ← celb_set]; exact hbs.put X _⟩
      case measure => simp [intOf]; omega
    · clear hbs
      go_wp2
      obtain ⟨wa, rfl⟩ : ∃ wo : World, wo = wr := ⟨_, rfl⟩
      have l4 := hbL.lt
      have l5 := hD.b2.lt
      have l6 := hD.b1.lt
      have l7 := hD.f.size
      go_loopw [80] (fun i wr => ∃ k : Nat, k ≤ n ∧ i = .int .i64 k ∧ Duo w wr w.heap.size a0 C x1.heap.size a0 0 ∧ Blk wr b 3 (cel L) ∧ Blk wr wa.heap.size 3 (cel (fl n k))) (fun i _ => n - (intOf i).toNat)
      case atStart => exact ⟨0, Nat.zero_le _, rfl, hD.alloc _, hbL.alloc _, by rw [fl_zero]; exact Blk.new _ _ _⟩
      case round =>
        clear hD hbL
        obtain ⟨k2, hk2, rfl, hD, hbL, hbs⟩ := hrel
        by_cases hlt2 : k2 < n
        · have c1 : wr.cell? ⟨wa.heap.size, k2, none⟩ = some (.int .i64 ((fl n k2).getD k2 0)) := hbs.cellIs (cel_get _ _ (by rw [fl_length]; omega))
          have z1 := hbs.frozen k2
          go_wp2
          go_roundw
          case rel => exact ⟨k2 + 1, by omega, by go_num, hD.put (by omega) (by omega) (by omega) _ _, hbL.away (by omega) _ _, by rw [← fl_succ, ← cel_set]; exact hbs.put k2 _⟩
          case measure => simp [intOf]; omega
        · have hkn : k2 = n := by omega
          have hb' : Blk wr wa.heap.size 3 (cel (fl n n)) := hkn ▸ hbs
          clear hkn hbs
          go_wp2
          obtain ⟨wb, rfl⟩ : ∃ wo : World, wo = wr := ⟨_, rfl⟩
          go_loopw [13] (fun i wr => ∃ (j : Nat) (c' : Int) (l : List Int), j < n ∧ i = .int .i64 j ∧ l.length = n ∧ permGo (pk a0) sc j c' l = prm a0 0 n ∧ Duo w wr w.heap.size a0 C x1.heap.size a0 c' ∧ Blk wr b 3 (cel L) ∧ Blk wr wa.heap.size 3 (cel l)) (fun i _ => (intOf i).toNat)
          case atStart => exact ⟨n - 1, 0, fl n n, by omega, by go_num, fl_length _ _, rfl, hD, hbL, hb'⟩
          case round =>
            clear hD hbL hb'
            obtain ⟨j, c', l, hj, rfl, hl, hp, hD, hbL, hb⟩ := hrel
            have Hl := Lib.hid hl
            have Hp := Lib.hid hp
            clear hl hp
            by_cases h0 : 1 ≤ j
            · obtain ⟨q, hq⟩ : ∃ q, q = pk a0 c' j := ⟨_, rfl⟩
              have hqj : q ≤ j := by rw [hq]; exact pk_le a0 c' j (by omega)
              have hcall := below_pk x1.heap.size j a0 c' wr (by omega) hD.b2
              rw [← hq] at hcall
              have Hq := Lib.hid hq
              have Hc := Lib.hid hcall
              clear hq hcall
              go_wp2_with (go_at_call 16; refine Hc.out.mono ?_; rintro e y1 ⟨rfl, hg1, f1⟩)
              have hD := hD.right hg1 f1
              have hbL := hbL.frm f1 (by omega)
              have hb1 : Blk y1 wa.heap.size 3 (cel l) := hb.frm f1 (by omega)
              obtain ⟨x, hx⟩ : ∃ x, x = l.getD j 0 := ⟨_, rfl⟩
              obtain ⟨y, hy⟩ : ∃ y, y = l.getD q 0 := ⟨_, rfl⟩
              have cj : y1.cell? ⟨wa.heap.size, j, none⟩ = some (.int .i64 x) := by rw [hx]; exact hb1.cellIs (cel_get _ _ (by rw [Hl.out]; omega))
              have cq : y1.cell? ⟨wa.heap.size, q, none⟩ = some (.int .i64 y) := by rw [hy]; exact hb1.cellIs (cel_get _ _ (by rw [Hl.out]; omega))
              have zj := hb1.frozen j
              have zq := hb1.frozen q
              have Hx := Lib.hid hx
              have Hy := Lib.hid hy
              clear hx hy
              have hj0 : (0 : Int) ≤ (j : Int) := Int.natCast_nonneg _
              have hj1 : (j : Int) < (n : Int) := by omega
              have hq0 : (0 : Int) ≤ (q : Int) := Int.natCast_nonneg _
              have hq1 : (q : Int) < (n : Int) := by omega
              obtain ⟨v', hv'⟩ := cell?_setCell_some (w := y1) (p := ⟨wa.heap.size, j, none⟩) (x := .int .i64 y) (q := ⟨wa.heap.size, q, none⟩) (v := .int .i64 y) (by go_simp)
              have hb2 : Blk ((y1.setCell ⟨wa.heap.size, j, none⟩ (.int .i64 y)).setCell ⟨wa.heap.size, q, none⟩ (.int .i64 x)) wa.heap.size 3 (cel (swp l j q)) := by
                have e : swp l j q = (l.set j y).set q x := by unfold swp; rw [Hx.out, Hy.out]
                rw [e, ← cel_set, ← cel_set]
                exact (hb1.put j (.int .i64 y)).put q (.int .i64 x)
              have hD2 := (hD.put (p := wa.heap.size) (by omega) (by omega) (by omega) j (.int .i64 y)).put (p := wa.heap.size) (by omega) (by omega) (by omega) q (.int .i64 x)
              have hbL2 := (hbL.away (b := wa.heap.size) (by omega) j (.int .i64 y)).away (b := wa.heap.size) (by omega) q (.int .i64 x)
              go_wp2
              go_region
              go_wp2
              go_roundw
              case rel =>
                obtain ⟨i, rfl⟩ : ∃ i, j = i + 1 := ⟨j - 1, by omega⟩
                exact ⟨i, sc c', swp l (i + 1) q, by omega, by go_num, by rw [swp_length]; exact Hl.out, by rw [← Hp.out, Hq.out]; rfl, hD2.drew, hbL2.drew, hb2.drew⟩
              case measure => simp [intOf]; omega
            · obtain rfl : j = 0 := by omega
              have hp := Hp.out
              unfold permGo at hp
              have e1 : l = L := by rw [HL.out, ← hp]
              have e2 : c' = C := by rw [HC.out, ← hp]
              subst e1
              subst e2
              clear hp
              go_wp2_with (first
                | (go_at_call 19; refine (eql_same _ _ n n n (b + 1) (wa.heap.size + 1) l l _ (by omega) HLn HLn (RdI.of_blk hbL) (RdI.of_blk hb) hbL.lt hb.lt).mono ?_; rintro e x3 ⟨rfl, f1⟩; have hD := hD.keep f1)
                | (go_at_call 15; (with_reducible refine (duo_next1 hD).mono ?_); rintro e x3 ⟨rfl, hD⟩)
                | (go_at_call 15; (with_reducible refine (duo_next2 hD).mono ?_); rintro e x3 ⟨rfl, hD⟩)
                | (go_at_call 13; (with_reducible refine (duo_awake hD).mono ?_); rintro e x3 ⟨rfl, hD⟩))
              go_ret
              exact ⟨rfl, hD.f⟩

theorem prngPerms_walk (a0 a1 : Int) (_w0 : (Lit.int .u64 a0).wf = true) (_w1 : (Lit.int .i64 a1).wf = true) (w : World) :
    Calls Try.prog 7 #[.int .u64 a0, .int .i64 a1] w fun e w' => e = .returned (.bool true) ∧ Frm w w' NoB := by
  by_cases h : a1 < 1 ∨ 4096 < a1
  · exact perms_no a0 a1 w h
  · obtain ⟨n, rfl⟩ := Int.eq_ofNat_of_zero_le (show 0 ≤ a1 by omega)
    exact perms_yes a0 n w (by omega) (by omega)
end Go.Proofs.Ytcdadpbnmilgiaa
