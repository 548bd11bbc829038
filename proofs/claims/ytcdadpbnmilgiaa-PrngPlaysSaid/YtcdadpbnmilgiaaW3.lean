/- What Perm of the program and of the reference do. -/
import Derived.Test.YtcdadpbnmilgiaaW2
import Derived.Test.YtcdadpbnmilgiaaInts
import Derived.Test.YtcdadpbnmilgiaaPermPure
namespace Go.Proofs.Ytcdadpbnmilgiaa
open Go.RowKit PrngPure

/-- The place that is exchanged with i at the step c. -/
def pk (s : Int) (c : Int) (i : Nat) : Nat := (bel (mixI s c) ((i : Int) + 1)).toNat
theorem bel_bounds (x m : Int) (hm : 1 ≤ m) (hm2 : m ≤ 9223372036854775807) : 0 ≤ bel x m ∧ bel x m < m := by
  have h0 := Int.emod_nonneg x (show m ≠ 0 by omega)
  have h1 := Int.emod_lt_of_pos x (show 0 < m by omega)
  unfold bel
  rw [IntWalk.wrap64_in _ ⟨by omega, by omega⟩]
  exact ⟨h0, h1⟩
theorem pk_le (s c : Int) (i : Nat) (hi : i ≤ 4096) : pk s c i ≤ i := by
  have := bel_bounds (mixI s c) ((i : Int) + 1) (by omega) (by omega)
  unfold pk; omega
theorem pk_eq (s c : Int) (i : Nat) (hi : i ≤ 4096) : bel (mixI s c) ((i : Int) + 1) = (pk s c i : Int) := by
  have := bel_bounds (mixI s c) ((i : Int) + 1) (by omega) (by omega)
  unfold pk; omega

/-- The list and the number of steps that Perm of n leaves. -/
def prm (s c : Int) (n : Nat) : List Int × Int := permGo (pk s) sc (n - 1) c (fl n n)

theorem below_pk (g j : Nat) (s c : Int) (w : World) (hj : j ≤ 4096) (hg : Blk w g 53 #[.int .u64 s, .int .u64 c]) :
    Calls Try.prog 16 #[.pointer (some ⟨g, 0, none⟩), .int .i64 ((j : Int) + 1)] w fun e w' =>
      e = .returned (.int .i64 (pk s c j : Nat)) ∧ Blk w' g 53 #[.int .u64 s, .int .u64 (sc c)] ∧ Frm w w' (· = g) := by
  rw [← pk_eq s c j hj]
  exact below_yes g s c ((j : Int) + 1) w (by omega) (by omega) hg

set_option maxHeartbeats 2000000 in
theorem perm_yes (g n : Nat) (s c : Int) (w : World) (hn : 1 ≤ n) (hn2 : n ≤ 4096) (hg : Blk w g 53 #[.int .u64 s, .int .u64 c]) :
    Calls Try.prog 18 #[.pointer (some ⟨g, 0, none⟩), .int .i64 n] w fun e w' => ∃ b, e = .returned (.slice (some ⟨b, 0, none⟩) n n) ∧ w.heap.size ≤ b ∧
      Blk w' b 3 (cel (prm s c n).1) ∧ Blk w' g 53 #[.int .u64 s, .int .u64 (prm s c n).2] ∧ Frm w w' (· = g) := by
  have hmk := make_ints n (by omega)
  have hgl := hg.lt
  go_enter Try.func18, Try.ntmps18
  go_wp2
  go_loopw [23] (fun i wr => ∃ k : Nat, k ≤ n ∧ i = .int .i64 k ∧ Blk wr w.heap.size 3 (cel (fl n k)) ∧ Blk wr g 53 #[.int .u64 s, .int .u64 c] ∧ Frm w wr (· = g)) (fun i _ => n - (intOf i).toNat)
  case atStart => exact ⟨0, Nat.zero_le _, rfl, by rw [fl_zero]; exact Blk.new _ _ _, hg.alloc _, (Frm.refl _ _).alloc _⟩
  case round =>
    obtain ⟨k, hk, rfl, hb, hgr, hf⟩ := hrel
    by_cases hlt : k < n
    · have c1 : wr.cell? ⟨w.heap.size, k, none⟩ = some (.int .i64 ((fl n k).getD k 0)) := hb.cellIs (cel_get _ _ (by rw [fl_length]; omega))
      have z1 := hb.frozen k
      go_wp2
      go_roundw
      case rel => exact ⟨k + 1, by omega, by go_num, by rw [← fl_succ, ← cel_set]; exact hb.put k _, hgr.away (by omega) _ _, hf.put (fun h => by omega) _ _⟩
      case measure => simp [intOf]; omega
    · have hkn : k = n := by omega
      have hb' : Blk wr w.heap.size 3 (cel (fl n n)) := hkn ▸ hb
      clear hkn hb
      go_wp2
      go_loopw [7] (fun i wr => ∃ (j : Nat) (c' : Int) (l : List Int), j < n ∧ i = .int .i64 j ∧ l.length = n ∧ permGo (pk s) sc j c' l = prm s c n ∧ Blk wr w.heap.size 3 (cel l) ∧ Blk wr g 53 #[.int .u64 s, .int .u64 c'] ∧ Frm w wr (· = g)) (fun i _ => (intOf i).toNat)
      case atStart => exact ⟨n - 1, c, fl n n, by omega, by go_num, fl_length _ _, rfl, hb', hgr, hf⟩
      case round =>
        clear hgr hf hb'
        obtain ⟨j, c', l, hj, rfl, hl, hp, hb, hgr, hf⟩ := hrel
        have Hl := Lib.hid hl
        have Hp := Lib.hid hp
        clear hl hp
        by_cases h0 : 0 < j
        · obtain ⟨q, hq⟩ : ∃ q, q = pk s c' j := ⟨_, rfl⟩
          have hqj : q ≤ j := by rw [hq]; exact pk_le s c' j (by omega)
          have hcall := below_pk g j s c' wr (by omega) hgr
          rw [← hq] at hcall
          have Hq := Lib.hid hq
          have Hc := Lib.hid hcall
          clear hq hcall
          go_wp2_with (go_at_call 16; refine Hc.out.mono ?_; rintro e w1 ⟨rfl, hg1, f1⟩)
          have hb1 : Blk w1 w.heap.size 3 (cel l) := hb.frm f1 (by omega)
          obtain ⟨x, hx⟩ : ∃ x, x = l.getD j 0 := ⟨_, rfl⟩
          obtain ⟨y, hy⟩ : ∃ y, y = l.getD q 0 := ⟨_, rfl⟩
          have cj : w1.cell? ⟨w.heap.size, j, none⟩ = some (.int .i64 x) := by rw [hx]; exact hb1.cellIs (cel_get _ _ (by rw [Hl.out]; omega))
          have cq : w1.cell? ⟨w.heap.size, q, none⟩ = some (.int .i64 y) := by rw [hy]; exact hb1.cellIs (cel_get _ _ (by rw [Hl.out]; omega))
          have zj := hb1.frozen j
          have zq := hb1.frozen q
          have Hx := Lib.hid hx
          have Hy := Lib.hid hy
          clear hx hy
          have hj0 : (0 : Int) ≤ (j : Int) := Int.natCast_nonneg _
          have hj1 : (j : Int) < (n : Int) := by omega
          have hq0 : (0 : Int) ≤ (q : Int) := Int.natCast_nonneg _
          have hq1 : (q : Int) < (n : Int) := by omega
          obtain ⟨v', hv'⟩ := cell?_setCell_some (w := w1) (p := ⟨w.heap.size, j, none⟩) (x := .int .i64 y) (q := ⟨w.heap.size, q, none⟩) (v := .int .i64 y) (by go_simp)
          have hb2 : Blk ((w1.setCell ⟨w.heap.size, j, none⟩ (.int .i64 y)).setCell ⟨w.heap.size, q, none⟩ (.int .i64 x)) w.heap.size 3 (cel (swp l j q)) := by
            have e : swp l j q = (l.set j y).set q x := by unfold swp; rw [Hx.out, Hy.out]
            rw [e, ← cel_set, ← cel_set]
            exact (hb1.put j (.int .i64 y)).put q (.int .i64 x)
          have hg2 : Blk ((w1.setCell ⟨w.heap.size, j, none⟩ (.int .i64 y)).setCell ⟨w.heap.size, q, none⟩ (.int .i64 x)) g 53 #[.int .u64 s, .int .u64 (sc c')] := (hg1.away (by omega) _ _).away (by omega) _ _
          have hf2 : Frm w ((w1.setCell ⟨w.heap.size, j, none⟩ (.int .i64 y)).setCell ⟨w.heap.size, q, none⟩ (.int .i64 x)) (· = g) := ((hf.trans f1 (fun _ _ h => h)).put (fun h => by omega) _ _).put (fun h => by omega) _ _
          go_region
          go_wp2
          go_roundw
          case rel =>
            obtain ⟨i, rfl⟩ : ∃ i, j = i + 1 := ⟨j - 1, by omega⟩
            exact ⟨i, sc c', swp l (i + 1) q, by omega, by go_num, by rw [swp_length]; exact Hl.out, by rw [← Hp.out, Hq.out]; rfl, hb2.drew, hg2.drew, hf2.drew⟩
          case measure => simp [intOf]; omega
        · obtain rfl : j = 0 := by omega
          go_wp2
          go_ret
          have hp := Hp.out
          unfold permGo at hp
          rw [← hp]
          exact ⟨w.heap.size, rfl, Nat.le_refl _, hb, hgr, hf⟩
end Go.Proofs.Ytcdadpbnmilgiaa
