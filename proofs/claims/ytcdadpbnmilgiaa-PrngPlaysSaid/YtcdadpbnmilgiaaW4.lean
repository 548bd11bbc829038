/- What the reference's Below, Range, Fork and Perm do, and the program's Perm where there is nothing to return. -/
import Derived.Test.YtcdadpbnmilgiaaW3
namespace Go.Proofs.Ytcdadpbnmilgiaa
open Go.RowKit PrngPure

theorem perm_no (a : Option Addr) (m : Int) (w : World) (hm : a = none ∨ m < 1 ∨ 4096 < m) :
    Calls Try.prog 18 #[.pointer a, .int .i64 m] w fun e w' => e = .returned (.slice none 0 0) ∧ w = w' := by
  rcases a with _ | a
  · go_enter Try.func18, Try.ntmps18
    go_wp2
    go_ret
    exact ⟨rfl, rfl⟩
  · rcases hm with h | h | h
    · cases h
    · go_enter Try.func18, Try.ntmps18
      go_wp2
      go_ret
      exact ⟨rfl, rfl⟩
    · go_enter Try.func18, Try.ntmps18
      go_wp2
      go_ret
      exact ⟨rfl, rfl⟩

theorem rbelow_yes (g : Nat) (s n m : Int) (w : World) (hm : 1 ≤ m) (hm2 : m ≤ 9223372036854775807) (hg : Blk w g 62 #[.int .u64 s, .int .u64 n]) :
    Calls Try.prog 22 #[.pointer (some ⟨g, 0, none⟩), .int .i64 m] w fun e w' =>
      e = .returned (.int .i64 (bel (mixI s n) m)) ∧ Blk w' g 62 #[.int .u64 s, .int .u64 (sc n)] ∧ Frm w w' (· = g) := by
  have hpos := mixI_nonneg s n
  go_enter Try.func22, Try.ntmps22
  go_wp2_with (go_at_call 21; refine (rnext_t g s n _ hg).mono ?_; rintro e w1 ⟨rfl, hb1, f1⟩)
  go_ret
  exact ⟨rfl, hb1, f1⟩
theorem rbelow_no (a : Addr) (m : Int) (w : World) (hm : m < 1) :
    Calls Try.prog 22 #[.pointer (some a), .int .i64 m] w fun e w' => e = .returned (.int .i64 0) ∧ Frm w w' NoB := by
  go_enter Try.func22, Try.ntmps22
  go_wp2
  go_ret
  exact ⟨rfl, (Frm.refl w _)⟩

theorem rrange_yes (g : Nat) (s n lo hi : Int) (w : World) (hl : lo ≤ hi) (hg : Blk w g 62 #[.int .u64 s, .int .u64 n]) :
    Calls Try.prog 23 #[.pointer (some ⟨g, 0, none⟩), .int .i64 lo, .int .i64 hi] w fun e w' =>
      e = .returned (.int .i64 (rng (mixI s n) lo (rsp lo hi))) ∧ Blk w' g 62 #[.int .u64 s, .int .u64 (sc n)] ∧ Frm w w' (· = g) := by
  have hpos := mixI_nonneg s n
  have hsp := rsp_nonneg lo hi
  have hun : Hid (rsp lo hi = IntKind.u64.wrap (IntKind.u64.wrap (IntKind.u64.wrap hi - IntKind.u64.wrap lo) + 1)) := rfl
  by_cases h0 : rsp lo hi = 0
  · have hb : (IntKind.u64.wrap (IntKind.u64.wrap (IntKind.u64.wrap hi - IntKind.u64.wrap lo) + 1) != 0) = false := by rw [← hun.out, h0]; rfl
    have hr : Hid (rng (mixI s n) lo (rsp lo hi) = wrap64 (IntKind.u64.wrap (IntKind.u64.wrap lo + mixI s n))) := by unfold Hid rng; rw [if_pos h0]
    have H0 := Lib.hid h0
    clear h0 hsp
    go_enter Try.func23, Try.ntmps23
    go_wp2_with (go_at_call 21; refine (rnext_t g s n _ hg).mono ?_; rintro e w1 ⟨rfl, hb1, f1⟩)
    go_ret
    exact ⟨by rw [hr.out]; rfl, hb1, f1⟩
  · have hb : (IntKind.u64.wrap (IntKind.u64.wrap (IntKind.u64.wrap hi - IntKind.u64.wrap lo) + 1) != 0) = true := by rw [← hun.out, bne_iff_ne]; exact h0
    have hne : ¬ IntKind.u64.wrap (IntKind.u64.wrap (IntKind.u64.wrap hi - IntKind.u64.wrap lo) + 1) = 0 := by rw [← hun.out]; exact h0
    have hr : Hid (rng (mixI s n) lo (rsp lo hi) = wrap64 (IntKind.u64.wrap (IntKind.u64.wrap lo + mixI s n % IntKind.u64.wrap (IntKind.u64.wrap (IntKind.u64.wrap hi - IntKind.u64.wrap lo) + 1)))) := by unfold Hid rng; rw [if_neg h0]; rfl
    have H0 := Lib.hid h0
    clear h0 hsp
    go_enter Try.func23, Try.ntmps23
    go_wp2_with (go_at_call 21; refine (rnext_t g s n _ hg).mono ?_; rintro e w1 ⟨rfl, hb1, f1⟩)
    go_ret
    exact ⟨by rw [hr.out]; rfl, hb1, f1⟩
theorem rrange_no (a : Addr) (lo hi : Int) (w : World) (hl : hi < lo) :
    Calls Try.prog 23 #[.pointer (some a), .int .i64 lo, .int .i64 hi] w fun e w' => e = .returned (.int .i64 lo) ∧ Frm w w' NoB := by
  go_enter Try.func23, Try.ntmps23
  go_wp2
  go_ret
  exact ⟨rfl, (Frm.refl w _)⟩
theorem rfork_t (g : Nat) (s n : Int) (w : World) (hg : Blk w g 62 #[.int .u64 s, .int .u64 n]) :
    Calls Try.prog 26 #[.pointer (some ⟨g, 0, none⟩)] w fun e w' => ∃ f, e = .returned (.pointer (some ⟨f, 0, none⟩)) ∧ w.heap.size ≤ f ∧
      Blk w' f 62 #[.int .u64 (mixI s n), .int .u64 0] ∧ Blk w' g 62 #[.int .u64 s, .int .u64 (sc n)] ∧ Frm w w' (· = g) := by
  go_enter Try.func26, Try.ntmps26
  go_wp2_with (first
    | (go_at_call 21; refine (rnext_t g s n _ hg).mono ?_; rintro e w1 ⟨rfl, hb1, f1⟩)
    | (go_at_call 20; refine (rnew_t _ _).mono ?_; rintro e w2 ⟨rfl, hb2, f2⟩))
  go_ret
  exact ⟨w1.heap.size, rfl, f1.size, hb2, hb1.frm f2 (fun h => h), f1.trans f2 (fun _ _ h => h.elim)⟩
theorem rperm_no (a : Addr) (m : Int) (w : World) (hm : m < 1 ∨ 4096 < m) :
    Calls Try.prog 24 #[.pointer (some a), .int .i64 m] w fun e w' => e = .returned (.slice none 0 0) ∧ w = w' := by
  rcases hm with h | h
  · go_enter Try.func24, Try.ntmps24
    go_wp2
    go_ret
    exact ⟨rfl, rfl⟩
  · go_enter Try.func24, Try.ntmps24
    go_wp2
    go_ret
    exact ⟨rfl, rfl⟩
theorem rbelow_pk (g j : Nat) (s c : Int) (w : World) (hj : j ≤ 4096) (hg : Blk w g 62 #[.int .u64 s, .int .u64 c]) :
    Calls Try.prog 22 #[.pointer (some ⟨g, 0, none⟩), .int .i64 ((j : Int) + 1)] w fun e w' =>
      e = .returned (.int .i64 (pk s c j : Nat)) ∧ Blk w' g 62 #[.int .u64 s, .int .u64 (sc c)] ∧ Frm w w' (· = g) := by
  rw [← pk_eq s c j hj]
  exact rbelow_yes g s c ((j : Int) + 1) w (by omega) (by omega) hg

set_option maxHeartbeats 2000000 in
theorem rperm_yes (g n : Nat) (s c : Int) (w : World) (hn : 1 ≤ n) (hn2 : n ≤ 4096) (hg : Blk w g 62 #[.int .u64 s, .int .u64 c]) :
    Calls Try.prog 24 #[.pointer (some ⟨g, 0, none⟩), .int .i64 n] w fun e w' => ∃ b, e = .returned (.slice (some ⟨b, 0, none⟩) n n) ∧ w.heap.size ≤ b ∧
      Blk w' b 3 (cel (prm s c n).1) ∧ Blk w' g 62 #[.int .u64 s, .int .u64 (prm s c n).2] ∧ Frm w w' (· = g) := by
  have hmk := make_ints n (by omega)
  have hgl := hg.lt
  go_enter Try.func24, Try.ntmps24
  go_wp2
  go_loopw [6] (fun i wr => ∃ k : Nat, k ≤ n ∧ i = .int .i64 k ∧ Blk wr w.heap.size 3 (cel (fl n k)) ∧ Blk wr g 62 #[.int .u64 s, .int .u64 c] ∧ Frm w wr (· = g)) (fun i _ => n - (intOf i).toNat)
  case atStart => exact ⟨0, Nat.zero_le _, rfl, by rw [fl_zero]; exact Blk.new _ _ _, hg.alloc _, (Frm.refl _ _).alloc _⟩
  case round =>
    obtain ⟨k, hk, rfl, hb, hgr, hf⟩ := hrel
    by_cases hlt : k < n
    · have c1 : wr.cell? ⟨w.heap.size, k, none⟩ = some (.int .i64 ((fl n k).getD k 0)) := hb.cellIs (cel_get _ _ (by rw [fl_length]; omega))
      have z1 := hb.frozen k
      go_wp2
      go_roundw
      case rel => exact ⟨k + 1, by omega, by go_num, by rw [← fl_succ, ← cel_set]; exact hb.put k _, hgr.away (by omega) _ _, hf.put (fun h => by omega) _ _⟩
      case measure => simp [intOf]; omega
    · have hkn : k = n := by omega
      have hb' : Blk wr w.heap.size 3 (cel (fl n n)) := hkn ▸ hb
      clear hkn hb
      go_wp2
      go_loopw [7] (fun i wr => ∃ (j : Nat) (c' : Int) (l : List Int), j < n ∧ i = .int .i64 j ∧ l.length = n ∧ permGo (pk s) sc j c' l = prm s c n ∧ Blk wr w.heap.size 3 (cel l) ∧ Blk wr g 62 #[.int .u64 s, .int .u64 c'] ∧ Frm w wr (· = g)) (fun i _ => (intOf i).toNat)
      case atStart => exact ⟨n - 1, c, fl n n, by omega, by go_num, fl_length _ _, rfl, hb', hgr, hf⟩
      case round =>
        clear hgr hf hb'
        obtain ⟨j, c', l, hj, rfl, hl, hp, hb, hgr, hf⟩ := hrel
        have Hl := Lib.hid hl
        have Hp := Lib.hid hp
        clear hl hp
        by_cases h0 : 1 ≤ j
        · obtain ⟨q, hq⟩ : ∃ q, q = pk s c' j := ⟨_, rfl⟩
          have hqj : q ≤ j := by rw [hq]; exact pk_le s c' j (by omega)
          have hcall := rbelow_pk g j s c' wr (by omega) hgr
          rw [← hq] at hcall
          have Hq := Lib.hid hq
          have Hc := Lib.hid hcall
          clear hq hcall
          go_wp2_with (
            go_at_call 22
            refine Hc.out.mono ?_
            rintro e w1 ⟨rfl, hg1, f1⟩
            obtain ⟨x, hx⟩ : ∃ x, x = l.getD j 0 := ⟨_, rfl⟩
            obtain ⟨y, hy⟩ : ∃ y, y = l.getD q 0 := ⟨_, rfl⟩
            have hb1 : Blk w1 w.heap.size 3 (cel l) := hb.frm f1 (by omega)
            have cj : w1.cell? ⟨w.heap.size, j, none⟩ = some (.int .i64 x) := by rw [hx]; exact hb1.cellIs (cel_get _ _ (by rw [Hl.out]; omega))
            have cq : w1.cell? ⟨w.heap.size, q, none⟩ = some (.int .i64 y) := by rw [hy]; exact hb1.cellIs (cel_get _ _ (by rw [Hl.out]; omega))
            have zj := hb1.frozen j
            have zq := hb1.frozen q
            have Hx := Lib.hid hx
            have Hy := Lib.hid hy
            clear hx hy
            obtain ⟨v', hv'⟩ := cell?_setCell_some (w := w1) (p := ⟨w.heap.size, j, none⟩) (x := .int .i64 y) (q := ⟨w.heap.size, q, none⟩) (v := .int .i64 y) (by go_simp))
          have hb2 : Blk ((w1.setCell ⟨w.heap.size, j, none⟩ (.int .i64 y)).setCell ⟨w.heap.size, q, none⟩ (.int .i64 x)) w.heap.size 3 (cel (swp l j q)) := by
            have e : swp l j q = (l.set j y).set q x := by unfold swp; rw [Hx.out, Hy.out]
            rw [e, ← cel_set, ← cel_set]
            exact (hb1.put j (.int .i64 y)).put q (.int .i64 x)
          have hg2 : Blk ((w1.setCell ⟨w.heap.size, j, none⟩ (.int .i64 y)).setCell ⟨w.heap.size, q, none⟩ (.int .i64 x)) g 62 #[.int .u64 s, .int .u64 (sc c')] := (hg1.away (by omega) _ _).away (by omega) _ _
          have hf2 : Frm w ((w1.setCell ⟨w.heap.size, j, none⟩ (.int .i64 y)).setCell ⟨w.heap.size, q, none⟩ (.int .i64 x)) (· = g) := ((hf.trans f1 (fun _ _ h => h)).put (fun h => by omega) _ _).put (fun h => by omega) _ _
          go_roundw
          case rel =>
            obtain ⟨i, rfl⟩ : ∃ i, j = i + 1 := ⟨j - 1, by omega⟩
            exact ⟨i, sc c', swp l (i + 1) q, by omega, by go_num, by rw [swp_length]; exact Hl.out, by rw [← Hp.out, Hq.out]; rfl, hb2, hg2, hf2⟩
          case measure => simp [intOf]; omega
        · obtain rfl : j = 0 := by omega
          go_wp2
          go_ret
          have hp := Hp.out
          unfold permGo at hp
          rw [← hp]
          exact ⟨w.heap.size, rfl, Nat.le_refl _, hb, hgr, hf⟩
end Go.Proofs.Ytcdadpbnmilgiaa
