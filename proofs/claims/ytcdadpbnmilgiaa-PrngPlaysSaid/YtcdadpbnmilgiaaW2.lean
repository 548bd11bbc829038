/- What the closures of Below and Range, and the methods make, Below, Range and Fork do. -/
import Derived.Test.YtcdadpbnmilgiaaW1
namespace Go.Proofs.Ytcdadpbnmilgiaa
open Go.RowKit PrngPure

/-- The remainder that Below returns. -/
def bel (x m : Int) : Int := wrap64 (x % m)
/-- How many numbers Range chooses from, modulo 2^64. -/
def rsp (lo hi : Int) : Int := IntKind.u64.wrap (IntKind.u64.wrap (IntKind.u64.wrap hi - IntKind.u64.wrap lo) + 1)
/-- The number that Range returns. -/
def rng (x lo sp : Int) : Int := wrap64 (IntKind.u64.wrap (IntKind.u64.wrap lo + if sp = 0 then x else x % sp))
theorem mixI_nonneg (a b : Int) : 0 ≤ mixI a b := by
  unfold mixI m3
  exact wrap_u64_nonneg _
theorem rsp_nonneg (lo hi : Int) : 0 ≤ rsp lo hi := wrap_u64_nonneg _

theorem belowc_t (x m : Int) (c : Nat) (w : World) (hx : 0 ≤ x) (hm : 1 ≤ m) (hm2 : m ≤ 9223372036854775807) (hc : w.cell? ⟨c, 0, none⟩ = some (.int .i64 m)) :
    Calls Try.prog 28 #[.int .u64 x, .pointer (some ⟨c, 0, none⟩)] w fun e w' => e = .returned (.int .i64 (bel x m)) ∧ w = w' := by
  go_enter Try.func28, Try.ntmps28
  go_wp2
  go_ret
  exact ⟨rfl, rfl⟩
theorem rangec_t (x lo sp : Int) (c d : Nat) (w : World) (hx : 0 ≤ x) (hs : 0 ≤ sp) (hc : w.cell? ⟨c, 0, none⟩ = some (.int .u64 sp)) (hd : w.cell? ⟨d, 0, none⟩ = some (.int .i64 lo)) :
    Calls Try.prog 29 #[.int .u64 x, .pointer (some ⟨c, 0, none⟩), .pointer (some ⟨d, 0, none⟩)] w fun e w' => e = .returned (.int .i64 (rng x lo sp)) ∧ w = w' := by
  by_cases h0 : sp = 0
  · have hr : Hid (rng x lo sp = wrap64 (IntKind.u64.wrap (IntKind.u64.wrap lo + x))) := by unfold Hid rng; rw [if_pos h0]
    subst h0
    go_enter Try.func29, Try.ntmps29
    go_wp2
    go_ret
    exact ⟨by rw [hr.out]; rfl, rfl⟩
  · have hr : Hid (rng x lo sp = wrap64 (IntKind.u64.wrap (IntKind.u64.wrap lo + x % sp))) := by unfold Hid rng; rw [if_neg h0]
    go_enter Try.func29, Try.ntmps29
    go_wp2
    go_ret
    exact ⟨by rw [hr.out]; rfl, rfl⟩

theorem make_below (g c : Nat) (s n m : Int) (w : World) (hm : 1 ≤ m) (hm2 : m ≤ 9223372036854775807) (hg : Blk w g 53 #[.int .u64 s, .int .u64 n]) (hc : Blk w c 3 #[.int .i64 m]) :
    Calls Try.prog 27 #[.pointer (some ⟨g, 0, none⟩), .agg #[.func (.func 28) #[] #[.pointer (some ⟨c, 0, none⟩)]]] w fun e w' =>
      e = .returned (.int .i64 (bel (mixI s n) m)) ∧ Blk w' g 53 #[.int .u64 s, .int .u64 (sc n)] ∧ Frm w w' (· = g) := by
  have hne := hc.ne hg (by decide)
  have hpos := mixI_nonneg s n
  have hgs : ¬ w.heap.size = g := by have := hg.lt; omega
  have hF : Blk (w.alloc (.cells #[.func (.func 28) #[] #[.pointer (some ⟨c, 0, none⟩)]] 60)) w.heap.size 60 #[.func (.func 28) #[] #[.pointer (some ⟨c, 0, none⟩)]] := Blk.new _ _ _
  go_enter Try.func27, Try.ntmps27
  go_wp2
  go_region_held3 (fun w' => w'.cell? ⟨w.heap.size, 0, none⟩ = some (.func (.func 28) #[] #[.pointer (some ⟨c, 0, none⟩)])) (first | go_keep | exact (hF.drew.frm f1 hgs).cellIs (i := 0) rfl)
    (first
      | (go_at_call 15; refine (next_t g s n _ (hg.alloc _).drew).mono ?_; rintro e w1 ⟨rfl, hb1, f1⟩)
      | (go_at_call 28; refine (belowc_t _ m c _ hpos hm hm2 (((hc.alloc _).drew.frm f1 hne).cellIs (i := 0) rfl)).mono ?_; rintro e w2 ⟨rfl, rfl⟩))
  go_wp2
  go_ret
  exact ⟨rfl, hb1, (((Frm.refl w (· = g)).alloc _).drew.trans f1 (fun _ _ h => h))⟩

theorem make_range (g c d : Nat) (s n lo sp : Int) (w : World) (hs : 0 ≤ sp) (hg : Blk w g 53 #[.int .u64 s, .int .u64 n]) (hc : Blk w c 22 #[.int .u64 sp]) (hd : Blk w d 3 #[.int .i64 lo]) :
    Calls Try.prog 27 #[.pointer (some ⟨g, 0, none⟩), .agg #[.func (.func 29) #[] #[.pointer (some ⟨c, 0, none⟩), .pointer (some ⟨d, 0, none⟩)]]] w fun e w' =>
      e = .returned (.int .i64 (rng (mixI s n) lo sp)) ∧ Blk w' g 53 #[.int .u64 s, .int .u64 (sc n)] ∧ Frm w w' (· = g) := by
  have hne := hc.ne hg (by decide)
  have hnd := hd.ne hg (by decide)
  have hpos := mixI_nonneg s n
  have hgs : ¬ w.heap.size = g := by have := hg.lt; omega
  have hF : Blk (w.alloc (.cells #[.func (.func 29) #[] #[.pointer (some ⟨c, 0, none⟩), .pointer (some ⟨d, 0, none⟩)]] 60)) w.heap.size 60 #[.func (.func 29) #[] #[.pointer (some ⟨c, 0, none⟩), .pointer (some ⟨d, 0, none⟩)]] := Blk.new _ _ _
  go_enter Try.func27, Try.ntmps27
  go_wp2
  go_region_held3 (fun w' => w'.cell? ⟨w.heap.size, 0, none⟩ = some (.func (.func 29) #[] #[.pointer (some ⟨c, 0, none⟩), .pointer (some ⟨d, 0, none⟩)])) (first | go_keep | exact (hF.drew.frm f1 hgs).cellIs (i := 0) rfl)
    (first
      | (go_at_call 15; refine (next_t g s n _ (hg.alloc _).drew).mono ?_; rintro e w1 ⟨rfl, hb1, f1⟩)
      | (go_at_call 29; refine (rangec_t _ lo sp c d _ hpos hs (((hc.alloc _).drew.frm f1 hne).cellIs (i := 0) rfl) (((hd.alloc _).drew.frm f1 hnd).cellIs (i := 0) rfl)).mono ?_; rintro e w2 ⟨rfl, rfl⟩))
  go_wp2
  go_ret
  exact ⟨rfl, hb1, (((Frm.refl w (· = g)).alloc _).drew.trans f1 (fun _ _ h => h))⟩

theorem below_yes (g : Nat) (s n m : Int) (w : World) (hm : 1 ≤ m) (hm2 : m ≤ 9223372036854775807) (hg : Blk w g 53 #[.int .u64 s, .int .u64 n]) :
    Calls Try.prog 16 #[.pointer (some ⟨g, 0, none⟩), .int .i64 m] w fun e w' =>
      e = .returned (.int .i64 (bel (mixI s n) m)) ∧ Blk w' g 53 #[.int .u64 s, .int .u64 (sc n)] ∧ Frm w w' (· = g) := by
  go_enter Try.func16, Try.ntmps16
  go_wp2_with (go_at_call 27; refine (make_below g w.heap.size s n m _ hm hm2 (hg.alloc _) (Blk.new _ _ _)).mono ?_; rintro e w1 ⟨rfl, hb1, f1⟩)
  go_ret
  exact ⟨rfl, hb1, (((Frm.refl w (· = g)).alloc _).trans f1 (fun _ _ h => h))⟩
theorem below_no (a : Option Addr) (m : Int) (w : World) (hm : a = none ∨ m < 1) :
    Calls Try.prog 16 #[.pointer a, .int .i64 m] w fun e w' => e = .returned (.int .i64 0) ∧ Frm w w' NoB := by
  rcases hm with rfl | hm
  · go_enter Try.func16, Try.ntmps16
    go_wp2
    go_ret
    exact ⟨rfl, (Frm.refl w _).alloc _⟩
  · rcases a with _ | a
    · go_enter Try.func16, Try.ntmps16
      go_wp2
      go_ret
      exact ⟨rfl, (Frm.refl w _).alloc _⟩
    · go_enter Try.func16, Try.ntmps16
      go_wp2
      go_ret
      exact ⟨rfl, (Frm.refl w _).alloc _⟩

theorem range_yes (g : Nat) (s n lo hi : Int) (w : World) (hl : lo ≤ hi) (hg : Blk w g 53 #[.int .u64 s, .int .u64 n]) :
    Calls Try.prog 17 #[.pointer (some ⟨g, 0, none⟩), .int .i64 lo, .int .i64 hi] w fun e w' =>
      e = .returned (.int .i64 (rng (mixI s n) lo (rsp lo hi))) ∧ Blk w' g 53 #[.int .u64 s, .int .u64 (sc n)] ∧ Frm w w' (· = g) := by
  go_enter Try.func17, Try.ntmps17
  go_wp2_with (go_at_call 27; refine (make_range g (w.heap.size + 1) w.heap.size s n lo (rsp lo hi) _ (rsp_nonneg _ _) ((hg.alloc _).alloc _) (Blk.newAt _ _ _ (by simp)) ((Blk.new _ _ _).alloc _)).mono ?_; rintro e w1 ⟨rfl, hb1, f1⟩)
  go_ret
  exact ⟨rfl, hb1, ((((Frm.refl w (· = g)).alloc _).alloc _).trans f1 (fun _ _ h => h))⟩
theorem range_no (a : Addr) (lo hi : Int) (w : World) (hl : hi < lo) :
    Calls Try.prog 17 #[.pointer (some a), .int .i64 lo, .int .i64 hi] w fun e w' => e = .returned (.int .i64 lo) ∧ Frm w w' NoB := by
  go_enter Try.func17, Try.ntmps17
  go_wp2
  go_ret
  exact ⟨rfl, (Frm.refl w _).alloc _⟩
theorem range_nil (lo hi : Int) (w : World) :
    Calls Try.prog 17 #[.pointer none, .int .i64 lo, .int .i64 hi] w fun e w' => e = .returned (.int .i64 0) ∧ Frm w w' NoB := by
  go_enter Try.func17, Try.ntmps17
  go_wp2
  go_ret
  exact ⟨rfl, (Frm.refl w _).alloc _⟩

theorem fork_t (g : Nat) (s n : Int) (w : World) (hg : Blk w g 53 #[.int .u64 s, .int .u64 n]) :
    Calls Try.prog 25 #[.pointer (some ⟨g, 0, none⟩)] w fun e w' => ∃ f, e = .returned (.pointer (some ⟨f, 0, none⟩)) ∧ w.heap.size ≤ f ∧
      Blk w' f 53 #[.int .u64 (mixI s n), .int .u64 0] ∧ Blk w' g 53 #[.int .u64 s, .int .u64 (sc n)] ∧ Frm w w' (· = g) := by
  go_enter Try.func25, Try.ntmps25
  go_wp2_with (first
    | (go_at_call 15; refine (next_t g s n _ hg).mono ?_; rintro e w1 ⟨rfl, hb1, f1⟩)
    | (go_at_call 14; refine (new_t _ _).mono ?_; rintro e w2 ⟨rfl, hb2, f2⟩))
  go_ret
  exact ⟨w1.heap.size, rfl, f1.size, hb2, hb1.frm f2 (fun h => h), f1.trans f2 (fun _ _ h => h.elim)⟩
theorem fork_nil (w : World) :
    Calls Try.prog 25 #[.pointer none] w fun e w' => e = .returned (.pointer none) ∧ w = w' := by
  go_enter Try.func25, Try.ntmps25
  go_wp2
  go_ret
  exact ⟨rfl, rfl⟩
theorem next_nil (w : World) :
    Calls Try.prog 15 #[.pointer none] w fun e w' => e = .returned (.int .u64 0) ∧ w = w' := by
  go_enter Try.func15, Try.ntmps15
  go_wp2
  go_ret
  exact ⟨rfl, rfl⟩
end Go.Proofs.Ytcdadpbnmilgiaa
