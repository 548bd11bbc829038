/- What Mix, New and Next of the program and of the reference do, in whatever memory. -/
import Derived.Test.YtcdadpbnmilgiaaBase
import Derived.Test.YtcdadpbnmilgiaaMix
namespace Go.Proofs.Ytcdadpbnmilgiaa
open Go.RowKit PrngPure

def m0 (a b : Int) : Int := IntKind.u64.wrap (a + IntKind.u64.wrap (11400714819323198485 * IntKind.u64.wrap (b + 1)))
def m1 (x : Int) : Int := IntKind.u64.wrap (bits .xor .u64 x (x / 1073741824) * 13787848793156543929)
def m2 (x : Int) : Int := IntKind.u64.wrap (bits .xor .u64 x (x / 134217728) * 10723151780598845931)
def m3 (x : Int) : Int := bits .xor .u64 x (x / 2147483648)
def mixI (a b : Int) : Int := m3 (m2 (m1 (m0 a b)))
/-- The next number of steps. -/
def sc (n : Int) : Int := IntKind.u64.wrap (n + 1)

theorem m0_nat (a b : Nat) : m0 a b = (mx0 a b : Nat) := by
  simp only [m0, mx0, IntKind.wrap_u64]; omega
theorem m1_nat (x : Nat) (h : x < 18446744073709551616) : m1 x = (mx1 x : Nat) := mixStep_u64 x 1073741824 13787848793156543929 h
theorem m2_nat (x : Nat) (h : x < 18446744073709551616) : m2 x = (mx2 x : Nat) := mixStep_u64 x 134217728 10723151780598845931 h
theorem m3_nat (x : Nat) (h : x < 18446744073709551616) : m3 x = (mx3 x : Nat) := xorShift_u64 x 2147483648 h
theorem mixI_nat (a b : Nat) : mixI a b = (mix a b : Nat) := by
  unfold mixI mix
  rw [m0_nat, m1_nat _ (mx0_lt _ _), m2_nat _ (mx1_lt _), m3_nat _ (mx2_lt _)]

theorem rmix_t (a b : Int) (w : World) :
    Calls Try.prog 12 #[.int .u64 a, .int .u64 b] w fun e w' => e = .returned (.int .u64 (mixI a b)) ∧ w = w' := by
  go_enter Try.func12, Try.ntmps12
  go_wp2
  go_ret
  exact ⟨rfl, rfl⟩

theorem mix_t (a b : Int) (w : World) :
    Calls Try.prog 11 #[.int .u64 a, .int .u64 b] w fun e w' => e = .returned (.int .u64 (mixI a b)) ∧ Frm w w' NoB := by
  have i0 : ∀ w, (Instr.index 56 (.agg #[.int .i64 30, .int .u64 13787848793156543929, .int .i64 27, .int .u64 10723151780598845931]) (.int .i64 0)).run Try.prog w = .ok (.agg #[.int .i64 30, .int .u64 13787848793156543929]) w := fun _ => by kernel_rfl
  have i1 : ∀ w, (Instr.index 56 (.agg #[.int .i64 30, .int .u64 13787848793156543929, .int .i64 27, .int .u64 10723151780598845931]) (.int .i64 1)).run Try.prog w = .ok (.agg #[.int .i64 27, .int .u64 10723151780598845931]) w := fun _ => by kernel_rfl
  go_enter Try.func11, Try.ntmps11
  go_wp2
  refine wp_loop_rounds 3 ?_
  rw [rounds_succ]
  go_wp2
  go_quiet (fail)
  go_wp2
  rw [rounds_succ]
  go_wp2
  go_quiet (fail)
  go_wp2
  rw [rounds_succ]
  go_wp2
  go_ret
  exact ⟨rfl, by repeat' (first | exact Frm.refl _ _ | refine Frm.drewN ?_ _ | refine Frm.drew ?_ | refine Frm.alloc ?_ _)⟩

theorem new_t (s : Int) (w : World) :
    Calls Try.prog 14 #[.int .u64 s] w fun e w' => e = .returned (.pointer (some ⟨w.heap.size, 0, none⟩)) ∧ Blk w' w.heap.size 53 #[.int .u64 s, .int .u64 0] ∧ Frm w w' NoB := by
  go_enter Try.func14, Try.ntmps14
  go_wp2
  go_ret
  exact ⟨rfl, Blk.new _ _ _, (Frm.refl _ _).alloc _⟩

theorem next_t (g : Nat) (s n : Int) (w : World) (hg : Blk w g 53 #[.int .u64 s, .int .u64 n]) :
    Calls Try.prog 15 #[.pointer (some ⟨g, 0, none⟩)] w fun e w' => e = .returned (.int .u64 (mixI s n)) ∧ Blk w' g 53 #[.int .u64 s, .int .u64 (sc n)] ∧ Frm w w' (· = g) := by
  have c0 : w.cell? ⟨g, 0, none⟩ = some (.int .u64 s) := hg.cellIs (i := 0) rfl
  have c1 : w.cell? ⟨g, 1, none⟩ = some (.int .u64 n) := hg.cellIs (i := 1) rfl
  have hlt := hg.lt
  go_enter Try.func15, Try.ntmps15
  go_wp2
  go_region_held3 (fun w' => w'.cell? ⟨g, 0, none⟩ = some (.int .u64 s) ∧ w'.cell? ⟨g, 1, none⟩ = some (.int .u64 n)) (first | go_keep | exact ⟨(f1.cell hlt (fun h => h)).trans c0, (f1.cell hlt (fun h => h)).trans c1⟩)
    (first | (go_at_call 11; refine (mix_t _ _ _).mono ?_; rintro e w1 ⟨rfl, f1⟩))
  have b1 : Blk w1 g 53 #[.int .u64 s, .int .u64 n] := hg.drew.frm f1 (fun h => h)
  have d1 : w1.cell? ⟨g, 1, none⟩ = some (.int .u64 n) := b1.cellIs (i := 1) rfl
  have z1 := b1.frozen 1
  go_wp2
  go_ret
  exact ⟨rfl, b1.put 1 _, (((Frm.refl w (· = g)).drew.trans f1 (fun _ _ h => h.elim)).setCell (fun _ => rfl) _)⟩

theorem rnew_t (s : Int) (w : World) :
    Calls Try.prog 20 #[.int .u64 s] w fun e w' => e = .returned (.pointer (some ⟨w.heap.size, 0, none⟩)) ∧ Blk w' w.heap.size 62 #[.int .u64 s, .int .u64 0] ∧ Frm w w' NoB := by
  go_enter Try.func20, Try.ntmps20
  go_wp2
  go_ret
  exact ⟨rfl, Blk.new _ _ _, (Frm.refl _ _).alloc _⟩

theorem rnext_t (g : Nat) (s n : Int) (w : World) (hg : Blk w g 62 #[.int .u64 s, .int .u64 n]) :
    Calls Try.prog 21 #[.pointer (some ⟨g, 0, none⟩)] w fun e w' => e = .returned (.int .u64 (mixI s n)) ∧ Blk w' g 62 #[.int .u64 s, .int .u64 (sc n)] ∧ Frm w w' (· = g) := by
  have c0 : w.cell? ⟨g, 0, none⟩ = some (.int .u64 s) := hg.cellIs (i := 0) rfl
  have c1 : w.cell? ⟨g, 1, none⟩ = some (.int .u64 n) := hg.cellIs (i := 1) rfl
  have z1 := hg.frozen 1
  have hlt := hg.lt
  go_enter Try.func21, Try.ntmps21
  go_wp2
  go_region_held3 (fun w' => w'.cell? ⟨g, 0, none⟩ = some (.int .u64 s) ∧ w'.cell? ⟨g, 1, none⟩ = some (.int .u64 n)) (go_keep)
    (first | (go_at_call 12; refine (rmix_t _ _ _).mono ?_; rintro e w1 ⟨rfl, rfl⟩))
  go_wp2
  go_ret
  exact ⟨rfl, hg.put 1 _, ((Frm.refl w (· = g)).setCell (fun _ => rfl) _).drew⟩
end Go.Proofs.Ytcdadpbnmilgiaa
