/- Two sources side by side: what each method of one does, and that it leaves the other as it was. -/
import Derived.Test.YtcdadpbnmilgiaaW5
namespace Go.Proofs.Ytcdadpbnmilgiaa
open Go.RowKit PrngPure

theorem wf_u64 {a : Int} (h : (Lit.int .u64 a).wf = true) : 0 ≤ a ∧ a ≤ 18446744073709551615 := by
  have h1 : IntKind.u64.min = 0 := rfl
  have h2 : IntKind.u64.max = 18446744073709551615 := rfl
  simp only [Lit.wf, Bool.and_eq_true, decide_eq_true_eq] at h
  omega
theorem wf_i64 {a : Int} (h : (Lit.int .i64 a).wf = true) : -9223372036854775808 ≤ a ∧ a ≤ 9223372036854775807 := by
  have h1 : IntKind.i64.min = -9223372036854775808 := rfl
  have h2 : IntKind.i64.max = 9223372036854775807 := rfl
  simp only [Lit.wf, Bool.and_eq_true, decide_eq_true_eq] at h
  omega
theorem wf_u16 {a : Int} (h : (Lit.int .u16 a).wf = true) : 0 ≤ a ∧ a ≤ 65535 := by
  have h1 : IntKind.u16.min = 0 := rfl
  have h2 : IntKind.u16.max = 65535 := rfl
  simp only [Lit.wf, Bool.and_eq_true, decide_eq_true_eq] at h
  omega
theorem wf_u8 {a : Int} (h : (Lit.int .u8 a).wf = true) : 0 ≤ a ∧ a ≤ 255 := by
  have h1 : IntKind.u8.min = 0 := rfl
  have h2 : IntKind.u8.max = 255 := rfl
  simp only [Lit.wf, Bool.and_eq_true, decide_eq_true_eq] at h
  omega

/-- Two sources that the call itself has made, in blocks g and h: their seeds and steps. -/
structure Duo (w0 w : World) (g : Nat) (s c : Int) (h : Nat) (t d : Int) : Prop where
  b1 : Blk w g 53 #[.int .u64 s, .int .u64 c]
  b2 : Blk w h 53 #[.int .u64 t, .int .u64 d]
  ne : g ≠ h
  l1 : w0.heap.size ≤ g
  l2 : w0.heap.size ≤ h
  f : Frm w0 w NoB

section
variable {w0 w w' : World} {g h : Nat} {s c t d : Int}
theorem Duo.left {c' : Int} (k : Duo w0 w g s c h t d) (hb : Blk w' g 53 #[.int .u64 s, .int .u64 c']) (f : Frm w w' (· = g)) : Duo w0 w' g s c' h t d :=
  ⟨hb, k.b2.frm f (fun e => k.ne e.symm), k.ne, k.l1, k.l2, k.f.trans f (fun i hi e => by subst e; have := k.l1; omega)⟩
theorem Duo.right {d' : Int} (k : Duo w0 w g s c h t d) (hb : Blk w' h 53 #[.int .u64 t, .int .u64 d']) (f : Frm w w' (· = h)) : Duo w0 w' g s c h t d' :=
  ⟨k.b1.frm f (fun e => k.ne e), hb, k.ne, k.l1, k.l2, k.f.trans f (fun i hi e => by subst e; have := k.l2; omega)⟩
theorem Duo.keep (k : Duo w0 w g s c h t d) (f : Frm w w' NoB) : Duo w0 w' g s c h t d :=
  ⟨k.b1.frm f (fun e => e), k.b2.frm f (fun e => e), k.ne, k.l1, k.l2, k.f.trans f (fun _ _ e => e)⟩

theorem duo_next1 (k : Duo w0 w g s c h t d) : Calls Try.prog 15 #[.pointer (some ⟨g, 0, none⟩)] w fun e w' => e = .returned (.int .u64 (mixI s c)) ∧ Duo w0 w' g s (sc c) h t d :=
  (next_t g s c w k.b1).mono fun _ _ ⟨he, hb, f⟩ => ⟨he, k.left hb f⟩
theorem duo_next2 (k : Duo w0 w g s c h t d) : Calls Try.prog 15 #[.pointer (some ⟨h, 0, none⟩)] w fun e w' => e = .returned (.int .u64 (mixI t d)) ∧ Duo w0 w' g s c h t (sc d) :=
  (next_t h t d w k.b2).mono fun _ _ ⟨he, hb, f⟩ => ⟨he, k.right hb f⟩
theorem duo_below_yes (k : Duo w0 w g s c h t d) (m : Int) (hm : 1 ≤ m) (hm2 : m ≤ 9223372036854775807) :
    Calls Try.prog 16 #[.pointer (some ⟨g, 0, none⟩), .int .i64 m] w fun e w' => e = .returned (.int .i64 (bel (mixI s c) m)) ∧ Duo w0 w' g s (sc c) h t d :=
  (below_yes g s c m w hm hm2 k.b1).mono fun _ _ ⟨he, hb, f⟩ => ⟨he, k.left hb f⟩
theorem duo_below_no (k : Duo w0 w g s c h t d) (a : Option Addr) (m : Int) (hm : m < 1) :
    Calls Try.prog 16 #[.pointer a, .int .i64 m] w fun e w' => e = .returned (.int .i64 0) ∧ Duo w0 w' g s c h t d :=
  (below_no a m w (.inr hm)).mono fun _ _ ⟨he, f⟩ => ⟨he, k.keep f⟩
theorem duo_range_yes (k : Duo w0 w g s c h t d) (lo hi : Int) (hl : lo ≤ hi) :
    Calls Try.prog 17 #[.pointer (some ⟨g, 0, none⟩), .int .i64 lo, .int .i64 hi] w fun e w' => e = .returned (.int .i64 (rng (mixI s c) lo (rsp lo hi))) ∧ Duo w0 w' g s (sc c) h t d :=
  (range_yes g s c lo hi w hl k.b1).mono fun _ _ ⟨he, hb, f⟩ => ⟨he, k.left hb f⟩
theorem duo_range_no (k : Duo w0 w g s c h t d) (a : Addr) (lo hi : Int) (hl : hi < lo) :
    Calls Try.prog 17 #[.pointer (some a), .int .i64 lo, .int .i64 hi] w fun e w' => e = .returned (.int .i64 lo) ∧ Duo w0 w' g s c h t d :=
  (range_no a lo hi w hl).mono fun _ _ ⟨he, f⟩ => ⟨he, k.keep f⟩
theorem duo_awake (k : Duo w0 w g s c h t d) : Calls Try.prog 13 #[] w fun e w' => e = .returned (.bool true) ∧ Duo w0 w' g s c h t d :=
  (awake_t w).mono fun _ _ ⟨he, f⟩ => ⟨he, k.keep f⟩
end
theorem duo_new (s t : Int) (w w1 w2 : World) (b1 : Blk w1 w.heap.size 53 #[.int .u64 s, .int .u64 0]) (f1 : Frm w w1 NoB) (b2 : Blk w2 w1.heap.size 53 #[.int .u64 t, .int .u64 0]) (f2 : Frm w1 w2 NoB) :
    Duo w w2 w.heap.size s 0 w1.heap.size t 0 :=
  ⟨b1.frm f2 (fun e => e), b2, by have := b1.lt; omega, Nat.le_refl _, f1.size, f1.trans f2 (fun _ _ e => e)⟩

/-- Range's number lies within its limits. -/
theorem rng_within (x lo hi : Int) (hlo : -9223372036854775808 ≤ lo) (hhi : hi ≤ 9223372036854775807) (hl : lo ≤ hi) :
    lo ≤ rng x lo (rsp lo hi) ∧ rng x lo (rsp lo hi) ≤ hi := by
  have e : rsp lo hi = (hi - lo + 1) % 18446744073709551616 := by simp only [rsp, IntKind.wrap_u64]; omega
  unfold rng
  by_cases h0 : rsp lo hi = 0
  · rw [if_pos h0]
    rw [e] at h0
    simp only [wrap64, IntKind.wrap_u64]
    omega
  · rw [if_neg h0]
    have h1 := Int.emod_nonneg x h0
    have h2 := Int.emod_lt_of_pos x (show 0 < rsp lo hi by have := rsp_nonneg lo hi; omega)
    generalize x % rsp lo hi = r at h1 h2 ⊢
    rw [e] at h0 h2
    simp only [wrap64, IntKind.wrap_u64]
    omega
theorem mixI_lt (a b : Int) : mixI a b ≤ 18446744073709551615 := by
  unfold mixI m3 bits
  simp only [IntKind.wrap_u64]
  omega
end Go.Proofs.Ytcdadpbnmilgiaa
