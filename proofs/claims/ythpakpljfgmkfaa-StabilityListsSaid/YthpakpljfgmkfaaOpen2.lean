/- An argument that is a slice of int32, opened; the bounds of the small integers. -/
import Derived.Test.YthpakpljfgmkfaaOpen
namespace Go.Proofs.Ythpakpljfgmkfaa
open Go.ChangeShapes Go.WideShapes Go.ChangeAt Go.RowKit Go.Deep
theorem wf_i32 {a : Int} (h : (Lit.int .i32 a).wf = true) : -2147483648 ≤ a ∧ a ≤ 2147483647 := by
  have h1 : IntKind.i32.min = -2147483648 := rfl
  have h2 : IntKind.i32.max = 2147483647 := rfl
  simp only [Lit.wf, Bool.and_eq_true, decide_eq_true_eq] at h
  omega
theorem wf_i16 {a : Int} (h : (Lit.int .i16 a).wf = true) : -32768 ≤ a ∧ a ≤ 32767 := by
  have h1 : IntKind.i16.min = -32768 := rfl
  have h2 : IntKind.i16.max = 32767 := rfl
  simp only [Lit.wf, Bool.and_eq_true, decide_eq_true_eq] at h
  omega
theorem wf_i8 {a : Int} (h : (Lit.int .i8 a).wf = true) : -128 ≤ a ∧ a ≤ 127 := by
  have h1 : IntKind.i8.min = -128 := rfl
  have h2 : IntKind.i8.max = 127 := rfl
  simp only [Lit.wf, Bool.and_eq_true, decide_eq_true_eq] at h
  omega
theorem wf_u8 {a : Int} (h : (Lit.int .u8 a).wf = true) : 0 ≤ a ∧ a ≤ 255 := by
  have h1 : IntKind.u8.min = 0 := rfl
  have h2 : IntKind.u8.max = 255 := rfl
  simp only [Lit.wf, Bool.and_eq_true, decide_eq_true_eq] at h
  omega
theorem wf_i64 {a : Int} (h : (Lit.int .i64 a).wf = true) : -9223372036854775808 ≤ a ∧ a ≤ 9223372036854775807 := by
  have h1 : IntKind.i64.min = -9223372036854775808 := rfl
  have h2 : IntKind.i64.max = 9223372036854775807 := rfl
  simp only [Lit.wf, Bool.and_eq_true, decide_eq_true_eq] at h
  omega
section
variable {H : Type} {enc : TypeId × Value → H} {W : World} {B : Nat}
theorem open_lx {fuel : Nat} {cs : List Value} {x : DataW H × List MemPlace}
    (h : DataW.trod enc Try.prog W 0 (fun _ => true) true fuel 22 cs = some x) (hlt : ∀ y ∈ x.2, y.block < B) :
    ∃ (A : Option Addr) (n c : Nat), cs = [.slice A n c] ∧ n ≤ c ∧ ∃ xs : List Int, xs.length = n ∧ (xs = [] ∨ ∃ b o, A = some ⟨b, o, none⟩ ∧ b < B ∧ ∀ j, j < xs.length → W.cell? ⟨b, o + j, none⟩ = some (.int .i32 (xs.getD j 0)) ∧ -2147483648 ≤ xs.getD j 0 ∧ xs.getD j 0 ≤ 2147483647) := by
  have h3 : Try.prog.cellsOf 21 = 1 := by kernel_rfl
  rcases open_slice Try.underlying22 h with ⟨rfl, _⟩ | ⟨a, len, cap, m, fu, D, Pl, rfl, _, hl, _, hm, rfl, hi⟩
  · exact ⟨_, _, _, rfl, Nat.le_refl _, [], rfl, .inl rfl⟩
  · simp only [if_true] at hm
    subst hm
    have hall : ∀ i, ∃ z : Int, i < m → W.cell? (a.add i) = some (.int .i32 z) ∧ -2147483648 ≤ z ∧ z ≤ 2147483647 := by
      intro i
      by_cases him : i < m
      · obtain ⟨cs', hc, ht'⟩ := hi i him
        rw [h3] at hc
        obtain ⟨_, hcl, hat⟩ := World.cells?_some hc
        match cs', hcl with
        | [c0], _ =>
          obtain ⟨z0, e0, _, wz⟩ := DataW.trod_int Try.underlying21 ht'
          simp at e0
          have k0 := hat 0 (by omega)
          refine ⟨z0, fun _ => ⟨?_, wf_i32 wz⟩⟩
          rw [← e0]; simpa [Addr.add] using k0
      · exact ⟨0, fun h => absurd h him⟩
    obtain ⟨f, hf⟩ := Classical.axiomOfChoice hall
    refine ⟨_, _, _, rfl, hl, (List.range len).map f, by simp, ?_⟩
    by_cases hz : len = 0
    · subst hz; exact .inl rfl
    · obtain ⟨b, off, spot⟩ := a
      have hspot : spot = none := by
        have := World.cell?_spot (hf 0 (by omega)).1
        simpa [Addr.add] using this
      subst hspot
      have hb : b < B := hlt (.cell b off) (List.mem_append_left _ (MemPlace.mem_row.2 ⟨0, by rw [h3]; omega, by simp⟩))
      refine .inr ⟨b, off, rfl, hb, fun j hj => ?_⟩
      have hj' : j < len := by simpa using hj
      have hg : ((List.range len).map f).getD j 0 = f j := by simp [List.getD, List.getElem?_map, List.getElem?_range hj']
      rw [hg]
      obtain ⟨k0, k1⟩ := hf j (by omega)
      rw [add_plain] at k0
      exact ⟨k0, k1⟩

end
end Go.Proofs.Ythpakpljfgmkfaa
