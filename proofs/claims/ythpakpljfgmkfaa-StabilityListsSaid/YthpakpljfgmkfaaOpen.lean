/- An argument that is a slice of ints, opened to its cells. -/
import Derived.Test.YthpakpljfgmkfaaInts
import Derived.ProofKit
import Derived.OpenShut
import Derived.Deep.Slices
import Derived.Deep.Fields
import Derived.ChangeSame
namespace Go.Proofs.Ythpakpljfgmkfaa
open Go.ChangeShapes Go.WideShapes Go.ChangeAt Go.RowKit Go.Deep

theorem laidOut : laidOutB Try.prog = true := by kernel_rfl

section
variable {H : Type} {enc : TypeId × Value → H} {W : World} {B : Nat}
theorem open_li {fuel : Nat} {cs : List Value} {x : DataW H × List MemPlace}
    (h : DataW.trod enc Try.prog W 0 (fun _ => true) true fuel 23 cs = some x) (hlt : ∀ y ∈ x.2, y.block < B) :
    ∃ (A : Option Addr) (n c : Nat), cs = [.slice A n c] ∧ n ≤ c ∧ ∃ xs : List Int, xs.length = n ∧ RdI W B A xs := by
  have h3 : Try.prog.cellsOf 3 = 1 := by kernel_rfl
  rcases open_slice Try.underlying23 h with ⟨rfl, _⟩ | ⟨a, len, cap, m, fu, D, Pl, rfl, _, hl, _, hm, rfl, hi⟩
  · exact ⟨_, _, _, rfl, Nat.le_refl _, [], rfl, .inl rfl⟩
  · simp only [if_true] at hm
    subst hm
    have hall : ∀ i, ∃ z : Int, i < m → W.cell? (a.add i) = some (.int .i64 z) := by
      intro i
      by_cases him : i < m
      · obtain ⟨cs', hc, ht'⟩ := hi i him
        rw [h3] at hc
        obtain ⟨_, hcl, hat⟩ := World.cells?_some hc
        match cs', hcl with
        | [c0], _ =>
          obtain ⟨z0, e0, _, _⟩ := DataW.trod_int Try.underlying3 ht'
          simp at e0
          have k0 := hat 0 (by omega)
          refine ⟨z0, fun _ => ?_⟩
          rw [← e0]; simpa [Addr.add] using k0
      · exact ⟨0, fun h => absurd h him⟩
    obtain ⟨f, hf⟩ := Classical.axiomOfChoice hall
    refine ⟨_, _, _, rfl, hl, (List.range len).map f, by simp, ?_⟩
    by_cases hz : len = 0
    · subst hz; exact .inl rfl
    · obtain ⟨b, off, spot⟩ := a
      have hspot : spot = none := by
        have := World.cell?_spot (hf 0 (by omega))
        simpa [Addr.add] using this
      subst hspot
      have hb : b < B := hlt (.cell b off) (List.mem_append_left _ (MemPlace.mem_row.2 ⟨0, by rw [h3]; omega, by simp⟩))
      refine .inr ⟨b, off, rfl, hb, fun j hj => ?_⟩
      have hj' : j < len := by simpa using hj
      have hg : ((List.range len).map f).getD j 0 = f j := by simp [List.getD, List.getElem?_map, List.getElem?_range hj']
      rw [hg]
      have k0 := hf j (by omega)
      rw [add_plain] at k0
      exact k0

end
end Go.Proofs.Ythpakpljfgmkfaa
