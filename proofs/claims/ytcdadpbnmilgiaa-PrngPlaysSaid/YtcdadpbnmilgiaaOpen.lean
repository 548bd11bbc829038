/- An argument that is a list of deeds, opened to its cells. -/
import Derived.Test.YtcdadpbnmilgiaaW8
import Derived.ProofKit
import Derived.OpenShut
import Derived.Deep.Slices
import Derived.Deep.Fields
import Derived.ChangeSame
namespace Go.Proofs.Ytcdadpbnmilgiaa
open Go.ChangeShapes Go.WideShapes Go.ChangeAt Go.RowKit Go.Deep

theorem laidOut : laidOutB Try.prog = true := by kernel_rfl

section
variable {H : Type} {enc : TypeId × Value → H} {W : World} {B : Nat}
theorem open_deeds {fuel : Nat} {cs : List Value} {x : DataW H × List MemPlace}
    (h : DataW.trod enc Try.prog W 0 (fun _ => true) true fuel 40 cs = some x) (hlt : ∀ y ∈ x.2, y.block < B) :
    ∃ (A : Option Addr) (n c : Nat), cs = [.slice A n c] ∧ n ≤ c ∧ ∃ ds : List Dd, ds.length = n ∧ RdD W B A ds := by
  have h3 : Try.prog.cellsOf 3 = 1 := by kernel_rfl
  have hC : Try.prog.cellsOf 46 = 4 := by kernel_rfl
  rcases open_slice Try.underlying40 h with ⟨rfl, _⟩ | ⟨a, len, cap, m, fu, D, Pl, rfl, _, hl, _, hm, rfl, hi⟩
  · exact ⟨_, _, _, rfl, Nat.le_refl _, [], rfl, .inl rfl⟩
  · simp only [if_true] at hm
    subst hm
    have hall : ∀ i, ∃ z : Dd, i < m → W.cell? (a.add (i * 4)) = some (.int .i64 z.on) ∧ W.cell? ((a.add (i * 4)).add 1) = some (.int .i64 z.kind) ∧ W.cell? ((a.add (i * 4)).add 2) = some (.int .i64 z.a) ∧
        W.cell? ((a.add (i * 4)).add 3) = some (.int .i64 z.b) ∧ z.a ≤ 9223372036854775807 := by
      intro i
      by_cases him : i < m
      · obtain ⟨cs', hc, ht'⟩ := hi i him
        rw [hC] at hc
        obtain ⟨_, hcl, hat⟩ := World.cells?_some hc
        obtain ⟨xs, n, _, hx, _, hlen, hg⟩ := DataW.trod_struct Try.underlying46 ht'
        match xs, hlen, cs', hcl with
        | [y0, y1, y2, y3], _, [c0, c1, c2, c3], _ =>
          have g0 := hg 0 _ rfl
          have g1 := hg 1 _ rfl
          have g2 := hg 2 _ rfl
          have g3 := hg 3 _ rfl
          simp [h3] at g0 g1 g2 g3
          obtain ⟨z0, e0, _, _⟩ := DataW.trod_int Try.underlying3 g0
          obtain ⟨z1, e1, _, _⟩ := DataW.trod_int Try.underlying3 g1
          obtain ⟨z2, e2, _, w2⟩ := DataW.trod_int Try.underlying3 g2
          obtain ⟨z3, e3, _, _⟩ := DataW.trod_int Try.underlying3 g3
          simp at e0 e1 e2 e3
          have k0 := hat 0 (by omega)
          have k1 := hat 1 (by omega)
          have k2 := hat 2 (by omega)
          have k3 := hat 3 (by omega)
          refine ⟨⟨z0, z1, z2, z3⟩, fun _ => ⟨?_, ?_, ?_, ?_, (wf_i64 w2).2⟩⟩
          · rw [← e0]; simpa [Addr.add] using k0
          · rw [← e1]; exact k1
          · rw [← e2]; exact k2
          · rw [← e3]; exact k3
      · exact ⟨Dd.z, fun h => absurd h him⟩
    obtain ⟨f, hf⟩ := Classical.axiomOfChoice hall
    refine ⟨_, _, _, rfl, hl, (List.range len).map f, by simp, ?_⟩
    by_cases hz : len = 0
    · subst hz; exact .inl rfl
    · obtain ⟨b, off, spot⟩ := a
      have hspot : spot = none := by
        have := World.cell?_spot (hf 0 (by omega)).1
        simpa [Addr.add] using this
      subst hspot
      have hb : b < B := hlt (.cell b off) (List.mem_append_left _ (MemPlace.mem_row.2 ⟨0, by rw [hC]; omega, by simp⟩))
      refine .inr ⟨b, off, rfl, hb, fun j hj => ?_⟩
      have hj' : j < len := by simpa using hj
      have hg : ((List.range len).map f).getD j Dd.z = f j := by simp [List.getD, List.getElem?_map, List.getElem?_range hj']
      rw [hg]
      obtain ⟨k0, k1, k2, k3, k4⟩ := hf j (by omega)
      rw [add_plain, add_plain] at k1 k2 k3
      rw [add_plain] at k0
      exact ⟨k0, k1, k2, k3, k4⟩
end
end Go.Proofs.Ytcdadpbnmilgiaa
