/- An argument that is a link, or a list of messages, opened to its cells. -/
import Derived.Test.YtchmaecakjeceaaW2
import Derived.Test.YtchmaecakjeceaaW5
import Derived.ProofKit
import Derived.OpenShut
import Derived.Deep.Slices
import Derived.Deep.Fields
import Derived.Deep.Strs
import Derived.ChangeSame
namespace Go.Proofs.Ytchmaecakjeceaa
open Go.ChangeShapes Go.WideShapes Go.ChangeAt Go.RowKit Go.Deep

theorem laidOut : laidOutB Try.prog = true := by kernel_rfl

section
variable {H : Type} {enc : TypeId × Value → H} {W : World} {B : Nat}
theorem open_three {t e : TypeId} {f0 f1 f2 : Field} {fuel : Nat} {cs : List Value} {x : DataW H × List MemPlace}
    (ht : Try.prog.underlying t = some (.slice e)) (he : Try.prog.underlying e = some (.struct #[f0, f1, f2])) (hC : Try.prog.cellsOf e = 3)
    (o0 : f0.offset = 0) (o1 : f1.offset = 1) (o2 : f2.offset = 2) (t0 : f0.type = 3) (t1 : f1.type = 3) (t2 : f2.type = 3)
    (h : DataW.trod enc Try.prog W 0 (fun _ => true) true fuel t cs = some x) (hlt : ∀ y ∈ x.2, y.block < B) :
    ∃ (A : Option Addr) (n c : Nat), cs = [.slice A n c] ∧ ∃ zs : List Chg, zs.length = n ∧ RdC W B A zs := by
  have h3 : Try.prog.cellsOf 3 = 1 := by kernel_rfl
  rcases open_slice ht h with ⟨rfl, _⟩ | ⟨a, len, cap, m, fu, D, Pl, rfl, _, hl, _, hm, rfl, hi⟩
  · exact ⟨_, _, _, rfl, [], rfl, .inl rfl⟩
  · simp only [if_true] at hm
    subst hm
    have hall : ∀ i, ∃ z : Chg, i < m → W.cell? (a.add (i * 3)) = some (.int .i64 z.at_) ∧ W.cell? ((a.add (i * 3)).add 1) = some (.int .i64 z.dir) ∧ W.cell? ((a.add (i * 3)).add 2) = some (.int .i64 z.del) := by
      intro i
      by_cases him : i < m
      · obtain ⟨cs', hc, ht'⟩ := hi i him
        rw [hC] at hc
        obtain ⟨y0, y1, y2, n', _, hlen, g0, g1, g2⟩ := trod_struct3 he ht'
        obtain ⟨_, hcl, hat⟩ := World.cells?_some hc
        rw [o0, t0, h3] at g0
        rw [o1, t1, h3] at g1
        rw [o2, t2, h3] at g2
        match cs', hcl with
        | [c0, c1, c2], _ =>
          obtain ⟨z0, e0, _, _⟩ := DataW.trod_int Try.underlying3 g0
          obtain ⟨z1, e1, _, _⟩ := DataW.trod_int Try.underlying3 g1
          obtain ⟨z2, e2, _, _⟩ := DataW.trod_int Try.underlying3 g2
          simp at e0 e1 e2
          have k0 := hat 0 (by omega)
          have k1 := hat 1 (by omega)
          have k2 := hat 2 (by omega)
          refine ⟨⟨z0, z1, z2⟩, fun _ => ⟨?_, ?_, ?_⟩⟩
          · rw [← e0]; simpa [Addr.add] using k0
          · rw [← e1]; exact k1
          · rw [← e2]; exact k2
      · exact ⟨Chg.z, fun h => absurd h him⟩
    obtain ⟨f, hf⟩ := Classical.axiomOfChoice hall
    refine ⟨_, _, _, rfl, (List.range len).map f, by simp, ?_⟩
    by_cases hz : len = 0
    · subst hz; exact .inl rfl
    · obtain ⟨b, off, spot⟩ := a
      have hspot : spot = none := by
        have := World.cell?_spot (hf 0 (by omega)).1
        simpa [Addr.add] using this
      subst hspot
      have hb : b < B := hlt (.cell b off) (List.mem_append_left _ (MemPlace.mem_row.2 ⟨0, by rw [hC]; omega, by simp⟩))
      refine .inr ⟨b, off, rfl, hb, fun j hj => ?_⟩
      have hj' : j < len := by simpa using hj
      have hg : ((List.range len).map f).getD j Chg.z = f j := by simp [List.getD, List.getElem?_map, List.getElem?_range hj']
      rw [hg]
      obtain ⟨k0, k1, k2⟩ := hf j (by omega)
      rw [add_plain, add_plain] at k1 k2
      rw [add_plain] at k0
      exact ⟨k0, k1, k2⟩

theorem open_link {v : Value} {d : DataW H} {p : List MemPlace} {r : Reach} {b0 : Nat} (hv : Value.okWide Try.prog W r b0 26 v)
    (h : DataW.Trod enc Try.prog W 0 (fun _ => true) true 26 v d p) (hlt : ∀ y ∈ p, y.block < B) :
    ∃ (d0 d1 v0 v1 ls sd : Int) (A : Option Addr) (n c : Nat), v = .agg #[.int .i64 d0, .int .i64 d1, .int .i64 v0, .int .i64 v1, .int .i64 ls, .int .u64 sd, .slice A n c] ∧
      (Lit.int .u64 sd).wf = true ∧ ∃ zs : List Chg, zs.length = n ∧ RdC W B A zs := by
  have h3 : Try.prog.cellsOf 3 = 1 := by kernel_rfl
  have h22 : Try.prog.cellsOf 22 = 2 := by kernel_rfl
  have h23 : Try.prog.cellsOf 23 = 1 := by kernel_rfl
  have h24 : Try.prog.cellsOf 24 = 1 := by kernel_rfl
  have h26 : Try.prog.cellsOf 26 = 7 := by kernel_rfl
  obtain ⟨cs, rfl, hsz⟩ := okWide_struct Try.underlying26 hv
  obtain ⟨l⟩ := cs
  match l, hsz.trans h26 with
  | [c0, c1, c2, c3, c4, c5, c6], _ =>
    obtain ⟨fuel, hf⟩ := h
    obtain ⟨xs, n, _, hx, _, hlen, hg⟩ := DataW.trod_struct Try.underlying26 hf
    match xs, hlen with
    | [y0, y1, y2, y3, y4], _ =>
      simp only [Prod.mk.injEq] at hx
      have g0 := hg 0 _ rfl
      have g1 := hg 1 _ rfl
      have g2 := hg 2 _ rfl
      have g3 := hg 3 _ rfl
      have g4 := hg 4 _ rfl
      simp [Value.cells, h22, h3, h23, h24] at g0 g1 g2 g3 g4
      obtain ⟨xs0, m0, _, _, _, hl0, hq0⟩ := DataW.trod_array Try.underlying22 g0
      obtain ⟨xs1, m1, _, _, _, hl1, hq1⟩ := DataW.trod_array Try.underlying22 g1
      match xs0, hl0, xs1, hl1 with
      | [a0, a1], _, [b0, b1], _ =>
        have r0 := hq0 0 (by omega)
        have r1 := hq0 1 (by omega)
        have s0 := hq1 0 (by omega)
        have s1 := hq1 1 (by omega)
        simp [h3] at r0 r1 s0 s1
        obtain ⟨z0, e0, _, _⟩ := DataW.trod_int Try.underlying3 r0
        obtain ⟨z1, e1, _, _⟩ := DataW.trod_int Try.underlying3 r1
        obtain ⟨z2, e2, _, _⟩ := DataW.trod_int Try.underlying3 s0
        obtain ⟨z3, e3, _, _⟩ := DataW.trod_int Try.underlying3 s1
        obtain ⟨z4, e4, _, _⟩ := DataW.trod_int Try.underlying3 g2
        obtain ⟨z5, e5, _, w5⟩ := DataW.trod_int Try.underlying23 g3
        obtain ⟨A, n, c, e6, zs, hn, hr⟩ := open_three (B := B) Try.underlying24 Try.underlying48 (by kernel_rfl) rfl rfl rfl rfl rfl rfl g4 (fun y hy => hlt y (by
          rw [hx.2]; simp; exact .inr (.inr (.inr (.inr hy)))))
        simp only [List.cons.injEq, and_true] at e0 e1 e2 e3 e4 e5 e6
        subst e0 e1 e2 e3 e4 e5 e6
        exact ⟨_, _, _, _, _, _, _, _, _, rfl, w5, zs, hn, hr⟩
end
end Go.Proofs.Ytchmaecakjeceaa
