/- The deferred closure of safely. -/
import Derived.Test.YthpakpljfgmkfaaW6
import Derived.Tactics
import Derived.Tactics2
import Derived.Defers
import Derived.Recover
import Derived.Laws.Pointers
namespace Go.Proofs.Ythpakpljfgmkfaa
open Go.RowKit

set_option maxHeartbeats 4000000 in
theorem catch_idle (p q : Addr) (w : World) :
    CallsD Try.prog 48 #[.pointer (some p), .pointer (some q)] .returning w fun e u' w' => e = .returned (.tuple #[]) ∧ u' = .returning ∧ w' = w := by
  refine callsD_of_wpS Try.func48 rfl fun c₀ cs hu => ?_
  apply wpS_seq
  apply wpS_region
  simp [wpOpsS, go_sem, recoverD, hu, Try.ntmps48, Exit.thenS]
  have e : (#[Value.pointer (some p), Value.pointer (some q)] ++ ((Array.replicate 14 undef).setIfInBounds 3 Value.nilIface).setIfInBounds 0 Value.nilIface : Array Value) = #[.pointer (some p), .pointer (some q), .nilIface, undef, undef, .nilIface, undef, undef, undef, undef, undef, undef, undef, undef, undef, undef] := rfl
  rw [e]
  refine wpS_of_wp ?_
  go_wp2
  cases c₀
  simp_all [bodyPostS, results, Try.results48]

set_option maxHeartbeats 4000000 in
theorem catch_panicking (p q : Nat) (x y : Int) (older : List PanicEntry) (w : World) (hp : Blk w p 3 #[.int .i64 x]) (hq : Blk w q 25 #[.int .i64 y]) :
    CallsD Try.prog 48 #[.pointer (some ⟨p, 0, none⟩), .pointer (some ⟨q, 0, none⟩)] (.panicking ({ v := .iface 63 (.agg #[]), recovered := false } :: older)) w fun e u' w' =>
      e = .returned (.tuple #[]) ∧ u' = .panicking ({ v := .iface 63 (.agg #[]), recovered := true } :: older) ∧ Blk w' p 3 #[.int .i64 0] ∧ Blk w' q 25 #[.int .i64 4] ∧ Frm w w' (fun k => k = p ∨ k = q) := by
  have hta : ∀ w, (Instr.typeAssert (.iface 63 (.agg #[])) 20 63 true).run Try.prog w = .ok (.tuple #[.agg #[], .bool true]) w := fun w => by
    simp [Instr.typeAssert, run_underlying Try.underlying63, Result.andThen]
  have hpq : p ≠ q := Blk.ne hp hq (by decide)
  have hp1 := hp.alloc (.cells #[] 63)
  have hq1 := hq.alloc (.cells #[] 63)
  have a1 := hp1.cellIs (i := 0) rfl
  have a2 := hp1.frozen 0
  have hp2 := hp1.put 0 (.int .i64 0)
  have hq2 := hq1.away (b := p) (fun e => hpq e.symm) 0 (.int .i64 0)
  have a3 := hq2.cellIs (i := 0) rfl
  have a4 := hq2.frozen 0
  have hp3 := hp2.away (b := q) hpq 0 (.int .i64 4)
  have hq3 := hq2.put 0 (.int .i64 4)
  have hF := (((Frm.refl w (fun k => k = p ∨ k = q)).alloc (.cells #[] 63)).put (b := p) (fun _ => .inl rfl) 0 (.int .i64 0)).put (b := q) (fun _ => .inr rfl) 0 (.int .i64 4)
  refine callsD_of_wpS Try.func48 rfl fun c₀ cs hu => ?_
  apply wpS_seq
  apply wpS_region
  simp [wpOpsS, go_sem, recoverD, hu, Try.ntmps48, Exit.thenS]
  have e : (#[Value.pointer (some ⟨p, 0, none⟩), Value.pointer (some ⟨q, 0, none⟩)] ++ ((Array.replicate 14 undef).setIfInBounds 3 (Value.iface 63 (.agg #[]))).setIfInBounds 0 (Value.iface 63 (.agg #[])) : Array Value) = #[.pointer (some ⟨p, 0, none⟩), .pointer (some ⟨q, 0, none⟩), .iface 63 (.agg #[]), undef, undef, .iface 63 (.agg #[]), undef, undef, undef, undef, undef, undef, undef, undef, undef, undef] := rfl
  rw [e]
  refine wpS_of_wp ?_
  go_wp2
  generalize (((w.alloc (.cells #[] 63)).setCell ⟨p, 0, none⟩ (.int .i64 0)).setCell ⟨q, 0, none⟩ (.int .i64 4)) = w3 at *
  cases c₀
  simp [bodyPostS, results, Try.results48]
  exact ⟨hp3, hq3, hF⟩
end Go.Proofs.Ythpakpljfgmkfaa
