/- The sources of a play: what is known of one side's list of sources. -/
import Derived.Test.YtcdadpbnmilgiaaW6
namespace Go.Proofs.Ytcdadpbnmilgiaa
open Go.RowKit PrngPure

theorem row_frm {w w' : World} {T : Nat → Prop} {base n size : Nat} {e : TypeId} {v : Value} {xs : List Value} (h : w.ownsRow base e size v n xs) (f : Frm w w' T) (hT : ∀ k, T k → ∀ cur, w.heap[k]? ≠ some (.cells cur e (0, 0))) : w'.ownsRow base e size v n xs := by
  refine ⟨h.1, ?_⟩
  rcases h.2 with hn | ⟨g, cap, cur, rfl, hb, hg, rest⟩
  · exact .inl hn
  · exact .inr ⟨g, cap, cur, rfl, hb, (f.block g (Array.getElem?_eq_some_iff.1 hg).1 (fun c => hT g c cur hg)).trans hg, rest⟩

/-- The blocks of T bear other types. -/
def Off (ts te : TypeId) (w : World) (T : Nat → Prop) : Prop := ∀ k, T k → ∃ t cs, Blk w k t cs ∧ t ≠ ts ∧ t ≠ te
theorem Off.none {ts te : TypeId} {w : World} : Off ts te w NoB := fun _ h => h.elim
theorem Off.of {ts te t : TypeId} {w : World} {k : Nat} {cs : Array Value} (h : Blk w k t cs) (h1 : t ≠ ts) (h2 : t ≠ te) : Off ts te w (· = k) := fun j hj => by
  subst hj
  exact ⟨t, cs, h, h1, h2⟩
theorem Blk.off {ts te t : TypeId} {w w' : World} {T : Nat → Prop} {k : Nat} {cs : Array Value} (h : Blk w k t cs) (f : Frm w w' T) (o : Off ts te w T) (ht : t = ts ∨ t = te) : Blk w' k t cs := h.frm f (fun c => by
  obtain ⟨t', cs', hb, h1, h2⟩ := o k c
  have := fun e => Blk.ne h hb e rfl
  rcases ht with rfl | rfl
  · exact this (fun e => h1 e.symm)
  · exact this (fun e => h2 e.symm))

/-- The pointers to n sources. -/
def ptrs (n : Nat) (G : Nat → Nat) : List Value := (List.range n).map fun j => .pointer (some ⟨G j, 0, none⟩)
theorem ptrs_len (n : Nat) (G : Nat → Nat) : (ptrs n G).length = n := by simp [ptrs]
theorem ptrs_get (n : Nat) (G : Nat → Nat) (j : Nat) (h : j < n) : (ptrs n G)[j]? = some (.pointer (some ⟨G j, 0, none⟩)) := by simp [ptrs, h]
theorem ptrs_push (n : Nat) (G : Nat → Nat) (f : Nat) : ptrs (n + 1) (fun j => if j = n then f else G j) = ptrs n G ++ [.pointer (some ⟨f, 0, none⟩)] := by
  simp only [ptrs, List.range_succ, List.map_append, List.map_cons, List.map_nil, if_true]
  congr 1
  apply List.map_congr_left
  intro j hj
  have : j < n := by simpa using hj
  rw [if_neg (by omega)]

/-- One side: a row of n pointers to sources of type ts; each but source i is as K says. -/
structure Side (ts te : TypeId) (w0 w : World) (v : Value) (n i : Nat) (G : Nat → Nat) (K : Nat → Int × Int) : Prop where
  row : w.ownsRow w0.heap.size te 1 v n (ptrs n G)
  src : ∀ j, j < n → j ≠ i → Blk w (G j) ts #[.int .u64 (K j).1, .int .u64 (K j).2]
  low : ∀ j, j < n → w0.heap.size ≤ G j
  inj : ∀ j k, j < n → k < n → G j = G k → j = k

section
variable {ts te : TypeId} {w0 w w' : World} {v : Value} {n i : Nat} {G : Nat → Nat} {K : Nat → Int × Int} {T : Nat → Prop}
theorem Side.off (h : Side ts te w0 w v n i G K) (f : Frm w w' T) (o : Off ts te w T) : Side ts te w0 w' v n i G K :=
  ⟨row_frm h.row f (fun k hk cur e => by
    obtain ⟨t, cs, hb, h1, h2⟩ := o k hk
    unfold Blk at hb
    rw [e] at hb
    injection hb with hb
    injection hb with _ ht
    exact h2 ht.symm), fun j hj hne => (h.src j hj hne).off f o (.inl rfl), h.low, h.inj⟩
theorem Side.own {cs : Array Value} (h : Side ts te w0 w v n i G K) (hne : ts ≠ te) (hi : i < n) (hb : Blk w (G i) ts cs) (f : Frm w w' (· = G i)) : Side ts te w0 w' v n i G K :=
  ⟨row_frm h.row f (fun k hk cur e => by
    subst hk
    unfold Blk at hb
    rw [e] at hb
    injection hb with hb
    injection hb with _ ht
    exact hne ht.symm), fun j hj hn => (h.src j hj hn).frm f (fun e => hn (h.inj j i hj hi e)), h.low, h.inj⟩
theorem Side.lay (h : Side ts te w0 w v n n G K) (hi : i < n) : Side ts te w0 w v n i G K ∧ Blk w (G i) ts #[.int .u64 (K i).1, .int .u64 (K i).2] :=
  ⟨⟨h.row, fun j hj _ => h.src j hj (by omega), h.low, h.inj⟩, h.src i hi (by omega)⟩
theorem Side.shut {s c : Int} (h : Side ts te w0 w v n i G K) (hb : Blk w (G i) ts #[.int .u64 s, .int .u64 c]) : Side ts te w0 w v n n G (fun j => if j = i then (s, c) else K j) :=
  ⟨h.row, fun j hj _ => by
    by_cases e : j = i
    · subst e
      simp only [if_true]
      exact hb
    · simp only [if_neg e]
      exact h.src j hj e, h.low, h.inj⟩
theorem Side.push {v' : Value} {f gv : Nat} {cv : Array Value} {x y : Int} (h : Side ts te w0 w v n i G K) (hne : ts ≠ te) (hO : Blk w gv te cv) (fr : Frm w w' (· = gv)) (hr : w'.ownsRow w0.heap.size te 1 v' (n + 1) (ptrs n G ++ [.pointer (some ⟨f, 0, none⟩)])) (hi : i < n) (hb : Blk w' f ts #[.int .u64 x, .int .u64 y])
    (hl : w0.heap.size ≤ f) (hf : ∀ j, j < n → G j ≠ f) : Side ts te w0 w' v' (n + 1) i (fun j => if j = n then f else G j) (fun j => if j = n then (x, y) else K j) := by
  refine ⟨by rw [ptrs_push]; exact hr, fun j hj hji => ?_, fun j hj => ?_, fun j k hj hk e => ?_⟩
  · by_cases e : j = n
    · subst e; simp only [if_true]; exact hb
    · simp only [if_neg e]; exact (h.src j (by omega) hji).frm fr (Blk.ne (h.src j (by omega) hji) hO hne)
  · by_cases e : j = n
    · simp only [if_pos e]; exact hl
    · simp only [if_neg e]; exact h.low j (by omega)
  · by_cases e1 : j = n
    · by_cases e2 : k = n
      · omega
      · simp only [if_pos e1, if_neg e2] at e
        exact absurd e.symm (hf k (by omega))
    · by_cases e2 : k = n
      · simp only [if_neg e1, if_pos e2] at e
        exact absurd e (hf j (by omega))
      · simp only [if_neg e1, if_neg e2] at e
        exact h.inj j k (by omega) (by omega) e
theorem Side.form (h : Side ts te w0 w v n i G K) (hn : 0 < n) : ∃ g cap cv, v = .slice (some ⟨g, 0, none⟩) n cap ∧ Blk w g te cv ∧ (∀ j, j < n → cv[j]? = some (.pointer (some ⟨G j, 0, none⟩))) ∧ w0.heap.size ≤ g := by
  rcases h.row.2 with ⟨_, hz⟩ | ⟨g, cap, cur, rfl, hb, hg, hle, hcm, hcs, htk⟩
  · omega
  · refine ⟨g, cap, cur, rfl, hg, fun j hj => ?_, hb⟩
    have e := ptrs_get n G j hj
    rw [← htk, List.getElem?_take_of_lt (by omega)] at e
    simpa using e
theorem Side.fresh {f : Nat} {cs : Array Value} (h : Side ts te w0 w v n i G K) (hb : Blk w (G i) ts cs) (hf : w.heap.size ≤ f) : ∀ j, j < n → G j ≠ f := fun j hj e => by
  by_cases hji : j = i
  · subst hji
    have := hb.lt
    omega
  · have := (h.src j hj hji).lt
    omega
end
theorem Blk.also {w : World} {g : Nat} {t : TypeId} {cs : Array Value} (_ : Blk w g t cs) (t' : TypeId) (cs' : Array Value) : Blk (w.alloc (.cells cs' t')) w.heap.size t' cs' := Blk.new _ _ _
theorem ptr_info27 : (Try.prog.info? 27).map (fun i => (i.zero, i.size, i.bytes)) = some (some (.pointer none), 1, 8) := by kernel_rfl
theorem ptr_info42 : (Try.prog.info? 42).map (fun i => (i.zero, i.size, i.bytes)) = some (some (.pointer none), 1, 8) := by kernel_rfl

/-- One element appended to a row that the call owns; the old row stays as it was up to its length. -/
theorem oper_append1 {w : World} {o : Oper} {a : Act} {K : Act → World → Prop} {Q : Exit → Act → World → Prop} (s x : Operand) (t e : TypeId)
    (ho : o.op = .call { callee := .builtin .append, args := #[s, x], argTypes := #[t, t] })
    (ht : Try.prog.underlying t = some (.slice e)) (hinf : (Try.prog.info? e).map (fun i => (i.zero, i.size, i.bytes)) = some (some (.pointer none), 1, 8))
    {base g n cap b : Nat} {xs : List Value} {y : Value} (hown : w.ownsRow base e 1 (.slice (some ⟨g, 0, none⟩) n cap) n xs) (hs : a.eval s = .slice (some ⟨g, 0, none⟩) n cap)
    (hx : a.eval x = .slice (some ⟨b, 0, none⟩) 1 1) (hb : Blk w b e #[y]) (h1 : y.oneCell' = true) (hn : n ≤ 1000) (hbase : base ≤ w.heap.size)
    (h : ∀ v' w', w'.ownsRow base e 1 v' (n + 1) (xs ++ [y]) → Frm w w' (· = g) → (∃ cv' : Array Value, Blk w' g e cv' ∧ ∀ (j : Nat) (u : Value), xs[j]? = some u → cv'[j]? = some u) → K (a.put o.dst v') w') : Oper.wp Try.prog o a w K Q := by
  obtain ⟨i0, hi, hz0, hz1, hz2⟩ := info_parts hinf
  have hnews : ∀ j u, [y][j]? = some u → w.cell? ((⟨b, 0, none⟩ : Addr).add j) = some u := by
    intro j u hj
    match j, hj with
    | 0, hj => simp at hj; subst hj; exact hb.cellIs (i := 0) rfl
  have hy1 : ∀ u ∈ [y], u.oneCell' = true := by intro u hu; simp at hu; subst hu; exact h1
  obtain ⟨v', w', hr, h2, h3, _⟩ := run_append_own (P := Try.prog) w base t o.type e i0 (.pointer none) 1 8 ht hi hz0 hz1 hz2 rfl (by decide) _ n xs hown ⟨b, 0, none⟩ 1 1 [y] rfl hnews hy1 (by unfold maxLen; omega) (by omega) hbase
  have hold : ∃ cv' : Array Value, Blk w' g e cv' ∧ ∀ (j : Nat) (u : Value), xs[j]? = some u → cv'[j]? = some u := by
    have hl : xs.length = n := by have := hown.1; simpa using this
    rcases hown.2 with ⟨hc, _⟩ | ⟨g', cap', cur, hv, hbg, hg, hnc, hcm, hcs, htk⟩
    · cases hc
    · injection hv with hv1 hv2 hv3
      simp only [Option.some.injEq, Addr.mk.injEq, and_true] at hv1
      subst hv1 hv3
      have hcur : ∀ (j : Nat) (u : Value), xs[j]? = some u → cur[j]? = some u := by
        intro j u hu
        have hj : j < n := by rw [← hl]; exact (List.getElem?_eq_some_iff.1 hu).1
        rw [← htk, List.getElem?_take_of_lt (by omega)] at hu
        simpa using hu
      by_cases hroom : n + 1 ≤ cap
      · have hr2 := run_append_room (P := Try.prog) w t o.type e i0 ht hi g n cap cur hg ⟨b, 0, none⟩ 1 1 [y] (by rw [hz1]; rfl) hnews hy1 hroom (by rw [hz1, hcs]; simp; omega)
        rw [hr] at hr2
        injection hr2 with _ hw
        subst hw
        refine ⟨_, setRow_heap w g cur _ e _ hg, fun j u hu => ?_⟩
        have hj : j < n := by rw [← hl]; exact (List.getElem?_eq_some_iff.1 hu).1
        have hk : j < (cur.toList.take (n * i0.size)).length := by rw [hz1, List.length_take, Array.length_toList, hcs]; omega
        rw [List.getElem?_toArray, List.append_assoc, List.getElem?_append_left hk, List.getElem?_take_of_lt (by rw [hz1]; omega)]
        simpa using hcur j u hu
      · have holds : ∀ j u, xs[j]? = some u → w.cell? ((⟨g, 0, none⟩ : Addr).add j) = some u := hown.cells (g := g) rfl
        have hr2 := run_append_grow (P := Try.prog) w t o.type e i0 (.pointer none) ht hi hz0 ⟨g, 0, none⟩ n cap xs (by rw [hz1, Nat.mul_one]; exact hl) holds ⟨b, 0, none⟩ 1 1 [y] (by rw [hz1]; rfl) hnews (by omega) (by omega) (growslice_fits (by omega) (by rw [hz2]; omega))
        rw [hr] at hr2
        injection hr2 with _ hw
        subst hw
        have hB : Blk w g e cur := hg
        exact ⟨cur, hB.drew.alloc _, hcur⟩
  have hF : Frm w w' (· = g) := ⟨h3.os, h3.tape, h3.output, h3.size, fun k hk hn => h3.block k hk (fun e => hn (by simpa [Value.ownBlock] using e))⟩
  unfold Oper.wp execOp
  simp only [ho, resolve, invoke, builtin, Sem.run_bind, Sem.run_pure, Result.andThen_ok, List.map_toArray, List.map_cons, List.map_nil, hs, hx, hr]
  exact h v' w' h2 hF hold
end Go.Proofs.Ytcdadpbnmilgiaa
