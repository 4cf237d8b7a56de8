/-
  Several texts in one: OpenNet. No condition on any program.
-/
import Derived.Test.YtkcbocoimbhhaaaGreatOlA
import Derived.Deep.Slices
import Derived.Deep.Fields
import Derived.Lib.SmallJoins

/- How a law's arguments read: slices of pairs, slices of slices, networks that came in. No condition on any program. -/
namespace Go.Proofs.YtkcbocoimbhhaaaGreat
open Go.ChangeShapes Go.WideShapes Go.ChangeAt Go.RowKit Go.Joins Go.Deep
set_option linter.unusedVariables false

section
variable {H : Type} {enc : TypeId × Value → H} {P : Program} {W : World}
theorem open_EndS_trod {t e : TypeId} {f0 f1 : Field} {fuel : Nat} {v : Value} {x : DataW H × List MemPlace} (ht : P.underlying t = some (.slice e)) (he : P.underlying e = some (.struct #[f0, f1])) (hone : oneCellFields P #[f0, f1] = true) (hC : P.cellsOf e = 2)
    (t0 : P.underlying f0.type = some (.int .i64)) (t1 : P.underlying f1.type = some (.int .i64)) (h : DataW.trod enc P W 0 (fun _ => true) true fuel t [v] = some x) (hfz : W.noneFrozen x.2) :
    ∃ es, EndS W 0 W.heap.size v es ∧ ∀ e ∈ es, I64 e.1 ∧ I64 e.2 := by
  rcases open_slice ht h with ⟨hcs, _⟩ | ⟨a, len, cap, m, n, D, Pl, hcs, _, hl, hm, hmm, hx, hi⟩
  · simp only [List.cons.injEq, and_true] at hcs
    subst hcs
    exact ⟨[], EndS.nil _ _ _, by simp⟩
  · simp only [List.cons.injEq, and_true] at hcs
    subst hcs
    simp only [if_true] at hmm
    subst hmm
    have each : ∀ i, i < m → ∃ p : Int × Int, W.cell? (a.add (i * 2)) = some (.int .i64 p.1) ∧ W.cell? (a.add (i * 2 + 1)) = some (.int .i64 p.2) ∧ I64 p.1 ∧ I64 p.2 := by
      intro i him
      obtain ⟨cs', hc, ht'⟩ := hi i him
      rw [hC] at hc
      obtain ⟨ys, n', _, _, hlen, hyl, hf⟩ := DataW.trod_struct he ht'
      obtain ⟨_, hcl, hat⟩ := World.cells?_some hc
      match cs', hcl with
      | [c0, c1], _ =>
        obtain ⟨o0, k0⟩ := hone_of hone 0 f0 rfl
        obtain ⟨o1, k1⟩ := hone_of hone 1 f1 rfl
        have g0 := hf 0 f0 rfl
        have g1 := hf 1 f1 rfl
        rw [o0, k0] at g0
        rw [o1, k1] at g1
        simp only [List.drop_zero, List.take_succ_cons, List.take_zero, List.drop_succ_cons] at g0 g1
        match ys, hyl with
        | [y0, y1], _ =>
          simp only [List.getElem?_cons_zero, List.getElem?_cons_succ] at g0 g1
          obtain ⟨x0, e0, _, w0⟩ := DataW.trod_int t0 g0
          obtain ⟨x1, e1, _, w1⟩ := DataW.trod_int t1 g1
          simp only [List.cons.injEq, and_true] at e0 e1
          subst e0 e1
          have a0 := hat 0 (by omega)
          have a1 := hat 1 (by omega)
          rw [Go.Deep.add_add] at a0 a1
          exact ⟨(x0, x1), by simpa using a0, by simpa using a1, I64.of_wf w0, I64.of_wf w1⟩
    let f : Nat → Int × Int := fun i => if hh : i < m then Classical.choose (each i hh) else (0, 0)
    have hf : ∀ i, i < m → W.cell? (a.add (i * 2)) = some (.int .i64 (f i).1) ∧ W.cell? (a.add (i * 2 + 1)) = some (.int .i64 (f i).2) ∧ I64 (f i).1 ∧ I64 (f i).2 := by
      intro i hh
      have := Classical.choose_spec (each i hh)
      show W.cell? (a.add (i * 2)) = some (.int .i64 (if hh : i < m then Classical.choose (each i hh) else (0, 0)).1) ∧ _
      simp only [f, dif_pos hh]
      exact this
    have hlen : ((List.range len).map f).length = len := by simp
    refine ⟨(List.range len).map f, ?_, ?_⟩
    · refine ⟨some a, m, by rw [hlen], by rw [hlen]; exact hl, hm, fun hpos => ?_⟩
      rw [hlen] at hpos
      have h0 := (hf 0 (by omega)).1
      obtain ⟨b, off, spot⟩ := a
      have hspot : spot = none := by simpa [Addr.add] using World.cell?_spot h0
      subst hspot
      refine ⟨b, off, rfl, Nat.zero_le _, ?_, fun j hj => ?_⟩
      · have h0' : W.cell? ⟨b, off, none⟩ = some (.int .i64 (f 0).1) := by simpa [Addr.add] using h0
        exact World.block_lt_of_cell? W ⟨b, off, none⟩ h0'
      · rw [hlen] at hj
        refine ⟨?_, ?_⟩
        · have hk : j / 2 < m := by omega
          obtain ⟨c0, c1, _, _⟩ := hf (j / 2) hk
          have hn : nthE ((List.range len).map f) (j / 2) = f (j / 2) := by rw [nthE_eq (by rw [hlen]; omega)]; simp
          unfold endCell
          rw [hn]
          by_cases he : j % 2 = 0
          · rw [if_pos he]
            rw [show j / 2 * 2 = j by omega, Go.WideShapes.add_plain] at c0
            exact c0
          · rw [if_neg he]
            rw [show j / 2 * 2 + 1 = j by omega, Go.WideShapes.add_plain] at c1
            exact c1
        · refine hfz b (off + j) ?_
          rw [hx]
          simp only [MemPlace.row, List.mem_append, List.mem_map, List.mem_range]
          exact .inl ⟨j, by rw [hC]; omega, rfl⟩
    · intro e he
      obtain ⟨i, hi', rfl⟩ := List.mem_map.1 he
      rw [List.mem_range] at hi'
      exact ⟨(hf i (by omega)).2.2.1, (hf i (by omega)).2.2.2⟩

theorem open_SS_trod {α : Type} {R : World → Nat → Nat → Value → List α → Prop} {Q : List α → Prop} {t e : TypeId} {fuel : Nat} {v : Value} {x : DataW H × List MemPlace} (ht : P.underlying t = some (.slice e)) (hC : P.cellsOf e = 1)
    (hin : ∀ (fuel : Nat) (v : Value) (x : DataW H × List MemPlace), DataW.trod enc P W 0 (fun _ => true) true fuel e [v] = some x → W.noneFrozen x.2 → ∃ xs, R W 0 W.heap.size v xs ∧ Q xs)
    (h : DataW.trod enc P W 0 (fun _ => true) true fuel t [v] = some x) (hfz : W.noneFrozen x.2) :
    ∃ xss, SS R W 0 W.heap.size v xss ∧ ∀ l ∈ xss, Q l := by
  rcases open_slice1 ht hC h with ⟨hcs, _⟩ | ⟨a, len, cap, m, n, V, D, Pl, hcs, _, hl, hm, hmm, hx, hi⟩
  · simp only [List.cons.injEq, and_true] at hcs
    subst hcs
    exact ⟨[], SS.nil _ _ _, by simp⟩
  · simp only [List.cons.injEq, and_true] at hcs
    subst hcs
    simp only [if_true] at hmm
    subst hmm
    have each : ∀ i, i < m → ∃ xs, R W 0 W.heap.size (V i) xs ∧ Q xs := by
      intro i him
      refine hin n (V i) (D i, Pl i) (hi i him).2 fun b off hb => hfz b off ?_
      rw [hx]
      exact List.mem_append.2 (.inr (List.mem_flatMap.2 ⟨i, List.mem_range.2 him, hb⟩))
    let f : Nat → List α := fun i => if hh : i < m then Classical.choose (each i hh) else []
    have hf : ∀ i, i < m → R W 0 W.heap.size (V i) (f i) ∧ Q (f i) := by
      intro i hh
      have := Classical.choose_spec (each i hh)
      simp only [f, dif_pos hh]
      exact this
    have hlen : ((List.range len).map f).length = len := by simp
    have hn : ∀ i, i < len → nthL ((List.range len).map f) i = f i := fun i hi => by rw [nthL_eq (by rw [hlen]; exact hi)]; simp
    refine ⟨(List.range len).map f, ⟨V, ⟨some a, m, by rw [hlen], by rw [hlen]; exact hl, hm, fun hpos => ?_⟩, fun i hi => ?_⟩, ?_⟩
    · rw [hlen] at hpos
      have h0 := (hi 0 (by omega)).1
      obtain ⟨b, off, spot⟩ := a
      have hspot : spot = none := by simpa [Addr.add] using World.cell?_spot h0
      subst hspot
      refine ⟨b, off, rfl, Nat.zero_le _, ?_, fun j hj => ?_⟩
      · have h0' : W.cell? ⟨b, off, none⟩ = some (V 0) := by simpa [Addr.add] using h0
        exact World.block_lt_of_cell? W ⟨b, off, none⟩ h0'
      · rw [hlen] at hj
        refine ⟨?_, ?_⟩
        · have := (hi j (by omega)).1
          rwa [Go.WideShapes.add_plain] at this
        · refine hfz b (off + j) ?_
          rw [hx]
          simp only [MemPlace.row, List.mem_append, List.mem_map, List.mem_range]
          exact .inl ⟨j, by omega, rfl⟩
    · rw [hlen] at hi
      rw [hn i hi]
      exact (hf i (by omega)).1
    · intro l hl'
      obtain ⟨i, hi', rfl⟩ := List.mem_map.1 hl'
      rw [List.mem_range] at hi'
      exact (hf i (by omega)).2
end

section
variable {H : Type} {enc : TypeId × Value → H} {W : World}
set_option maxRecDepth 100000 in
theorem open_IntSS {r : Reach} {b0 : Nat} {v : Value} {d : DataW H} {p : List MemPlace}
    (hv : Value.okWide Tryz.prog W r b0 22 v) (h : DataW.Trod enc Tryz.prog W 0 (fun _ => true) true 22 v d p) (hfz : W.noneFrozen p) :
    ∃ xss, IntSS W 0 W.heap.size v xss ∧ ∀ l ∈ xss, ∀ z ∈ l, I64 z := by
  obtain ⟨a, l, c, rfl⟩ := okWide_slice Tryz.underlying22 hv
  obtain ⟨fuel, hf⟩ := h
  exact open_SS_trod (R := IntS) (Q := fun l => ∀ z ∈ l, I64 z) Tryz.underlying22 (by kernel_rfl) (fun fuel v x hx hz => open_IntS_trod Tryz.underlying26 Tryz.underlying3 (by kernel_rfl) hx hz) (by simpa [Value.cells] using hf) hfz

set_option maxRecDepth 100000 in
theorem open_Net {r : Reach} {b0 : Nat} {v : Value} {d : DataW H} {p : List MemPlace}
    (hv : Value.okWide Tryz.prog W r b0 28 v) (h : DataW.Trod enc Tryz.prog W 0 (fun _ => true) true 28 v d p) (hfz : W.noneFrozen p) :
    ∃ N, Net W 0 W.heap.size v N ∧ N.Ok := by
  obtain ⟨v0, v1, v2, y0, y1, y2, n, rfl, rfl, rfl, h0, h1, h2⟩ := open_agg3 Tryz.underlying28 (by kernel_rfl) (by kernel_rfl) hv h
  have z0 : W.noneFrozen y0.2 := fun b off hb => hfz b off (by simp [hb])
  have z1 : W.noneFrozen y1.2 := fun b off hb => hfz b off (by simp [hb])
  have z2 : W.noneFrozen y2.2 := fun b off hb => hfz b off (by simp [hb])
  obtain ⟨ess, e1, e2⟩ := open_SS_trod (R := EndS) (Q := fun l => ∀ e ∈ l, I64 e.1 ∧ I64 e.2) Tryz.underlying25 (by kernel_rfl) (fun fuel v x hx hz => open_EndS_trod Tryz.underlying65 Tryz.underlying97 (by kernel_rfl) (by kernel_rfl) Tryz.underlying3 Tryz.underlying3 hx hz) h0 z0
  obtain ⟨ids, i1, i2⟩ := open_IntS_trod Tryz.underlying26 Tryz.underlying3 (by kernel_rfl) h1 z1
  obtain ⟨ins, n1, n2⟩ := open_IntS_trod Tryz.underlying26 Tryz.underlying3 (by kernel_rfl) h2 z2
  exact ⟨⟨ess, ids, ins⟩, ⟨v0, v1, v2, rfl, e1, i1, n1⟩, ⟨e2, i2, n2⟩⟩
end

end Go.Proofs.YtkcbocoimbhhaaaGreat
