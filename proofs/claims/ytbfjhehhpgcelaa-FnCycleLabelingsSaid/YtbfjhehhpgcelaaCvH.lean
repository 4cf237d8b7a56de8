/-
  Several texts in one: OpenBy. No condition on any program.
-/
import Derived.Test.YtbfjhehhpgcelaaCvE

/- How a slice of bytes that came in reads: as a list of numbers below 256. No condition on any program. -/
namespace Go.Proofs.Ytbfjhehhpgcelaa
open Go.ChangeShapes Go.WideShapes Go.ChangeAt Go.RowKit
set_option linter.unusedVariables false

theorem by_of_wf {x : Int} (h : (Lit.int .u8 x).wf = true) : 0 ≤ x ∧ x < 256 := by
  simp [Lit.wf, IntKind.min, IntKind.max, IntKind.signed, IntKind.bits] at h; omega
section
variable {H : Type} {enc : TypeId × Value → H} {P : Program} {W : World}
theorem open_ByS_trod {t e : TypeId} {fuel : Nat} {v : Value} {x : DataW H × List MemPlace} (ht : P.underlying t = some (.slice e)) (he : P.underlying e = some (.int .u8)) (hC : P.cellsOf e = 1)
    (h : DataW.trod enc P W 0 (fun _ => true) true fuel t [v] = some x) (hfz : W.noneFrozen x.2) :
    ∃ zs, ByS W 0 W.heap.size v zs ∧ Bytes zs := by
  rcases open_ints ht he hC h with ⟨hcs, _⟩ | ⟨a, l, c, zs, hcs, _, hl, hm, hz, rfl, hcell, hwz⟩
  · simp only [List.cons.injEq, and_true] at hcs
    subst hcs
    exact ⟨[], Sl.nil _ _ _ _ _, fun x hx => by cases hx⟩
  · simp only [List.cons.injEq, and_true] at hcs
    subst hcs
    simp only [if_true] at hz
    have hlen : (zs.take l).length = l := by rw [List.length_take]; omega
    refine ⟨zs.take l, ?_, fun z hz' => by_of_wf (hwz z (List.mem_of_mem_take hz'))⟩
    refine ⟨some a, c, by rw [hlen], by omega, hm, fun hpos => ?_⟩
    obtain ⟨b, off, rfl, hc⟩ := ints_at hcell (by omega)
    refine ⟨b, off, rfl, Nat.zero_le _, World.block_lt_of_cell? W ⟨b, off + 0, none⟩ (hc 0 (by omega)), fun j hj => ?_⟩
    refine ⟨?_, ?_⟩
    · rw [hc j (by omega)]
      have : nth (zs.take l) j = zs.getD j 0 := by
        simp only [nth, List.getD_eq_getElem?_getD]
        rw [List.getElem?_take_of_lt (by omega)]
      show _ = some (Value.int .u8 (nth (zs.take l) j))
      rw [this]
    · refine hfz b (off + j) ?_
      simp only [MemPlace.row, List.mem_map, List.mem_range]
      exact ⟨j, by omega, rfl⟩
theorem open_ByS {t e : TypeId} {r : Reach} {b0 : Nat} {v : Value} {d : DataW H} {p : List MemPlace} (ht : P.underlying t = some (.slice e)) (he : P.underlying e = some (.int .u8)) (hC : P.cellsOf e = 1)
    (hv : Value.okWide P W r b0 t v) (h : DataW.Trod enc P W 0 (fun _ => true) true t v d p) (hfz : W.noneFrozen p) :
    ∃ zs, ByS W 0 W.heap.size v zs ∧ Bytes zs := by
  obtain ⟨a, l, c, rfl⟩ := okWide_slice ht hv
  obtain ⟨fuel, hf⟩ := h
  exact open_ByS_trod ht he hC (by simpa [Value.cells] using hf) hfz
end

end Go.Proofs.Ytbfjhehhpgcelaa
