/-
  Contract: slices.SortFunc sorts rows of a table (out of the shelf's contract).
-/
import Derived.Test.YtlfdhhmccjkogaaMrgA
namespace Go.Proofs.Ytlfdhhmccjkogaa
open Go.ChangeShapes Go.WideShapes Go.ChangeAt Go.RowKit Go.Sort
set_option linter.unusedVariables false

def encR (r : Rw) : List Value := [.string r.1, .int .i64 r.2]
theorem flatK_get (L : List Rw) (t : Nat) (h : t < L.length * 2) : (flatK encR 2 L.toArray)[t]! = rowCell L t := by
  rw [get_flatK _ _ _ _ (by simpa using h)]
  have h2 : t / 2 < L.length := by omega
  have e0 : L.toArray[t / 2]! = nthR L (t / 2) := by rw [getElem!_pos L.toArray (t / 2) (by simpa using h2), nthR_eq h2]; simp
  rw [e0]
  unfold rowCell
  rcases (by omega : t % 2 = 0 ∨ t % 2 = 1) with e | e
  · rw [if_pos e, e]; rfl
  · rw [if_neg (by omega), e]; rfl
theorem rows_holdsK {w : World} {lo hi b off c : Nat} {L : List Rw} (hcs : ∀ k, k < L.length → w.cell? ⟨b, off + k * 2, none⟩ = some (.string (nthR L k).1) ∧ w.cell? ⟨b, off + k * 2 + 1, none⟩ = some (.int .i64 (nthR L k).2))
    (hf : ∀ t, t < L.length * 2 → w.frozen? ⟨b, off + t, none⟩ = false) : HoldsK encR 2 w b off L.toArray := by
  intro t ht
  rw [size_flatK] at ht
  have ht' : t < L.length * 2 := by simpa using ht
  refine ⟨?_, hf t ht'⟩
  show _ = some ((flatK encR 2 L.toArray)[t]!)
  rw [flatK_get L t ht']
  have h2 : t / 2 < L.length := by omega
  obtain ⟨x1, x2⟩ := hcs (t / 2) h2
  unfold rowCell
  rcases (by omega : t % 2 = 0 ∨ t % 2 = 1) with e | e
  · rw [if_pos e]; rwa [show off + t / 2 * 2 = off + t by omega] at x1
  · rw [if_neg (by omega)]; rwa [show off + t / 2 * 2 + 1 = off + t by omega] at x2
theorem sortHeapK (enc : Rw → List Value) (k : Nat) (w : World) (blk off m : Nat) (dk : Array Rw) (os : Array Obj) {q : Nat} (hk : q < w.heap.size) (hb : q ≠ blk) : (sortWorldK enc k w blk off m dk os).heap[q]? = w.heap[q]? := by
  unfold sortWorldK Sort.grow putRowK Sort.putRow Sort.mapBlock Sort.ahead
  simp only [Array.getElem?_append, Array.size_modify, hk, if_true, Array.getElem?_modify]
  rw [if_neg (fun e => hb e.symm)]
theorem sortSizeK (enc : Rw → List Value) (k : Nat) (w : World) (blk off m : Nat) (dk : Array Rw) (os : Array Obj) : w.heap.size ≤ (sortWorldK enc k w blk off m dk os).heap.size := by
  unfold sortWorldK Sort.grow putRowK Sort.putRow Sort.mapBlock Sort.ahead
  simp
theorem sortGrownK (enc : Rw → List Value) (k : Nat) (w : World) (blk off m : Nat) (dk : Array Rw) (os : Array Obj) : w.grownBy (sortWorldK enc k w blk off m dk os) (some blk) :=
  ⟨rfl, rfl, rfl, sortSizeK enc k w blk off m dk os, fun q hk hne => sortHeapK enc k w blk off m dk os hk (fun e => hne (by rw [e]))⟩
theorem entersR : ∀ args w, (callFunc 31 args).run Try.prog w = .ok (.enter 31 args) w := enters_of Try.func31 (by kernel_rfl) rfl

set_option maxHeartbeats 2000000 in
theorem sortRows_any (v : Value) (L : List Rw) (lo hi : Nat) (w : World) (h : RowS w lo hi v L) (hh : hi ≤ w.heap.size) (hn : L.length ≤ 1000000) :
    Calls Try.prog 30 #[v, .func (.func 31) #[] #[]] w fun e w' => e = .returned (.tuple #[]) ∧ RowS w' lo hi v (srtR L) ∧ w.grownBy w' (rowOf L.length v) := by
  obtain ⟨A, c, rfl, hc, hm, hcells⟩ := h.form
  have hS := h
  by_cases h0 : L = []
  · subst h0
    refine (AnyF.slices_SortFunc_none (P := Try.prog) (ρ := Try.sortR_ren) { Try.sortR with } A c (.func (.func 31) #[] #[]) w).mono ?_
    rintro e w' ⟨rfl, rfl⟩
    have : srtR [] = [] := List.eq_nil_of_length_eq_zero (srtR_length [])
    rw [this]
    exact ⟨rfl, h, World.grownBy.refl _ _⟩
  have hpos : 0 < L.length := List.length_pos_iff.2 h0
  obtain ⟨b, off, rfl, hb1, hb2, hcs⟩ := hcells hpos
  have hf : ∀ t, t < L.length * 2 → w.frozen? ⟨b, off + t, none⟩ = false := fun t ht => by
    obtain ⟨A', c', e, _, _, h3⟩ := hS
    obtain ⟨b', off', e2, _, _, h4⟩ := h3 hpos
    subst e2
    injection e with e _ _
    injection e with e
    injection e with e1 e2
    subst e1 e2
    exact (h4 t ht).2
  have hH := rows_holdsK (lo := lo) (hi := hi) (c := c) hcs hf
  have hcmp : CmpLays Try.prog 31 #[] encR 2 cfR b off L.toArray.size w := fun m os dk hs x y => by
    refine (rowsCmp_any x.1 x.2 y.1 y.2 _).mono ?_
    rintro e w' ⟨rfl, hbd⟩
    exact ⟨rfl, hbd.grow'⟩
  have hT := AnyQ.slices_SortFunc_total (P := Try.prog) (ρ := Try.sortR_ren) Try.sortR 2 (fun w => by simp [isAgg, Try.sortR_ren]) (fun w => by simp [Try.sortR_ren, Try.sizeOf38]) encR (fun _ => rfl)
    (fun x v hv => by
      simp only [encR, List.mem_cons, List.not_mem_nil, or_false] at hv
      rcases hv with rfl | rfl <;> rfl) cfR swo_cfR 31 #[] b off c L.toArray w entersR hcmp hH (by omega) (by simp; omega)
    (fun x y h1 h2 => ltR_tri (fun h3 => by rw [← ltOf_cfR, h1] at h3; cases h3) (fun h3 => by rw [← ltOf_cfR, h2] at h3; cases h3))
  have ev : (Value.slice (some ⟨b, off, none⟩) L.length c) = .slice (some ⟨b, off, none⟩) L.toArray.size c := by simp
  rw [ev]
  refine Calls.mono hT ?_
  rintro e w' ⟨rfl, n, os, rfl⟩
  have hsl : (L.toArray.toList.mergeSort fun x y => !(ltOf cfR) y x).toArray = (srtR L).toArray := rfl
  rw [hsl]
  have hlen := srtR_length L
  have hH2 := holdsK_sortWorldK_c encR 2 w b off L.toArray (srtR L).toArray n os hH (by omega) (by simp [hlen])
  refine ⟨rfl, ?_, ?_⟩
  · refine ⟨_, c, by rw [hlen]; simp, by omega, hm, fun _ => ⟨b, off, rfl, hb1, hb2, fun t ht => ?_⟩⟩
    have := hH2 t (by rw [size_flatK]; simpa using ht)
    refine ⟨?_, this.2⟩
    rw [this.1]
    show some ((flatK encR 2 (srtR L).toArray)[t]!) = _
    rw [flatK_get _ t ht]
  · have : rowOf L.length (Value.slice (some ⟨b, off, none⟩) L.toArray.size c) = some b := by unfold rowOf; rw [if_neg (by omega)]; rfl
    rw [this]
    exact sortGrownK _ _ _ _ _ _ _ _

end Go.Proofs.Ytlfdhhmccjkogaa
