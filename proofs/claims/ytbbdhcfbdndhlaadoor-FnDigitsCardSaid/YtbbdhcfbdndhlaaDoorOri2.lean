/-
  Contracts: orientations by the reference; sinks; the numbers of edges that leave.
-/
import Derived.Test.YtbbdhcfbdndhlaaDoorOri
namespace Go.Proofs.YtbbdhcfbdndhlaaDoor
open Go.ChangeShapes Go.WideShapes Go.ChangeAt Go.RowKit
set_option linter.unusedVariables false

theorem nthL_map_ints {l : List Quad} {k : Nat} (h : k < l.length) : nthL (l.map Quad.ints) k = (nthQ l k).ints := by simp [nthL, nthQ, h]
/-- one edge as a row of four numbers -/
theorem edge_row {w : World} {lo hi n c : Nat} {A : Option Addr} {qs : List Quad} (h : IntSS w lo hi (.slice A n c) (qs.map Quad.ints)) {k : Nat} (hk : k < qs.length) {x y z u : Nat} (eq : nthQ qs k = ⟨x, y, z, u⟩) :
    ∃ b off b2 o2 c2, A = some ⟨b, off, none⟩ ∧ b < hi ∧ b2 < hi ∧ 4 ≤ c2 ∧ c2 ≤ 9223372036854775807 ∧ w.cell? ⟨b, off + k, none⟩ = some (.slice (some ⟨b2, o2, none⟩) 4 c2) ∧
      w.cell? ⟨b2, o2, none⟩ = some (.int .i64 x) ∧ w.cell? ⟨b2, o2 + 1, none⟩ = some (.int .i64 y) ∧ w.cell? ⟨b2, o2 + 2, none⟩ = some (.int .i64 z) ∧ w.cell? ⟨b2, o2 + 3, none⟩ = some (.int .i64 u) := by
  obtain ⟨b, off, v, e, h1, h2, h3, h4⟩ := SS.opened h (j := k) (by simpa using hk)
  rw [nthL_map_ints hk, eq] at h4
  obtain ⟨A2, c2, rfl, h5, h6⟩ := h4.dims
  obtain ⟨b2, o2, rfl, h7, h8, x0, _⟩ := h4.opened (j := 0) (by simp [Quad.ints])
  have x1 := (h4.at_ (j := 1) (by simp [Quad.ints])).1
  have x2 := (h4.at_ (j := 2) (by simp [Quad.ints])).1
  have x3 := (h4.at_ (j := 3) (by simp [Quad.ints])).1
  exact ⟨b, off, b2, o2, c2, e, h2, h8, h5, h6, h3, x0, x1, x2, x3⟩
def onesI (zs : List Int) : Nat := (zs.filter fun x => x == 1).length
theorem onesI_le (zs : List Int) : onesI zs ≤ zs.length := List.length_filter_le _ _
theorem onesI_snoc (zs : List Int) (x : Int) : onesI (zs ++ [x]) = onesI zs + if x = 1 then 1 else 0 := by
  unfold onesI
  rw [List.filter_append, List.length_append]
  by_cases h : x = 1 <;> simp [h]
theorem onesI_take {zs : List Int} {k : Nat} (h : k < zs.length) : onesI (zs.take (k + 1)) = onesI (zs.take k) + if nth zs k = 1 then 1 else 0 := by
  rw [List.take_succ_eq_append_getElem h, onesI_snoc, nth_eq h]
def outDeg (o : List (List Int)) : List Int := o.map fun r => (onesI r : Int)
def sinkAt (o : List (List Int)) (d : Int) (v : Nat) : Bool := decide (d ≤ (nthL o v).length) && decide (onesI (nthL o v) = 0)
def sinkless (o : List (List Int)) (d : Int) : Bool := (List.range o.length).all fun v => !sinkAt o d v
def sinkOk (N : NetD) (o : List (List Int)) (d : Int) : Bool := oriOk N o && decide (1 ≤ d)
def sinkRes (N : NetD) (o : List (List Int)) (d : Int) : Bool := sinkOk N o d && sinkless o d
theorem oriOk_parts {N : NetD} {o : List (List Int)} (h : oriOk N o = true) : N.stubless = true ∧ N.good = true ∧ portsB N o = true ∧ rowsIn o 0 1 = true ∧ oriE N o = true := by
  unfold oriOk oriB at h
  simp only [Bool.and_eq_true] at h
  exact ⟨h.1, stubless_good h.1, h.2.1.1, h.2.1.2, h.2.2⟩

end Go.Proofs.YtbbdhcfbdndhlaaDoor
