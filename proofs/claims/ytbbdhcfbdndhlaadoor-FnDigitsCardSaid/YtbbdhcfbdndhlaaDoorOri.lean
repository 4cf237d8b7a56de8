/-
  Contracts: numbers for all ports; orientations (program and reference).
-/
import Derived.Test.YtbbdhcfbdndhlaaDoorEdge2
namespace Go.Proofs.YtbbdhcfbdndhlaaDoor
open Go.ChangeShapes Go.WideShapes Go.ChangeAt Go.RowKit
set_option linter.unusedVariables false

def portsB (N : NetD) (o : List (List Int)) : Bool := decide (o.length = N.ends.length) && (List.range o.length).all fun v => decide ((nthL o v).length = (nthL N.ends v).length)
def rowIn (o : List (List Int)) (lo hi : Int) (v : Nat) : Bool := (nthL o v).all fun x => inB x lo hi
def rowsIn (o : List (List Int)) (lo hi : Int) : Bool := (List.range o.length).all (rowIn o lo hi)
def portIn (N : NetD) (o : List (List Int)) (lo hi : Int) (v : Nat) : Bool := decide ((nthL o v).length = (nthL N.ends v).length) && rowIn o lo hi v
def portsIn (N : NetD) (o : List (List Int)) (lo hi : Int) : Bool := decide (o.length = N.ends.length) && (List.range o.length).all (portIn N o lo hi)
theorem range_and (n : Nat) (p q : Nat → Bool) : ((List.range n).all fun k => p k && q k) = ((List.range n).all p && (List.range n).all q) := by
  rw [Bool.eq_iff_iff]; simp only [List.all_eq_true, Bool.and_eq_true]
  exact ⟨fun h => ⟨fun k hk => (h k hk).1, fun k hk => (h k hk).2⟩, fun h k hk => ⟨h.1 k hk, h.2 k hk⟩⟩
theorem portsIn_eq (N : NetD) (o : List (List Int)) (lo hi : Int) : portsIn N o lo hi = (portsB N o && rowsIn o lo hi) := by
  unfold portsIn portsB rowsIn
  rw [Bool.and_assoc, ← range_and]
  rfl
def edgeSum (o : List (List Int)) (q : Quad) : Int := nth (nthL o q.v.toNat) q.i.toNat + nth (nthL o q.w.toNat) q.j.toNat
def edgeOne (o : List (List Int)) (q : Quad) : Bool := decide (edgeSum o q = 1)
theorem edgeOne_nat (o : List (List Int)) (a b c d : Nat) : edgeOne o ⟨a, b, c, d⟩ = decide (nth (nthL o a) b + nth (nthL o c) d = 1) := rfl
def oriE (N : NetD) (o : List (List Int)) : Bool := (edges N).all (edgeOne o)
def oriB (N : NetD) (o : List (List Int)) : Bool := (portsB N o && rowsIn o 0 1) && oriE N o
def oriOk (N : NetD) (o : List (List Int)) : Bool := N.stubless && oriB N o
theorem ports_len {N : NetD} {o : List (List Int)} (h : portsB N o = true) : o.length = N.ends.length := by unfold portsB at h; rw [Bool.and_eq_true] at h; simpa using h.1
theorem ports_row {N : NetD} {o : List (List Int)} (h : portsB N o = true) {v : Nat} (hv : v < N.ends.length) : (nthL o v).length = (nthL N.ends v).length := by
  have hl := ports_len h
  unfold portsB at h; rw [Bool.and_eq_true] at h
  simpa using rangeAll_at h.2 (by omega : v < o.length)
theorem rows_val {o : List (List Int)} {lo hi : Int} (h : rowsIn o lo hi = true) {v i : Nat} (hv : v < o.length) (hi' : i < (nthL o v).length) : lo ≤ nth (nthL o v) i ∧ nth (nthL o v) i ≤ hi := by
  have := rangeAll_at h hv
  unfold rowIn at this
  exact inB_le (all_nth.1 this i hi')
theorem all_range_nthQ (l : List Quad) (p : Quad → Bool) : ((List.range l.length).all fun k => p (nthQ l k)) = l.all p := by
  rw [Bool.eq_iff_iff, List.all_eq_true, List.all_eq_true]
  constructor
  · intro h q hq
    obtain ⟨k, hk, e⟩ := List.mem_iff_getElem.1 hq
    have := h k (List.mem_range.2 hk)
    rwa [nthQ_eq hk, e] at this
  · intro h k hk; exact h _ (nthQ_mem (List.mem_range.1 hk))

end Go.Proofs.YtbbdhcfbdndhlaaDoor
