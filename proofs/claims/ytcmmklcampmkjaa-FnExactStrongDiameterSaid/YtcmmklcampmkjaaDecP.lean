/-
  Plain: decompositions, and what is measured of their clusters. No condition on any program.
-/
import Derived.Test.YtcmmklcampmkjaaCompP
import Derived.Test.YtcmmklcampmkjaaQuadP
import Derived.Test.YtcmmklcampmkjaaDec
namespace Go.Proofs.Ytcmmklcampmkjaa
set_option linter.unusedVariables false

/-- the clusters of two nodes are two, of one colour -/
def clash (D : DecD) (v t : Nat) : Bool := !decide (nth D.cluster v = nth D.cluster t) && decide (nth D.colour (nth D.cluster v).toNat = nth D.colour (nth D.cluster t).toNat)
theorem clash_symm (D : DecD) (v t : Nat) : clash D v t = clash D t v := by
  rw [Bool.eq_iff_iff]; unfold clash; simp only [Bool.and_eq_true, Bool.not_eq_true', decide_eq_false_iff_not, decide_eq_true_eq]
  constructor
  · rintro ⟨a, b⟩; exact ⟨fun e => a e.symm, b.symm⟩
  · rintro ⟨a, b⟩; exact ⟨fun e => a e.symm, b.symm⟩
/-- the node at the other side of a port -/
def endN (N : NetD) (v i : Nat) : Nat := (nthE (nthL N.ends v) i).1.toNat
def noClash (N : NetD) (D : DecD) : Bool := (List.range N.ends.length).all fun v => (List.range (nthL N.ends v).length).all fun i => !clash D v (endN N v i)
def clashQ (D : DecD) (q : Quad) : Bool := clash D q.v.toNat q.w.toNat
theorem noClash_eq {N : NetD} (hg : N.good = true) (D : DecD) : noClash N D = !(edges N).any (clashQ D) := by
  rw [Bool.eq_iff_iff, Bool.not_eq_true', Bool.eq_false_iff]
  constructor
  · intro h ha
    obtain ⟨q, hq, hs⟩ := List.any_eq_true.1 ha
    obtain ⟨v, i, h1, h2, h3, rfl⟩ := mem_edges.1 hq
    have := rangeAll_at (rangeAll_at h h1) h2
    rw [Bool.not_eq_true'] at this
    unfold clashQ quadAt at hs
    dsimp only at hs
    rw [Int.toNat_natCast] at hs
    unfold endN at this
    rw [hs] at this
    cases this
  · intro h
    refine rangeAll_true fun v hv => rangeAll_true fun i hi => ?_
    rw [Bool.not_eq_true', Bool.eq_false_iff]
    intro hs
    obtain ⟨t, r, e, e1, e2, e3⟩ := good_end hg hv hi
    have hen : endN N v i = t := by unfold endN; rw [e]; rfl
    rw [hen] at hs
    by_cases hf : firstB N v i = true
    · refine h (List.any_eq_true.2 ⟨_, mem_edges.2 ⟨v, i, hv, hi, hf, rfl⟩, ?_⟩)
      unfold clashQ quadAt; rw [e]; exact hs
    · have hf2 : firstB N t r = true := by
        unfold firstB at hf ⊢
        rw [e] at hf; rw [e3]
        simp at hf ⊢
        omega
      refine h (List.any_eq_true.2 ⟨_, mem_edges.2 ⟨t, r, e1, e2, hf2, rfl⟩, ?_⟩)
      unfold clashQ quadAt; rw [e3]
      dsimp only
      rw [Int.toNat_natCast, Int.toNat_natCast, clash_symm]; exact hs
def decB (N : NetD) (D : DecD) : Bool := clusB N D.cluster && (decide (D.colour.length = (mostI D.cluster).toNat + 1) && ((D.colour.all fun x => inB x 0 40) && noClash N D))
structure DecGood (N : NetD) (D : DecD) : Prop where
  clus : Clus N D.cluster
  len : D.colour.length = (mostI D.cluster).toNat + 1
  low : ∀ x ∈ D.colour, 0 ≤ x ∧ x ≤ 40
  free : ∀ v i, v < N.ends.length → i < (nthL N.ends v).length → clash D v (endN N v i) = false
theorem decB_is {N : NetD} {D : DecD} (h : decB N D = true) : DecGood N D := by
  unfold decB at h
  simp only [Bool.and_eq_true, decide_eq_true_eq] at h
  obtain ⟨a, b, c, d⟩ := h
  refine ⟨clusB_is a, b, fun x hx => inB_le (List.all_eq_true.1 c x hx), fun v i hv hi => ?_⟩
  have := rangeAll_at (rangeAll_at d hv) hi
  simpa using this
theorem DecGood.nat {N : NetD} {D : DecD} (h : DecGood N D) {v : Nat} (hv : v < N.ends.length) : ∃ t : Nat, nth D.cluster v = t ∧ t < D.colour.length ∧ t < N.ends.length := by
  obtain ⟨t, e, ht⟩ := h.clus.nat hv
  refine ⟨t, e, ?_, ht⟩
  have := (mostI_spec D.cluster).2.1 _ (nth_mem (zs := D.cluster) (i := v) (by rw [h.clus.len]; exact hv))
  rw [h.len]; omega

end Go.Proofs.Ytcmmklcampmkjaa
