/-
  Contracts of the reference's ruFar, ruApart, ruCovers, and the plain law of ruling sets.
-/
import Derived.Test.YtlignkgfclenkaaNear
import Derived.Test.YtlignkgfclenkaaDistC
import Derived.Test.YtlignkgfclenkaaFrame
namespace Go.Proofs.Ytlignkgfclenkaa
open Go.ChangeShapes Go.WideShapes Go.ChangeAt Go.RowKit
set_option linter.unusedVariables false

def farStep (ds : List Int) (out x : Int) : Int := if 0 ≤ nth ds x.toNat ∧ (out < 0 ∨ nth ds x.toNat < out) then nth ds x.toNat else out
def farOf (ds zs : List Int) : Int := zs.foldl (farStep ds) (-1)
theorem farStep_inB (ds : List Int) (out x b : Int) (h : -1 ≤ out) : inB (farStep ds out x) 0 b = (inB out 0 b || inB (nth ds x.toNat) 0 b) := by
  unfold farStep
  rw [Bool.eq_iff_iff]
  split <;> simp [inB] <;> omega
theorem farStep_low (ds : List Int) (out x : Int) (h : -1 ≤ out) : -1 ≤ farStep ds out x := by unfold farStep; split <;> omega
theorem far_any (ds : List Int) (b : Int) : ∀ (zs : List Int) (out : Int), -1 ≤ out → inB (zs.foldl (farStep ds) out) 0 b = (inB out 0 b || zs.any fun x => inB (nth ds x.toNat) 0 b)
  | [], out, h => by simp
  | x :: zs, out, h => by rw [List.foldl_cons, far_any ds b zs _ (farStep_low ds out x h), farStep_inB ds out x b h, List.any_cons, Bool.or_assoc]
theorem farOf_inB (ds zs : List Int) (b : Int) : inB (farOf ds zs) 0 b = zs.any fun x => inB (nth ds x.toNat) 0 b := by
  unfold farOf
  rw [far_any ds b zs (-1) (by omega), inB_low (by omega), Bool.false_or]

def apartB (N : NetD) (zs : List Int) (α : Int) : Bool := (List.range zs.length).all fun i => !inB (farOf (dist N (nth zs i).toNat) (zs.take i)) 0 (α - 1)
def coversB (N : NetD) (zs : List Int) (β : Int) : Bool := (List.range N.ends.length).all fun v => inB (farOf (dist N v) zs) 0 β
def ruleOk (N : NetD) (zs : List Int) (α β : Int) : Bool := nodeSet N zs && (inB α 1 40 && inB β 0 40)
def ruleRes (N : NetD) (zs : List Int) (α β : Int) : Bool := ruleOk N zs α β && (apartB N zs α && coversB N zs β)
/-- the program's look at node v -/
def rowBad (N : NetD) (zs : List Int) (α : Int) (v : Nat) (x : Int) : Bool := x != (v : Int) && decide ((v : Int) ∈ zs) && inB (nth (dist N v) x.toNat) 0 (α - 1)
def rowRules (N : NetD) (zs : List Int) (α β : Int) (v : Nat) : Bool := (zs.all fun x => !rowBad N zs α v x) && zs.any fun x => inB (nth (dist N v) x.toNat) 0 β
def rulesI (N : NetD) (zs : List Int) (α β : Int) : Bool := (List.range N.ends.length).all (rowRules N zs α β)
theorem nodeSet_lt {N : NetD} {zs : List Int} (h : nodeSet N zs = true) {i j : Nat} (hij : i < j) (hj : j < zs.length) : nth zs i < nth zs j := by
  unfold nodeSet at h
  rw [Bool.and_eq_true, rising_iff, List.pairwise_iff_getElem] at h
  have := h.2.2 i j (by omega) hj hij
  rwa [← nth_eq, ← nth_eq] at this
theorem rules_eq {N : NetD} {zs : List Int} (h : nodeSet N zs = true) (α β : Int) : rulesI N zs α β = (apartB N zs α && coversB N zs β) := by
  have hg := nodeSet_good h
  rw [Bool.eq_iff_iff, Bool.and_eq_true]
  constructor
  · intro ha
    refine ⟨rangeAll_true fun i hi => ?_, rangeAll_true fun v hv => ?_⟩
    · rw [farOf_inB, Bool.not_eq_true', Bool.eq_false_iff]
      intro hany
      obtain ⟨j, hj, hp⟩ := any_nth.1 hany
      rw [List.length_take] at hj
      rw [nth_take (by omega)] at hp
      obtain ⟨t, e, ht⟩ := nodeSet_mem h hi
      have hr := rangeAll_at ha ht
      unfold rowRules at hr
      rw [Bool.and_eq_true] at hr
      have := all_nth.1 hr.1 j (by omega)
      rw [e, Int.toNat_natCast] at hp
      have hlt := nodeSet_lt h (i := j) (j := i) (by omega) hi
      have hm : (t : Int) ∈ zs := by rw [← e]; exact nth_mem hi
      unfold rowBad at this
      rw [hp, decide_eq_true hm, show (nth zs j != (t : Int)) = true by simp; omega] at this
      cases this
    · have hr := rangeAll_at ha hv
      unfold rowRules at hr
      rw [Bool.and_eq_true] at hr
      rw [farOf_inB]
      exact hr.2
  · rintro ⟨ha, hc⟩
    refine rangeAll_true fun v hv => ?_
    unfold rowRules
    rw [Bool.and_eq_true]
    refine ⟨all_nth.2 fun k hk => ?_, ?_⟩
    · rw [Bool.not_eq_true', Bool.eq_false_iff]
      intro hb
      unfold rowBad at hb
      simp only [Bool.and_eq_true, bne_iff_ne, ne_eq, decide_eq_true_eq] at hb
      obtain ⟨⟨h1, h2⟩, h3⟩ := hb
      obtain ⟨i, hi, e⟩ := List.mem_iff_getElem.1 h2
      rw [← nth_eq hi] at e
      obtain ⟨t, et, ht⟩ := nodeSet_mem h hk
      rw [et, Int.toNat_natCast] at h3
      have hne : k ≠ i := by rintro rfl; exact h1 e
      by_cases hlt : k < i
      · have := rangeAll_at ha hi
        rw [farOf_inB, Bool.not_eq_true', Bool.eq_false_iff] at this
        apply this
        refine any_nth.2 ⟨k, by rw [List.length_take]; omega, ?_⟩
        rw [nth_take hlt, e, Int.toNat_natCast, et, Int.toNat_natCast]
        exact h3
      · have := rangeAll_at ha hk
        rw [farOf_inB, Bool.not_eq_true', Bool.eq_false_iff] at this
        apply this
        refine any_nth.2 ⟨i, by rw [List.length_take]; omega, ?_⟩
        rw [nth_take (by omega), e, Int.toNat_natCast, et, Int.toNat_natCast, dist_symm hg ht hv]
        exact h3
    · have := rangeAll_at hc hv
      rwa [farOf_inB] at this

end Go.Proofs.Ytlignkgfclenkaa
