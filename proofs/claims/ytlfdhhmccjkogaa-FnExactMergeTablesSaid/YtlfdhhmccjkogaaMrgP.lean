/-
  Plain: the merge of two tables by a sort; it is the merge by putting rows in. No program.
-/
import Derived.Test.YtlfdhhmccjkogaaMrgO
import Derived.Shelf.SlSortCmp.WholeK
import Derived.Shelf.SlSortCmp.NoneTotal
namespace Go.Proofs.Ytlfdhhmccjkogaa
set_option linter.unusedVariables false
open Go.Sort

theorem ltOf_cfR (r s : Rw) : ltOf cfR r s = true ↔ ltR r s := by
  unfold ltOf cfR ltR
  rw [decide_eq_true_iff, cmpB_eq]
  cases h1 : sLt r.1 s.1 with
  | true => simp
  | false =>
    cases h2 : sLt s.1 r.1 with
    | true =>
      have : ¬ r.1 = s.1 := fun e => by rw [e, sLt_irr] at h2; cases h2
      simp [this]
    | false =>
      have e := sLt_tri h1 h2
      simp only [e, true_and, false_or, if_true, Bool.false_eq_true, if_false, cmpN]
      split
      · simp; assumption
      · split <;> simp <;> omega
theorem swo_cfR : Sort.SWO (ltOf cfR) := by
  have hf : ∀ x y, ltOf cfR x y = false ↔ ¬ ltR x y := fun x y => by rw [← ltOf_cfR]; simp
  refine ⟨fun x => (hf x x).2 (ltR_irr x), fun x y z => ?_, fun x y z => ?_⟩
  · rw [ltOf_cfR, ltOf_cfR, ltOf_cfR]; exact ltR_trans
  · intro h1 h2
    rw [hf] at h1 h2 ⊢
    intro h3
    by_cases h4 : ltR y x
    · exact h2 (ltR_trans h4 h3)
    · have := ltR_tri h1 h4
      subst this
      exact h2 h3
/-- rows in order -/
def srtR (L : List Rw) : List Rw := L.mergeSort fun x y => !(ltOf cfR) y x
theorem srtR_perm (L : List Rw) : (srtR L).Perm L := List.mergeSort_perm _ _
theorem srtR_length (L : List Rw) : (srtR L).length = L.length := (srtR_perm L).length_eq
theorem srtR_le (L : List Rw) : (srtR L).Pairwise fun r s => ¬ ltR s r := by
  have h : (srtR L).Pairwise fun x y => (!(ltOf cfR) y x) = true := by
    refine List.pairwise_mergeSort (le := fun x y => !(ltOf cfR) y x) ?_ ?_ L
    · intro a b c h k
      have h' : ¬ ltR b a := by rw [← ltOf_cfR]; simpa using h
      have k' : ¬ ltR c b := by rw [← ltOf_cfR]; simpa using k
      show (!(ltOf cfR) c a) = true
      have : ¬ ltR c a := by
        intro h3
        by_cases h4 : ltR a b
        · exact k' (ltR_trans h3 h4)
        · have := ltR_tri h' h4; subst this; exact k' h3
      rw [← ltOf_cfR] at this
      simpa using this
    · intro a b
      show (!(ltOf cfR) b a || !(ltOf cfR) a b) = true
      by_cases h : ltR a b
      · have : ¬ ltR b a := fun k => ltR_irr a (ltR_trans h k)
        rw [← ltOf_cfR] at this
        simp only [Bool.not_eq_true] at this
        rw [this]; rfl
      · rw [← ltOf_cfR] at h
        simp only [Bool.not_eq_true] at h
        rw [h]; simp
  refine h.imp fun {a b} hab => ?_
  rw [← ltOf_cfR]
  simpa using hab
/-- the merge by a sort -/
def mrgI (A B : List Rw) : List Rw := cUp (srtR (A ++ B)) (A ++ B).length
theorem mrgI_mem (A B : List Rw) (x : Rw) : x ∈ mrgI A B ↔ x ∈ A ∨ x ∈ B := by
  unfold mrgI
  rw [cUp_mem, ← List.mem_append, ← (srtR_perm (A ++ B)).mem_iff, ← srtR_length]
  constructor
  · rintro ⟨j, hj, rfl⟩; exact nthR_mem hj
  · intro h
    obtain ⟨j, hj, rfl⟩ := List.getElem_of_mem h
    exact ⟨j, hj, nthR_eq hj⟩
theorem mrgI_lt (A B : List Rw) : (mrgI A B).Pairwise ltR := cUp_lt _ (srtR_le _) _ (by rw [srtR_length]; exact Nat.le_refl _)

def mergeI (a b : TabD) : TabD × Bool := if (tabGood a && tabGood b && a.depth == b.depth) = true then ifTab ⟨a.depth, mrgI a.rows b.rows⟩ else (tabZ, false)
theorem mergeI_eq (a b : TabD) : mergeI a b = mergeS a b := by
  unfold mergeI mergeS
  split
  · rename_i h
    simp only [Bool.and_eq_true] at h
    have hA := good_strict h.1.1
    have hp := putsR_some hA b.rows
    cases e : putsR a.rows b.rows with
    | some M =>
      rw [e] at hp
      have : mrgI a.rows b.rows = M := sorted_ext (mrgI_lt _ _) hp.1.lt fun x => by rw [mrgI_mem, hp.2]
      rw [this]
    | none =>
      rw [e] at hp
      obtain ⟨r, s, h1, h2, h3, h4⟩ := hp
      unfold ifTab
      rw [if_neg]
      intro hg
      have hs := good_strict hg
      have m1 := (mrgI_mem a.rows b.rows r).2 h1
      have m2 := (mrgI_mem a.rows b.rows s).2 h2
      obtain ⟨i, hi, e1⟩ := List.getElem_of_mem m1
      obtain ⟨j, hj, e2⟩ := List.getElem_of_mem m2
      have hs' : (mrgI a.rows b.rows).Pairwise fun r s => sLt r.1 s.1 = true := hs
      rcases Nat.lt_trichotomy i j with h5 | h5 | h5
      · have := List.pairwise_iff_getElem.1 hs' i j hi hj h5
        rw [e1, e2, h3, sLt_irr] at this; cases this
      · subst h5; exact h4 (e2.symm.trans e1)
      · have := List.pairwise_iff_getElem.1 hs' j i hj hi h5
        rw [e1, e2, h3, sLt_irr] at this; cases this
  · rfl

end Go.Proofs.Ytlfdhhmccjkogaa
