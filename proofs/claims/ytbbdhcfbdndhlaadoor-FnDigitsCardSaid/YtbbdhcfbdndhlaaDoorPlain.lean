/-
  Plain laws on lists of numbers: sorting and looking for doubles say the same.
-/
import Derived.Test.YtbbdhcfbdndhlaaDoorBase
namespace Go.Proofs.YtbbdhcfbdndhlaaDoor

def sortI (zs : List Int) : List Int := zs.mergeSort fun x y => decide (x ≤ y)
theorem sortI_perm (zs : List Int) : (sortI zs).Perm zs := List.mergeSort_perm _ _
theorem sortI_length (zs : List Int) : (sortI zs).length = zs.length := (sortI_perm zs).length_eq
theorem sortI_sorted (zs : List Int) : (sortI zs).Pairwise (· ≤ ·) := by
  have := List.pairwise_mergeSort (le := fun x y : Int => decide (x ≤ y)) (fun a b c h1 h2 => by simp at *; omega) (fun a b => by simp; omega) zs
  exact this.imp fun h => by simpa using h

theorem nth_lt_of_step {zs : List Int} (h : ∀ j, j + 1 < zs.length → nth zs j < nth zs (j + 1)) : ∀ i j, i < j → j < zs.length → nth zs i < nth zs j := by
  intro i j hij hj
  induction j with
  | zero => omega
  | succ j ih =>
    by_cases e : i = j
    · subst e; exact h i hj
    · have := ih (by omega) (by omega); have := h j hj; omega
theorem rising_iff (zs : List Int) (a b : Int) : rising zs a b = true ↔ (∀ x ∈ zs, inB x a b = true) ∧ zs.Pairwise (· < ·) := by
  constructor
  · intro h
    unfold rising at h
    rw [List.all_eq_true] at h
    have h' : ∀ j, j < zs.length → risingAt zs a b j = true := fun j hj => h j (List.mem_range.2 hj)
    refine ⟨fun x hx => ?_, ?_⟩
    · obtain ⟨j, hj, e⟩ := List.mem_iff_getElem.1 hx
      have := h' j hj
      simp only [risingAt, Bool.and_eq_true] at this
      rw [nth_eq hj, e] at this
      exact this.1
    · rw [List.pairwise_iff_getElem]
      intro i j hi hj hij
      rw [← nth_eq hi, ← nth_eq hj]
      refine nth_lt_of_step (fun k hk => ?_) i j hij hj
      have := h' (k + 1) hk
      simp only [risingAt, Bool.and_eq_true] at this
      simpa using this.2
  · rintro ⟨h1, h2⟩
    refine rising_true fun j hj => ?_
    simp only [risingAt, Bool.and_eq_true]
    refine ⟨h1 _ (nth_mem hj), ?_⟩
    by_cases h0 : j = 0
    · simp [h0]
    · rw [List.pairwise_iff_getElem] at h2
      have := h2 (j - 1) j (by omega) hj (by omega)
      rw [← nth_eq, ← nth_eq] at this
      simp [this]
theorem ids_iff (zs : List Int) : (List.range zs.length).all (idAt zs) = true ↔ (∀ x ∈ zs, inB x 1 999999 = true) ∧ zs.Nodup := by
  rw [List.all_eq_true]
  constructor
  · intro h
    have h' : ∀ j, j < zs.length → inB (nth zs j) 1 999999 = true ∧ nth zs j ∉ zs.take j := fun j hj => by
      have := h j (List.mem_range.2 hj)
      simpa [idAt] using this
    refine ⟨fun x hx => ?_, ?_⟩
    · obtain ⟨j, hj, e⟩ := List.mem_iff_getElem.1 hx
      have := (h' j hj).1
      rwa [nth_eq hj, e] at this
    · unfold List.Nodup
      rw [List.pairwise_iff_getElem]
      intro i j hi hj hij e
      apply (h' j hj).2
      rw [nth_eq hj, ← e]
      exact List.mem_iff_getElem.2 ⟨i, by rw [List.length_take]; omega, by simp⟩
  · rintro ⟨h1, h2⟩ j hj
    rw [List.mem_range] at hj
    simp only [idAt, Bool.and_eq_true, Bool.not_eq_true', decide_eq_false_iff_not]
    refine ⟨h1 _ (nth_mem hj), fun hm => ?_⟩
    obtain ⟨i, hi, e⟩ := List.mem_iff_getElem.1 hm
    rw [List.length_take] at hi
    unfold List.Nodup at h2
    rw [List.pairwise_iff_getElem] at h2
    have := h2 i j (by omega) hj (by omega)
    apply this
    rw [nth_eq hj] at e
    simpa using e
/-- the program's look at identifiers -/
def idsOkB (zs : List Int) (n : Int) : Bool := decide (zs.length = 0) || (decide ((zs.length : Int) = n) && rising (sortI zs) 1 999999)
theorem idsOk_eq (zs : List Int) (n : Int) : idsOkB zs n = idsGood zs n := by
  rcases Nat.eq_zero_or_pos zs.length with h0 | h0
  · have : zs = [] := List.eq_nil_of_length_eq_zero h0
    subst this
    rfl
  · have hz : decide (zs.length = 0) = false := by simp; intro e; subst e; simp at h0
    have hr : rising (sortI zs) 1 999999 = (List.range zs.length).all (idAt zs) := by
      rw [Bool.eq_iff_iff, rising_iff, ids_iff]
      have hp := sortI_perm zs
      constructor
      · rintro ⟨h1, h2⟩
        refine ⟨fun x hx => h1 x (hp.mem_iff.2 hx), ?_⟩
        have : (sortI zs).Nodup := h2.imp fun h => by omega
        exact hp.nodup_iff.1 this
      · rintro ⟨h1, h2⟩
        refine ⟨fun x hx => h1 x (hp.mem_iff.1 hx), ?_⟩
        have hn : (sortI zs).Nodup := hp.nodup_iff.2 h2
        have hs := sortI_sorted zs
        exact (List.Pairwise.and hs hn).imp fun h => by omega
    unfold idsOkB idsGood
    rw [hz, hr, Bool.false_or, Bool.false_or, Bool.and_comm]

end Go.Proofs.YtbbdhcfbdndhlaaDoor
