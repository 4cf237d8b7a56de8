/-
  Plain: the rank of a subset; ranks and subsets belong to each other.
-/
import Derived.Test.YtlignkgfclenkaaBinP
namespace Go.Proofs.Ytlignkgfclenkaa
open Go.ChangeShapes Go.WideShapes Go.ChangeAt Go.RowKit
set_option linter.unusedVariables false

theorem ch_symm : ∀ {n k : Nat}, k ≤ n → ch n (n - k) = ch n k
  | 0, k, h => by obtain rfl : k = 0 := by omega
                  rfl
  | n + 1, 0, h => by rw [Nat.sub_zero, ch_self, ch_zero]
  | n + 1, k + 1, h => by
    by_cases e : k = n
    · subst e; rw [Nat.sub_self, ch_self, ch_zero]
    · have h1 := ch_symm (n := n) (k := k) (by omega)
      have h2 := ch_symm (n := n) (k := k + 1) (by omega)
      rw [show n + 1 - (k + 1) = (n - (k + 1)) + 1 by omega, ch_succ, ch_succ, h2, show n - (k + 1) + 1 = n - k by omega, h1]
      omega
/-- the rank of a list of numbers among those of the m numbers from x on -/
def rk : Nat → Nat → List Int → Nat
  | 0, _, _ => 0
  | _ + 1, _, [] => 0
  | m + 1, x, z :: l => if z = (x : Int) then rk m (x + 1) l else ch m l.length + rk m (x + 1) (z :: l)
theorem rk_nil (m x : Nat) : rk m x [] = 0 := by cases m <;> rfl
theorem rk_yes (m x : Nat) (l : List Int) : rk (m + 1) x ((x : Int) :: l) = rk m (x + 1) l := by rw [rk, if_pos rfl]
theorem rk_no {m x : Nat} {z : Int} {l : List Int} (h : z ≠ x) : rk (m + 1) x (z :: l) = ch m l.length + rk m (x + 1) (z :: l) := by rw [rk, if_neg h]
theorem rk_sub : ∀ {m x k r : Nat}, r < ch m k → rk m x (subN m x k r) = r
  | 0, x, 0, r, h => by rw [show ch 0 0 = 1 from rfl] at h; rw [subN_zero, rk_nil]; omega
  | 0, x, k + 1, r, h => by rw [show ch 0 (k + 1) = 0 from rfl] at h; omega
  | m + 1, x, 0, r, h => by rw [ch_zero] at h; rw [subN_zero, rk_nil]; omega
  | m + 1, x, k + 1, r, h => by
    rw [ch_succ] at h
    by_cases hr : r < ch m k
    · rw [subN_yes hr, rk_yes, rk_sub hr]
    · have h2 : r - ch m k < ch m (k + 1) := by omega
      have hl := subN_len (x := x + 1) h2
      rw [subN_no hr]
      have hi := rk_sub (x := x + 1) h2
      cases hL : subN m (x + 1) (k + 1) (r - ch m k) with
      | nil => rw [hL] at hl; simp at hl
      | cons z l =>
        rw [hL] at hl hi
        obtain ⟨t, e, h3, _⟩ := subN_mem (show z ∈ subN m (x + 1) (k + 1) (r - ch m k) by rw [hL]; simp)
        rw [rk_no (by omega), hi]
        simp at hl
        rw [hl]; omega
/-- l is increasing, within the m numbers from x on -/
def Asc (m x : Nat) (l : List Int) : Prop := l.Pairwise (· < ·) ∧ ∀ z ∈ l, (x : Int) ≤ z ∧ z < (x : Int) + m
theorem Asc.next {m x : Nat} {z : Int} {l : List Int} (h : Asc (m + 1) x (z :: l)) (hz : z ≠ x) : Asc m (x + 1) (z :: l) :=
  ⟨h.1, fun y hy => by
    have h1 := h.2 y hy
    have h2 := (h.2 z (by simp)).1
    rcases List.mem_cons.1 hy with rfl | hy
    · omega
    · have := (List.pairwise_cons.1 h.1).1 y hy; omega⟩
theorem Asc.tail {m x : Nat} {l : List Int} (h : Asc (m + 1) x ((x : Int) :: l)) : Asc m (x + 1) l :=
  ⟨(List.pairwise_cons.1 h.1).2, fun y hy => by
    have h1 := h.2 y (by simp [hy])
    have := (List.pairwise_cons.1 h.1).1 y hy; omega⟩
theorem asc_rk : ∀ {m x : Nat} {l : List Int}, Asc m x l → rk m x l < ch m l.length ∧ subN m x l.length (rk m x l) = l
  | 0, x, [], _ => ⟨by show 0 < ch 0 0; exact Nat.one_pos, rfl⟩
  | 0, x, z :: l, h => by have := h.2 z (by simp); omega
  | m + 1, x, [], _ => ⟨by rw [rk_nil, List.length_nil, ch_zero]; omega, by rw [rk_nil]; rfl⟩
  | m + 1, x, z :: l, h => by
    by_cases e : z = (x : Int)
    · subst e
      obtain ⟨h1, h2⟩ := asc_rk h.tail
      rw [rk_yes, List.length_cons, ch_succ]
      exact ⟨by omega, by rw [subN_yes h1, h2]⟩
    · obtain ⟨h1, h2⟩ := asc_rk (h.next e)
      rw [rk_no e, List.length_cons, ch_succ]
      rw [List.length_cons] at h1 h2
      refine ⟨by omega, ?_⟩
      rw [subN_no (by omega), show ch m l.length + rk m (x + 1) (z :: l) - ch m l.length = rk m (x + 1) (z :: l) by omega, h2]
theorem rising_asc {zs : List Int} {n : Int} (hn : 0 ≤ n) (h : rising zs 0 (n - 1) = true) : Asc n.toNat 0 zs := by
  have hk : ∀ k, k < zs.length → risingAt zs 0 (n - 1) k = true := fun k hk => by
    unfold rising at h
    exact (List.all_eq_true.1 h) k (List.mem_range.2 hk)
  have hlt : ∀ j i, i < j → j < zs.length → nth zs i < nth zs j := by
    intro j
    induction j with
    | zero => intro i hi; omega
    | succ j ih =>
      intro i hi hj
      have := hk (j + 1) hj
      unfold risingAt at this
      simp at this
      by_cases e : i = j
      · subst e; omega
      · have := ih i (by omega) (by omega); omega
  refine ⟨List.pairwise_iff_getElem.2 fun i j hi hj hij => by rw [← nth_eq hi, ← nth_eq hj]; exact hlt j i hij hj, fun z hz => ?_⟩
  obtain ⟨k, hk2, e⟩ := List.mem_iff_getElem.1 hz
  have := hk k hk2
  unfold risingAt at this
  rw [Bool.and_eq_true] at this
  have := inB_le this.1
  rw [nth_eq hk2, e] at this
  omega
theorem asc_len {m x : Nat} {l : List Int} (h : Asc m x l) : l.length ≤ m := by
  have h2 := asc_rk h
  rw [← h2.2]
  exact subN_le _ _ _ _
theorem asc_rising {zs : List Int} {n : Nat} (h : Asc n 0 zs) : rising zs 0 ((n : Int) - 1) = true := rising_true fun j hj => by
  unfold risingAt
  have h1 := h.2 (nth zs j) (nth_mem hj)
  rw [inB_true (by omega) (by omega), Bool.true_and]
  by_cases e : j = 0
  · simp [e]
  · have := List.pairwise_iff_getElem.1 h.1 (j - 1) j (by omega) hj (by omega)
    rw [← nth_eq, ← nth_eq] at this
    simp [this]
theorem sub_asc : ∀ {m x k r : Nat}, Asc m x (subN m x k r)
  | 0, x, k, r => ⟨by simp [subN], fun z hz => by simp [subN] at hz⟩
  | m + 1, x, 0, r => ⟨by simp [subN], fun z hz => by simp [subN] at hz⟩
  | m + 1, x, k + 1, r => by
    by_cases hr : r < ch m k
    · rw [subN_yes hr]
      have h := sub_asc (m := m) (x := x + 1) (k := k) (r := r)
      refine ⟨List.pairwise_cons.2 ⟨fun y hy => by have := h.2 y hy; omega, h.1⟩, fun z hz => ?_⟩
      rcases List.mem_cons.1 hz with rfl | hz
      · omega
      · have := h.2 z hz; omega
    · rw [subN_no hr]
      have h := sub_asc (m := m) (x := x + 1) (k := k + 1) (r := r - ch m k)
      exact ⟨h.1, fun z hz => by have := h.2 z hz; omega⟩
/-- is there a number of subsets -/
def binOk (n k : Int) : Bool := inB n 0 60 && inB k 0 60
def binV (n k : Int) : Nat := if binOk n k = true then ch n.toNat k.toNat else 0
def subsOk (n k : Int) : Bool := binOk n k && decide (binV n k ≤ 1000)
def subsL (n k : Int) : List (List Int) := if subsOk n k = true then (List.range (binV n k)).map fun r => subN n.toNat 0 k.toNat r else []
def atOk (n k r : Int) : Bool := binOk n k && inB r 0 ((binV n k : Int) - 1)
def atV (n k r : Int) : List Int := if atOk n k r = true then subN n.toNat 0 k.toNat r.toNat else []
def rankOk (n : Int) (l : List Int) : Bool := inB n 0 60 && rising l 0 (n - 1)
def rankV (n : Int) (l : List Int) : Nat := if rankOk n l = true then rk n.toNat 0 l else 0
theorem binOk_parts {n k : Int} (h : binOk n k = true) : 0 ≤ n ∧ n ≤ 60 ∧ 0 ≤ k ∧ k ≤ 60 := by
  unfold binOk at h
  rw [Bool.and_eq_true] at h
  have h1 := inB_le h.1; have h2 := inB_le h.2
  omega
theorem binV_yes {n k : Int} (h : binOk n k = true) : binV n k = ch n.toNat k.toNat := by unfold binV; rw [if_pos h]
theorem binV_no {n k : Int} (h : binOk n k = false) : binV n k = 0 := by unfold binV; rw [h]; rfl
theorem binV_le (n k : Int) : binV n k ≤ 1152921504606846976 := by
  unfold binV
  split
  · rename_i h; have := binOk_parts h; exact ch_small (by omega)
  · omega
theorem subsL_yes {n k : Int} (h : subsOk n k = true) : subsL n k = (List.range (binV n k)).map fun r => subN n.toNat 0 k.toNat r := by unfold subsL; rw [if_pos h]
theorem subsL_len {n k : Int} (h : subsOk n k = true) : (subsL n k).length = binV n k := by rw [subsL_yes h]; simp
theorem subsL_at {n k : Int} (h : subsOk n k = true) {r : Nat} (hr : r < binV n k) : nthL (subsL n k) r = subN n.toNat 0 k.toNat r := by
  rw [nthL_eq (by rw [subsL_len h]; exact hr)]
  simp [subsL_yes h]

end Go.Proofs.Ytlignkgfclenkaa
