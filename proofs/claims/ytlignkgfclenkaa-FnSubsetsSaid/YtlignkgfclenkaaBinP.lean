/-
  Plain: binomial numbers by Pascal's triangle, subsets by their ranks; the least dominating set. No condition on any program.
-/
import Derived.Test.YtlignkgfclenkaaDomP
import Derived.Test.YtlignkgfclenkaaRuleP
namespace Go.Proofs.Ytlignkgfclenkaa
set_option linter.unusedVariables false

/-- how many subsets of k numbers n numbers have -/
def ch : Nat → Nat → Nat
  | _, 0 => 1
  | 0, _ + 1 => 0
  | n + 1, k + 1 => ch n k + ch n (k + 1)
theorem ch_zero (n : Nat) : ch n 0 = 1 := by cases n <;> rfl
theorem ch_succ (n k : Nat) : ch (n + 1) (k + 1) = ch n k + ch n (k + 1) := rfl
theorem ch_over : ∀ {n k : Nat}, n < k → ch n k = 0
  | 0, k + 1, _ => rfl
  | n + 1, k + 1, h => by rw [ch_succ, ch_over (show n < k by omega), ch_over (show n < k + 1 by omega)]
theorem ch_self : ∀ n : Nat, ch n n = 1
  | 0 => rfl
  | n + 1 => by rw [ch_succ, ch_self n, ch_over (Nat.lt_succ_self n)]
theorem ch_pos : ∀ {n k : Nat}, k ≤ n → 0 < ch n k
  | n, 0, _ => by rw [ch_zero]; exact Nat.one_pos
  | 0, k + 1, h => by omega
  | n + 1, k + 1, h => by rw [ch_succ]; have := ch_pos (show k ≤ n by omega); omega
theorem ch_le : ∀ (n k : Nat), ch n k ≤ 2 ^ n
  | n, 0 => by rw [ch_zero]; exact Nat.one_le_two_pow
  | 0, k + 1 => by rw [show ch 0 (k + 1) = 0 from rfl]; exact Nat.zero_le _
  | n + 1, k + 1 => by rw [ch_succ, Nat.pow_succ]; have := ch_le n k; have := ch_le n (k + 1); omega
theorem ch_small {n k : Nat} (h : n ≤ 60) : ch n k ≤ 1152921504606846976 := Nat.le_trans (ch_le n k) (by
  have : 2 ^ n ≤ 2 ^ 60 := Nat.pow_le_pow_right (by omega) h
  have e : (2 : Nat) ^ 60 = 1152921504606846976 := by decide
  omega)
theorem ch_le_of_pos {n k : Nat} (h : 0 < ch n k) : k ≤ n := by
  rcases Nat.lt_or_ge n k with h1 | h1
  · rw [ch_over h1] at h; omega
  · exact h1
/-- the inner loop: the entries beyond i are of row m + 1, the others of row m -/
def Pas (c m i : Nat) (zs : List Int) : Prop := zs.length = c ∧ ∀ j, j < c → nth zs j = (if i < j then ch (m + 1) j else ch m j : Nat)
def PasF (c m : Nat) (zs : List Int) : Prop := zs.length = c ∧ ∀ j, j < c → nth zs j = (ch m j : Nat)
theorem PasF.start {c : Nat} : PasF c 0 ((List.replicate c (0 : Int)).set 0 1) := by
  refine ⟨by simp, fun j hj => ?_⟩
  rw [nth_set _ _ _ _ (by simpa using (by omega : 0 < c))]
  by_cases e : j = 0
  · subst e; rw [if_pos rfl, ch_zero]; rfl
  · rw [if_neg e]
    obtain ⟨k, rfl⟩ : ∃ k, j = k + 1 := ⟨j - 1, by omega⟩
    rw [show ch 0 (k + 1) = 0 from rfl]
    unfold nth
    simp [hj]
theorem PasF.go {c m i : Nat} {zs : List Int} (h : PasF c m zs) (hi : m + 1 ≤ i ∨ c ≤ i + 1) : Pas c m i zs := ⟨h.1, fun j hj => by
  rw [h.2 j hj]
  by_cases e : i < j
  · rw [if_pos e, ch_over (show m < j by omega), ch_over (show m + 1 < j by omega)]
  · rw [if_neg e]⟩
theorem Pas.step {c m i : Nat} {zs : List Int} (h : Pas c m (i + 1) zs) (hi : i + 1 < c) : Pas c m i (zs.set (i + 1) (nth zs (i + 1) + nth zs i)) := by
  refine ⟨by rw [List.length_set]; exact h.1, fun j hj => ?_⟩
  rw [nth_set _ _ _ _ (by rw [h.1]; exact hi)]
  by_cases e : j = i + 1
  · subst e
    rw [if_pos rfl, if_pos (by omega), h.2 (i + 1) hi, h.2 i (by omega), if_neg (by omega), if_neg (by omega), ch_succ]
    omega
  · rw [if_neg e, h.2 j hj]
    by_cases e2 : i + 1 < j
    · rw [if_pos e2, if_pos (by omega)]
    · rw [if_neg e2, if_neg (by omega)]
theorem Pas.full {c m : Nat} {zs : List Int} (h : Pas c m 0 zs) : PasF c (m + 1) zs := ⟨h.1, fun j hj => by
  rw [h.2 j hj]
  by_cases e : 0 < j
  · rw [if_pos e]
  · obtain rfl : j = 0 := by omega
    rw [if_neg e, ch_zero, ch_zero]⟩
theorem Pas.at_ {c m i j : Nat} {zs : List Int} (h : Pas c m i zs) (hj : j < c) : ∃ y : Nat, nth zs j = y ∧ (y = ch (m + 1) j ∨ y = ch m j) := by
  refine ⟨_, h.2 j hj, ?_⟩
  by_cases e : i < j
  · exact .inl (if_pos e)
  · exact .inr (if_neg e)

/-- the subset of k of the m numbers from x on that has rank r -/
def subN : Nat → Nat → Nat → Nat → List Int
  | 0, _, _, _ => []
  | _ + 1, _, 0, _ => []
  | m + 1, x, k + 1, r => if r < ch m k then (x : Int) :: subN m (x + 1) k r else subN m (x + 1) (k + 1) (r - ch m k)
theorem subN_zero (m x r : Nat) : subN m x 0 r = [] := by cases m <;> rfl
theorem subN_yes {m x k r : Nat} (h : r < ch m k) : subN (m + 1) x (k + 1) r = (x : Int) :: subN m (x + 1) k r := by rw [subN, if_pos h]
theorem subN_no {m x k r : Nat} (h : ¬ r < ch m k) : subN (m + 1) x (k + 1) r = subN m (x + 1) (k + 1) (r - ch m k) := by rw [subN, if_neg h]
theorem subN_mem : ∀ {m x k r : Nat} {z : Int}, z ∈ subN m x k r → ∃ t : Nat, z = t ∧ x ≤ t ∧ t < x + m
  | 0, x, k, r, z, h => by simp [subN] at h
  | m + 1, x, 0, r, z, h => by simp [subN] at h
  | m + 1, x, k + 1, r, z, h => by
    by_cases hr : r < ch m k
    · rw [subN_yes hr] at h
      rcases List.mem_cons.1 h with e | h
      · exact ⟨x, e, Nat.le_refl _, by omega⟩
      · obtain ⟨t, e, h1, h2⟩ := subN_mem h; exact ⟨t, e, by omega, by omega⟩
    · rw [subN_no hr] at h
      obtain ⟨t, e, h1, h2⟩ := subN_mem h; exact ⟨t, e, by omega, by omega⟩
theorem subN_len : ∀ {m x k r : Nat}, r < ch m k → (subN m x k r).length = k
  | 0, x, 0, r, h => rfl
  | 0, x, k + 1, r, h => by rw [show ch 0 (k + 1) = 0 from rfl] at h; omega
  | m + 1, x, 0, r, h => rfl
  | m + 1, x, k + 1, r, h => by
    rw [ch_succ] at h
    by_cases hr : r < ch m k
    · rw [subN_yes hr, List.length_cons, subN_len hr]
    · rw [subN_no hr, subN_len (by omega)]
theorem subN_le : ∀ (m x k r : Nat), (subN m x k r).length ≤ m
  | 0, x, k, r => by simp [subN]
  | m + 1, x, 0, r => by simp [subN]
  | m + 1, x, k + 1, r => by
    by_cases hr : r < ch m k
    · rw [subN_yes hr, List.length_cons]; have := subN_le m (x + 1) k r; omega
    · rw [subN_no hr]; have := subN_le m (x + 1) (k + 1) (r - ch m k); omega
theorem subN_full : ∀ (m x : Nat), subN m x m 0 = (List.range' x m).map fun (k : Nat) => (k : Int)
  | 0, x => rfl
  | m + 1, x => by rw [subN_yes (by rw [ch_self]; exact Nat.one_pos), subN_full m (x + 1), List.range'_succ, List.map_cons]

/-- set covers each node at distance 1 -/
def ldB (N : NetD) (set : List Int) : Bool := (List.range N.ends.length).all fun v => decide ((v : Int) ∈ set) || (nbs N v).any fun x => decide (x ∈ set)
theorem ldB_true {N : NetD} {set : List Int} : ldB N set = true ↔ ∀ v, v < N.ends.length → (v : Int) ∈ set ∨ ∃ x, x ∈ nbs N v ∧ x ∈ set := by
  unfold ldB
  simp only [List.all_eq_true, List.mem_range, Bool.or_eq_true, decide_eq_true_eq, List.any_eq_true]
theorem coversB_is {N : NetD} (hg : N.good = true) {set : List Int} (hm : ∀ x ∈ set, ∃ t : Nat, x = t ∧ t < N.ends.length) : coversB N set 1 = ldB N set := by
  rw [Bool.eq_iff_iff, ldB_true]
  unfold coversB
  rw [List.all_eq_true]
  have key : ∀ v, v < N.ends.length → (inB (farOf (dist N v) set) 0 1 = true ↔ ((v : Int) ∈ set ∨ ∃ x, x ∈ nbs N v ∧ x ∈ set)) := fun v hv => by
    rw [farOf_inB, List.any_eq_true]
    constructor
    · rintro ⟨x, hx, h⟩
      obtain ⟨t, rfl, ht⟩ := hm x hx
      rw [Int.toNat_natCast] at h
      rcases (ball_one hg hv ht).1 h with e | e
      · subst e; exact .inl hx
      · obtain ⟨_, _, i, hi, e⟩ := e
        exact .inr ⟨_, nbs_mem.2 ⟨i, hi, e⟩, hx⟩
    · have back : ∀ x, x ∈ set → (x = v ∨ x ∈ nbs N v) → ∃ x, x ∈ set ∧ inB (nth (dist N v) x.toNat) 0 1 = true := fun x hx h => by
        obtain ⟨t, rfl, ht⟩ := hm x hx
        refine ⟨_, hx, ?_⟩
        rw [Int.toNat_natCast]
        refine (ball_one hg hv ht).2 ?_
        rcases h with h | h
        · exact .inl (by omega)
        · obtain ⟨i, hi, e⟩ := nbs_mem.1 h
          exact .inr ⟨hv, ht, i, hi, e⟩
      rintro (h | ⟨x, h1, h2⟩)
      · exact back _ h (.inl rfl)
      · exact back x h2 (.inr h1)
  constructor
  · intro h v hv; exact (key v hv).1 (h v (List.mem_range.2 hv))
  · intro h v hv; exact (key v (List.mem_range.1 hv)).2 (h v (List.mem_range.1 hv))
theorem ldB_nil {N : NetD} (h : 0 < N.ends.length) : ldB N [] = false := by
  rw [Bool.eq_false_iff]
  intro h2
  rcases ldB_true.1 h2 0 h with h3 | ⟨x, _, h3⟩ <;> simp at h3
/-- the first subset by size and rank that covers -/
structure Ld1 (N : NetD) (s r : Nat) : Prop where
  size : s ≤ N.ends.length
  rank : r < ch N.ends.length s
  yes : ldB N (subN N.ends.length 0 s r) = true
  low : ∀ s' r', s' < s → r' < ch N.ends.length s' → ldB N (subN N.ends.length 0 s' r') = false
  same : ∀ r', r' < r → ldB N (subN N.ends.length 0 s r') = false
theorem Ld1.one {N : NetD} {s r s' r' : Nat} (h : Ld1 N s r) (k : Ld1 N s' r') : s = s' ∧ r = r' := by
  have h1 : s = s' := by
    rcases Nat.lt_trichotomy s s' with e | e | e
    · have := k.low s r e h.rank; rw [h.yes] at this; cases this
    · exact e
    · have := h.low s' r' e k.rank; rw [k.yes] at this; cases this
  subst h1
  refine ⟨rfl, ?_⟩
  rcases Nat.lt_trichotomy r r' with e | e | e
  · have := k.same r e; rw [h.yes] at this; cases this
  · exact e
  · have := h.same r' e; rw [k.yes] at this; cases this
open Classical in
noncomputable def ldSet (N : NetD) : List Int := if h : ∃ p : Nat × Nat, Ld1 N p.1 p.2 then subN N.ends.length 0 (Classical.choose h).1 (Classical.choose h).2 else []
theorem Ld1.set {N : NetD} {s r : Nat} (h : Ld1 N s r) : ldSet N = subN N.ends.length 0 s r := by
  unfold ldSet
  have he : ∃ p : Nat × Nat, Ld1 N p.1 p.2 := ⟨(s, r), h⟩
  rw [dif_pos he]
  obtain ⟨e1, e2⟩ := h.one (Classical.choose_spec he)
  rw [← e1, ← e2]
theorem ldSet_len (N : NetD) : (ldSet N).length ≤ N.ends.length := by
  unfold ldSet
  split
  · exact subN_le _ _ _ _
  · exact Nat.zero_le _

end Go.Proofs.Ytlignkgfclenkaa
