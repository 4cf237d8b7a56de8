/-
  Plain: the nodes that are reached from the first one, in the order in which they are found.
-/
import Derived.Test.YtjgmmmcmoaaiaaaElectP
namespace Go.Proofs.Ytjgmmmcmoaaiaaa
set_option linter.unusedVariables false

structure CoInv (N : NetD) (k : Nat) (out : List Int) : Prop where
  nodup : out.Nodup
  node : ∀ x ∈ out, ∃ v : Nat, x = v ∧ v < N.ends.length ∧ 0 ≤ nth (dist N 0) v
  root : (0 : Int) ∈ out
  done : ∀ i, i < k → ∀ t, Adj N (nth out i).toNat t → (t : Int) ∈ out
  kle : k ≤ out.length
theorem CoInv.start {N : NetD} (hg : N.good = true) : CoInv N 0 [(0 : Int)] := by
  have hn := good_n hg
  refine ⟨by simp, fun x hx => ?_, by simp, fun i hi => absurd hi (by omega), Nat.zero_le _⟩
  have hx' : x = 0 := by simpa using hx
  exact ⟨0, hx', by omega, by rw [dist_self (good_nodes hg) (by omega)]; omega⟩
theorem CoInv.len {N : NetD} {k : Nat} {out : List Int} (h : CoInv N k out) : out.length ≤ N.ends.length := by
  have := nodup_sub_len out ((List.range N.ends.length).map fun (k : Nat) => (k : Int)) h.nodup (fun x hx => by
    obtain ⟨v, rfl, hv, _⟩ := h.node x hx
    exact List.mem_map.2 ⟨v, List.mem_range.2 hv, rfl⟩)
  simpa using this
theorem CoInv.at_ {N : NetD} {k : Nat} {out : List Int} (h : CoInv N k out) {i : Nat} (hi : i < out.length) : ∃ v : Nat, nth out i = v ∧ v < N.ends.length ∧ 0 ≤ nth (dist N 0) v := by
  obtain ⟨v, e, hv, h0⟩ := h.node _ (nth_mem hi); exact ⟨v, e, hv, h0⟩
theorem reach_step {N : NetD} (hg : N.good = true) {v t : Nat} (h0 : 0 ≤ nth (dist N 0) v) (ha : Adj N v t) : 0 ≤ nth (dist N 0) t :=
  (dist_le (k := (nth (dist N 0) v).toNat + 1) (good_nodes hg) (by have := good_n hg; omega) (show way N ((nth (dist N 0) v).toNat + 1) 0 t from ⟨v, dist_way (good_nodes hg) (by have := good_n hg; omega) ha.1 h0, ha⟩)).1
theorem CoInv.add {N : NetD} {k : Nat} {out : List Int} (h : CoInv N k out) {t : Nat} (ht : t < N.ends.length) (h0 : 0 ≤ nth (dist N 0) t) (hm : (t : Int) ∉ out) : CoInv N k (out ++ [(t : Int)]) := by
  refine ⟨?_, fun x hx => ?_, by simp [h.root], fun i hi u hu => ?_, by simp; have := h.kle; omega⟩
  · rw [List.nodup_append]
    exact ⟨h.nodup, by simp, fun a ha b hb => by simp at hb; subst hb; rintro rfl; exact hm ha⟩
  · rw [List.mem_append, List.mem_singleton] at hx
    rcases hx with hx | hx
    · exact h.node x hx
    · exact ⟨t, hx, ht, h0⟩
  · rw [nth_append_left (by have := h.kle; omega)] at hu
    exact List.mem_append.2 (.inl (h.done i hi u hu))
theorem CoInv.next {N : NetD} {k v : Nat} {out : List Int} (h : CoInv N k out) (hk : k < out.length) (hv : nth out k = v) (hall : ∀ i, i < (nthL N.ends v).length → (nthE (nthL N.ends v) i).1 ∈ out) : CoInv N (k + 1) out := by
  refine ⟨h.nodup, h.node, h.root, fun i hi t ht => ?_, hk⟩
  by_cases e : i = k
  · subst e
    rw [hv, Int.toNat_natCast] at ht
    obtain ⟨_, _, j, hj, he⟩ := ht
    rw [← he]; exact hall j hj
  · exact h.done i (by omega) t ht
theorem CoInv.all {N : NetD} (hg : N.good = true) {out : List Int} (h : CoInv N out.length out) {t : Nat} (ht : t < N.ends.length) : (t : Int) ∈ out ↔ 0 ≤ nth (dist N 0) t := by
  have hn := good_n hg
  constructor
  · intro hm
    obtain ⟨v, e, _, h0⟩ := h.node _ hm
    obtain rfl : t = v := by omega
    exact h0
  · intro h0
    have key : ∀ k t, way N k 0 t → (t : Int) ∈ out := by
      intro k
      induction k with
      | zero => intro t e; rw [← (show 0 = t from e)]; exact h.root
      | succ k ih =>
        intro t ⟨s, h1, h2⟩
        obtain ⟨i, hi, e⟩ := List.mem_iff_getElem.1 (ih s h1)
        refine h.done i hi t ?_
        rw [nth_eq hi, e, Int.toNat_natCast]
        exact h2
    exact key _ t (dist_way (good_nodes hg) (by omega) ht h0)
theorem CoInv.conn {N : NetD} (hg : N.good = true) {out : List Int} (h : CoInv N out.length out) : decide (out.length = N.ends.length) = conn N := by
  have hn := good_n hg
  have hd := good_nodes hg
  rw [Bool.eq_iff_iff, decide_eq_true_eq]
  constructor
  · intro e
    have hmem : ∀ t : Nat, t < N.ends.length → (t : Int) ∈ out := fun t ht => Classical.byContradiction fun hm => by
      have := nodup_sub_len ((t : Int) :: out) ((List.range N.ends.length).map fun (k : Nat) => (k : Int)) (List.nodup_cons.2 ⟨hm, h.nodup⟩) (fun x hx => by
        rcases List.mem_cons.1 hx with rfl | hx
        · exact List.mem_map.2 ⟨t, List.mem_range.2 ht, rfl⟩
        · obtain ⟨v, rfl, hv, _⟩ := h.node x hx
          exact List.mem_map.2 ⟨v, List.mem_range.2 hv, rfl⟩)
      simp at this
      omega
    unfold Go.Proofs.Ytjgmmmcmoaaiaaa.conn
    rw [Bool.not_eq_true']
    refine decide_eq_false fun hm => ?_
    obtain ⟨j, hj, e2⟩ := List.mem_iff_getElem.1 hm
    rw [dist_len hd (by omega)] at hj
    have := (h.all hg hj).1 (hmem j hj)
    rw [← nth_eq] at e2
    omega
  · intro hc
    have h1 := h.len
    have h2 := nodup_sub_len ((List.range N.ends.length).map fun (k : Nat) => (k : Int)) out (by unfold List.Nodup; rw [List.pairwise_map]; have := List.nodup_range (n := N.ends.length); unfold List.Nodup at this; exact this.imp fun hne e => hne (by omega)) (fun x hx => by
      obtain ⟨t, ht, rfl⟩ := List.mem_map.1 hx
      exact (h.all hg (List.mem_range.1 ht)).2 (conn_way hg hc (List.mem_range.1 ht)))
    simp at h2
    omega

end Go.Proofs.Ytjgmmmcmoaaiaaa
