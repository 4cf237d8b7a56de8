/-
  Plain: the least node of each component; clusterings; decompositions. No condition on any program.
-/
import Derived.Test.YtcmmklcampmkjaaDistC
namespace Go.Proofs.Ytcmmklcampmkjaa
set_option linter.unusedVariables false

theorem way_trans {N : NetD} : ∀ {k m u s t : Nat}, way N k u s → way N m s t → way N (k + m) u t
  | k, 0, u, s, t, h, e => by rw [← (show s = t from e)]; exact h
  | k, m + 1, u, s, t, h, ⟨r, h1, h2⟩ => ⟨r, way_trans h h1, h2⟩
/-- a way leads from v to t -/
def Reach (N : NetD) (v t : Nat) : Prop := 0 ≤ nth (dist N v) t
instance (N : NetD) (v t : Nat) : Decidable (Reach N v t) := by unfold Reach; infer_instance
theorem Reach.self {N : NetD} (hg : N.good = true) {v : Nat} (hv : v < N.ends.length) : Reach N v v := by unfold Reach; rw [dist_self (good_nodes hg) hv]; omega
theorem Reach.symm {N : NetD} (hg : N.good = true) {u v : Nat} (hu : u < N.ends.length) (hv : v < N.ends.length) (h : Reach N u v) : Reach N v u := by unfold Reach at *; rw [dist_symm hg hv hu]; exact h
theorem Reach.trans {N : NetD} (hg : N.good = true) {u v t : Nat} (hu : u < N.ends.length) (hv : v < N.ends.length) (ht : t < N.ends.length) (h : Reach N u v) (k : Reach N v t) : Reach N u t :=
  (dist_le (good_nodes hg) hu (way_trans (dist_way (good_nodes hg) hu hv h) (dist_way (good_nodes hg) hv ht k))).1
/-- the least node of v's component -/
def comp (N : NetD) (v : Nat) : Nat := (List.range N.ends.length).findIdx fun t => decide (0 ≤ nth (dist N v) t)
theorem comp_is {N : NetD} {v c : Nat} (hc : c < N.ends.length) (h : Reach N v c) (hb : ∀ j, j < c → ¬ Reach N v j) : comp N v = c := by
  unfold comp
  unfold Reach at h hb
  rw [List.findIdx_eq (by simp; omega)]
  refine ⟨by simpa using h, fun j hj => ?_⟩
  simpa using hb j hj
theorem comp_spec {N : NetD} (hg : N.good = true) {v : Nat} (hv : v < N.ends.length) : comp N v < N.ends.length ∧ Reach N v (comp N v) ∧ ∀ j, j < comp N v → ¬ Reach N v j := by
  have key : ∀ c : Nat, c < N.ends.length → Reach N v c → ∃ d, d < N.ends.length ∧ Reach N v d ∧ ∀ j, j < d → ¬ Reach N v j := by
    intro c
    induction c using Nat.strongRecOn with
    | _ c ih =>
      intro hc hr
      by_cases h : ∃ j, j < c ∧ Reach N v j
      · obtain ⟨j, hj, hn⟩ := h; exact ih j hj (by omega) hn
      · exact ⟨c, hc, hr, fun j hj hn => h ⟨j, hj, hn⟩⟩
  obtain ⟨d, h1, h2, h3⟩ := key v hv (Reach.self hg hv)
  rw [comp_is h1 h2 h3]
  exact ⟨h1, h2, h3⟩
theorem comp_le {N : NetD} (hg : N.good = true) {v t : Nat} (hv : v < N.ends.length) (h : Reach N v t) : comp N v ≤ t := by
  have := (comp_spec hg hv).2.2 t
  by_cases e : comp N v ≤ t
  · exact e
  · exact absurd h (this (by omega))
theorem comp_reach {N : NetD} (hg : N.good = true) {v t : Nat} (hv : v < N.ends.length) (ht : t < N.ends.length) : Reach N v t ↔ comp N v = comp N t := by
  obtain ⟨a1, a2, a3⟩ := comp_spec hg hv
  obtain ⟨b1, b2, b3⟩ := comp_spec hg ht
  constructor
  · intro h
    have h1 := comp_le hg hv (h.trans hg hv ht b1 b2)
    have h2 := comp_le hg ht ((h.symm hg hv ht).trans hg ht hv a1 a2)
    omega
  · intro e
    rw [e] at a2
    exact a2.trans hg hv b1 ht (b2.symm hg ht b1)
def compAll (N : NetD) : List Int := (List.range N.ends.length).map fun v => (comp N v : Int)
theorem compAll_length (N : NetD) : (compAll N).length = N.ends.length := by simp [compAll]
theorem nth_compAll {N : NetD} {v : Nat} (hv : v < N.ends.length) : nth (compAll N) v = comp N v := by simp [nth, compAll, hv]
/-- the loop over the nodes: components whose least node lies before k are written -/
def CompAt (N : NetD) (k : Nat) (zs : List Int) : Prop := zs.length = N.ends.length ∧ ∀ w, w < N.ends.length → nth zs w = if comp N w < k then (comp N w : Int) else -1
theorem CompAt.start (N : NetD) : CompAt N 0 (List.replicate N.ends.length (-1)) := ⟨by simp, fun w hw => by rw [nth_replicate _ _ hw, if_neg (by omega)]⟩
theorem CompAt.skip {N : NetD} (hg : N.good = true) {k : Nat} {zs : List Int} (h : CompAt N k zs) (hk : k < N.ends.length) (h0 : 0 ≤ nth zs k) : CompAt N (k + 1) zs := by
  refine ⟨h.1, fun w hw => ?_⟩
  rw [h.2 w hw]
  have hck : comp N k < k := by
    have := h.2 k hk
    by_cases e : comp N k < k
    · exact e
    · rw [if_neg e] at this; omega
  by_cases e : comp N w < k
  · rw [if_pos e, if_pos (by omega)]
  · rw [if_neg e, if_neg]
    intro e2
    have e3 : comp N w = k := by omega
    have := (comp_spec hg hw).2.1
    rw [e3] at this
    have := (comp_reach hg hw hk).1 this
    omega
/-- the inner loop: nodes before m are written -/
def CompMid (N : NetD) (k m : Nat) (zs : List Int) : Prop := zs.length = N.ends.length ∧ ∀ w, w < N.ends.length → nth zs w = if w < m ∧ Reach N k w then (k : Int) else if comp N w < k then (comp N w : Int) else -1
theorem CompAt.mid {N : NetD} {k : Nat} {zs : List Int} (h : CompAt N k zs) : CompMid N k 0 zs := ⟨h.1, fun w hw => by rw [h.2 w hw, if_neg (by omega : ¬ (w < 0 ∧ _))]⟩
theorem CompMid.yes {N : NetD} {k m : Nat} {zs : List Int} (h : CompMid N k m zs) (hm : m < N.ends.length) (hr : 0 ≤ nth (dist N k) m) : CompMid N k (m + 1) (zs.set m k) := by
  refine ⟨by rw [List.length_set]; exact h.1, fun w hw => ?_⟩
  rw [nth_set _ _ _ _ (by rw [h.1]; exact hm)]
  by_cases e : w = m
  · subst e; rw [if_pos rfl, if_pos ⟨by omega, hr⟩]
  · rw [if_neg e, h.2 w hw]
    by_cases e2 : w < m ∧ Reach N k w
    · rw [if_pos e2, if_pos ⟨by omega, e2.2⟩]
    · rw [if_neg e2, if_neg (c := w < m + 1 ∧ Reach N k w) (fun h => e2 ⟨by omega, h.2⟩)]
theorem CompMid.no {N : NetD} {k m : Nat} {zs : List Int} (h : CompMid N k m zs) (hr : ¬ 0 ≤ nth (dist N k) m) : CompMid N k (m + 1) zs := by
  refine ⟨h.1, fun w hw => ?_⟩
  rw [h.2 w hw]
  by_cases e2 : w < m ∧ Reach N k w
  · rw [if_pos e2, if_pos ⟨by omega, e2.2⟩]
  · rw [if_neg e2, if_neg (c := w < m + 1 ∧ Reach N k w) (fun h => by
      by_cases e : w = m
      · subst e; exact hr h.2
      · exact e2 ⟨by omega, h.2⟩)]
theorem CompMid.done {N : NetD} (hg : N.good = true) {k : Nat} {zs : List Int} (h : CompMid N k N.ends.length zs) (hk : k < N.ends.length) (hc : ¬ comp N k < k) : CompAt N (k + 1) zs := by
  refine ⟨h.1, fun w hw => ?_⟩
  rw [h.2 w hw]
  have hck : comp N k = k := by have := comp_le hg hk (Reach.self hg hk); omega
  by_cases e : Reach N k w
  · have := (comp_reach hg hk hw).1 e
    rw [if_pos ⟨hw, e⟩, if_pos (by omega)]; omega
  · rw [if_neg (c := w < N.ends.length ∧ Reach N k w) (fun h => e h.2)]
    have : comp N w ≠ k := by
      intro e3
      have := (comp_spec hg hw).2.1
      rw [e3] at this
      exact e (this.symm hg hw hk)
    by_cases e2 : comp N w < k
    · rw [if_pos e2, if_pos (by omega)]
    · rw [if_neg e2, if_neg (by omega)]
theorem CompAt.all {N : NetD} (hg : N.good = true) {zs : List Int} (h : CompAt N N.ends.length zs) : zs = compAll N :=
  ext_nth (by rw [h.1, compAll_length]) fun i hi => by
    rw [h.1] at hi
    rw [h.2 i hi, nth_compAll hi, if_pos (comp_spec hg hi).1]
theorem CompAt.neg {N : NetD} {k : Nat} {zs : List Int} (h : CompAt N k zs) (hk : k < N.ends.length) (h0 : ¬ 0 ≤ nth zs k) : ¬ comp N k < k := by
  intro e
  rw [h.2 k hk, if_pos e] at h0
  omega

/-- the greatest of some numbers, at least 0 -/
def mostI (zs : List Int) : Int := zs.foldl (fun a x => if x < a then a else x) 0
theorem mostI_snoc (zs : List Int) (x : Int) : mostI (zs ++ [x]) = if x < mostI zs then mostI zs else x := by unfold mostI; rw [List.foldl_append]; rfl
theorem mostI_take {zs : List Int} {k : Nat} (hk : k < zs.length) : mostI (zs.take (k + 1)) = if nth zs k < mostI (zs.take k) then mostI (zs.take k) else nth zs k := by
  rw [List.take_succ_eq_append_getElem hk, mostI_snoc, nth_eq hk]
theorem mostI_spec (zs : List Int) : 0 ≤ mostI zs ∧ (∀ x ∈ zs, x ≤ mostI zs) ∧ (mostI zs = 0 ∨ mostI zs ∈ zs) := by
  suffices h : ∀ l : List Int, 0 ≤ mostI l.reverse ∧ (∀ x ∈ l, x ≤ mostI l.reverse) ∧ (mostI l.reverse = 0 ∨ mostI l.reverse ∈ l) by
    have := h zs.reverse
    simpa using this
  intro l
  induction l with
  | nil => exact ⟨by simp [mostI], (fun x hx => by cases hx), .inl rfl⟩
  | cons x l ih =>
    rw [List.reverse_cons, mostI_snoc]
    obtain ⟨h1, h2, h3⟩ := ih
    by_cases e : x < mostI l.reverse
    · rw [if_pos e]
      refine ⟨h1, fun y hy => ?_, ?_⟩
      · rcases List.mem_cons.1 hy with rfl | hy
        · omega
        · exact h2 y hy
      · rcases h3 with h3 | h3
        · exact .inl h3
        · exact .inr (List.mem_cons_of_mem _ h3)
    · rw [if_neg e]
      refine ⟨by omega, fun y hy => ?_, .inr (List.mem_cons_self ..)⟩
      rcases List.mem_cons.1 hy with rfl | hy
      · omega
      · have := h2 y hy; omega
theorem mostI_eq {zs : List Int} {m : Int} (h0 : 0 ≤ m) (h1 : ∀ x ∈ zs, x ≤ m) (h2 : m = 0 ∨ m ∈ zs) : mostI zs = m := by
  obtain ⟨a, b, c⟩ := mostI_spec zs
  have : mostI zs ≤ m := by
    rcases c with c | c
    · omega
    · exact h1 _ c
  have : m ≤ mostI zs := by
    rcases h2 with h2 | h2
    · omega
    · exact b _ h2
  omega

/-- l numbers the clusters of the nodes -/
structure Clus (N : NetD) (l : List Int) : Prop where
  len : l.length = N.ends.length
  low : ∀ x ∈ l, 0 ≤ x ∧ x < N.ends.length
  full : ∀ k : Nat, (k : Int) ≤ mostI l → (k : Int) ∈ l
  one : ∀ v w, v < N.ends.length → w < N.ends.length → nth l v = nth l w → comp N v = comp N w
def clusB (N : NetD) (l : List Int) : Bool := decide (l.length = N.ends.length) && (l.all (fun x => decide (0 ≤ x ∧ x < N.ends.length)) && ((List.range ((mostI l).toNat + 1)).all (fun (k : Nat) => decide ((k : Int) ∈ l)) &&
  (List.range N.ends.length).all (fun v => (List.range N.ends.length).all fun w => !decide (nth l v = nth l w) || decide (comp N v = comp N w))))
theorem clusB_iff (N : NetD) (l : List Int) : clusB N l = true ↔ Clus N l := by
  unfold clusB
  simp only [Bool.and_eq_true, decide_eq_true_eq, List.all_eq_true, List.mem_range, Bool.or_eq_true, Bool.not_eq_true', decide_eq_false_iff_not]
  have h0 := (mostI_spec l).1
  constructor
  · rintro ⟨a, b, c, d⟩
    exact ⟨a, b, fun k hk => c k (by omega), fun v w hv hw e => (d v hv w hw).resolve_left fun h => h e⟩
  · rintro ⟨a, b, c, d⟩
    refine ⟨a, b, fun k hk => c k (by omega), fun v hv w hw => ?_⟩
    by_cases e : nth l v = nth l w
    · exact .inr (d v w hv hw e)
    · exact .inl e
theorem clusB_yes {N : NetD} {l : List Int} (h : Clus N l) : clusB N l = true := (clusB_iff N l).2 h
theorem clusB_is {N : NetD} {l : List Int} (h : clusB N l = true) : Clus N l := (clusB_iff N l).1 h
theorem clusB_no {N : NetD} {l : List Int} (h : ¬ Clus N l) : clusB N l = false := by rw [Bool.eq_false_iff]; intro e; exact h (clusB_is e)
theorem clusB_not {N : NetD} {l : List Int} (h : clusB N l = false) : ¬ Clus N l := fun k => by rw [clusB_yes k] at h; cases h
theorem Clus.nat {N : NetD} {l : List Int} (h : Clus N l) {v : Nat} (hv : v < N.ends.length) : ∃ t : Nat, nth l v = t ∧ t < N.ends.length := by
  have := h.low _ (nth_mem (by rw [h.len]; exact hv))
  exact ⟨(nth l v).toNat, by omega, by omega⟩
theorem Clus.most {N : NetD} {l : List Int} (hg : N.good = true) (h : Clus N l) : ∃ m : Nat, mostI l = m ∧ m < N.ends.length := by
  obtain ⟨a, b, c⟩ := mostI_spec l
  obtain ⟨n1, _⟩ := good_n hg
  refine ⟨(mostI l).toNat, by omega, ?_⟩
  rcases c with c | c
  · omega
  · have := h.low _ c; omega

end Go.Proofs.Ytcmmklcampmkjaa
