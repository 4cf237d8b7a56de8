/-
  Plain: the greedy dominating set; no condition on any program.
-/
import Derived.Test.YtlignkgfclenkaaComp
import Derived.Test.YtlignkgfclenkaaDefP
import Derived.Test.YtlignkgfclenkaaPut
import Derived.Test.YtlignkgfclenkaaBoolS
import Derived.Lib.SlicesCompact
namespace Go.Proofs.Ytlignkgfclenkaa
set_option linter.unusedVariables false

/-- strictly rising lists with the same members are one -/
theorem rise_ext {a b : List Int} (ha : a.Pairwise (· < ·)) (hb : b.Pairwise (· < ·)) (h : ∀ x, x ∈ a ↔ x ∈ b) : a = b := by
  have na : a.Nodup := ha.imp fun h => by omega
  have nb : b.Nodup := hb.imp fun h => by omega
  refine List.Perm.eq_of_pairwise (le := (· < ·)) (fun x y _ _ h1 h2 => by omega) ha hb ?_
  exact (List.perm_ext_iff_of_nodup na nb).2 h

/-- what compacting a sorted list leaves -/
theorem compact_up (zs : List Int) (hs : zs.Pairwise (· ≤ ·)) : ∀ m, m ≤ zs.length →
    (Lib.compactUpTo zs.toArray m).Pairwise (· < ·) ∧ (∀ x, x ∈ Lib.compactUpTo zs.toArray m ↔ ∃ j, j < m ∧ nth zs j = x) := by
  intro m
  induction m with
  | zero => intro _; exact ⟨by simp [Lib.compactUpTo], fun x => by simp [Lib.compactUpTo]⟩
  | succ m ih =>
    intro hm
    obtain ⟨h1, h2⟩ := ih (by omega)
    have hle : ∀ i j, i < j → j < zs.length → nth zs i ≤ nth zs j := fun i j hij hj => by
      rw [nth_eq (by omega), nth_eq hj]
      exact (List.pairwise_iff_getElem.1 hs) i j (by omega) hj hij
    have hg : ∀ j, j < zs.length → zs.toArray[j]! = nth zs j := fun j hj => by
      rw [nth_eq hj, getElem!_pos zs.toArray j (by simpa using hj)]; simp
    rw [Lib.compactUpTo_succ]
    by_cases hk : Lib.keeps zs.toArray m = true
    · rw [if_pos hk, hg m (by omega)]
      have hlt : ∀ j, j < m → nth zs j < nth zs m := fun j hj => by
        unfold Lib.keeps at hk
        rw [decide_eq_true_eq, hg m (by omega), hg (m - 1) (by omega)] at hk
        have hne : nth zs m ≠ nth zs (m - 1) := hk.resolve_left (by omega)
        have l1 := hle (m - 1) m (by omega) (by omega)
        by_cases e : j = m - 1
        · subst e; omega
        · have := hle j (m - 1) (by omega) (by omega); omega
      refine ⟨?_, fun x => ?_⟩
      · rw [List.pairwise_append]
        refine ⟨h1, by simp, fun a ha b hb => ?_⟩
        simp at hb; subst hb
        obtain ⟨j, hj, rfl⟩ := (h2 a).1 ha
        exact hlt j hj
      · rw [List.mem_append, List.mem_singleton, h2]
        constructor
        · rintro (⟨j, hj, e⟩ | e)
          · exact ⟨j, by omega, e⟩
          · exact ⟨m, by omega, e.symm⟩
        · rintro ⟨j, hj, e⟩
          by_cases e2 : j = m
          · subst e2; exact .inr e.symm
          · exact .inl ⟨j, by omega, e⟩
    · rw [if_neg hk, List.append_nil]
      refine ⟨h1, fun x => ?_⟩
      rw [h2]
      constructor
      · rintro ⟨j, hj, e⟩; exact ⟨j, by omega, e⟩
      · rintro ⟨j, hj, e⟩
        by_cases e2 : j = m
        · subst e2
          have hk' : Lib.keeps zs.toArray j = false := by simpa using hk
          unfold Lib.keeps at hk'
          rw [decide_eq_false_iff_not, hg j (by omega), hg (j - 1) (by omega)] at hk'
          have h0 : ¬ j = 0 := fun h => hk' (.inl h)
          have hq : nth zs j = nth zs (j - 1) := by
            by_cases hq : nth zs j = nth zs (j - 1)
            · exact hq
            · exact absurd (.inr hq) hk'
          exact ⟨j - 1, by omega, by omega⟩
        · exact ⟨j, by omega, e⟩
theorem compact_rise {zs : List Int} (hs : zs.Pairwise (· ≤ ·)) : (Lib.compact zs).Pairwise (· < ·) := (compact_up zs hs _ (Nat.le_refl _)).1
theorem mem_nth {zs : List Int} {x : Int} : x ∈ zs ↔ ∃ j, j < zs.length ∧ nth zs j = x := by
  constructor
  · intro h
    obtain ⟨j, hj, e⟩ := List.mem_iff_getElem.1 h
    exact ⟨j, hj, by rw [nth_eq hj, e]⟩
  · rintro ⟨j, hj, rfl⟩; exact nth_mem hj
theorem compact_mem {zs : List Int} (hs : zs.Pairwise (· ≤ ·)) {x : Int} : x ∈ Lib.compact zs ↔ x ∈ zs := by
  rw [mem_nth (zs := zs)]; exact (compact_up zs hs _ (Nat.le_refl _)).2 x
theorem compactUpTo_len (d : Array Int) (m : Nat) : (Lib.compactUpTo d m).length ≤ m := by
  unfold Lib.compactUpTo; rw [List.length_map]; exact Nat.le_trans (List.length_filter_le _ _) (by simp)
theorem compact_len (zs : List Int) : (Lib.compact zs).length ≤ zs.length := compactUpTo_len _ _

/-- a node and its neighbours, each once, as the program makes them -/
def around (N : NetD) (v : Nat) : List Int := Lib.compact (sortI (nears N v (upTo N.ends.length) ++ [(v : Int)]))
theorem mem_ball {N : NetD} {v : Nat} {r : Int} {x : Int} : x ∈ ball N v r ↔ ∃ t : Nat, t < N.ends.length ∧ inB (nth (dist N v) t) 0 r = true ∧ x = t := by
  unfold ball ballL
  rw [List.mem_map]
  constructor
  · rintro ⟨t, ht, e⟩
    rw [List.mem_filter, List.mem_range] at ht
    exact ⟨t, ht.1, ht.2, e.symm⟩
  · rintro ⟨t, h1, h2, e⟩
    exact ⟨t, by rw [List.mem_filter, List.mem_range]; exact ⟨h1, h2⟩, e.symm⟩
theorem ball_rise (N : NetD) (v : Nat) (r : Int) : (ball N v r).Pairwise (· < ·) := by
  unfold ball ballL
  rw [List.pairwise_map]
  refine List.Pairwise.filter _ ?_
  exact List.pairwise_lt_range.imp fun h => by omega
theorem ball_one {N : NetD} (hg : N.good = true) {v : Nat} (hv : v < N.ends.length) {t : Nat} (ht : t < N.ends.length) :
    inB (nth (dist N v) t) 0 1 = true ↔ t = v ∨ Adj N v t := by
  constructor
  · intro h
    obtain ⟨h0, h1⟩ := inB_le h
    have hw := dist_way (good_nodes hg) hv ht h0
    by_cases e : nth (dist N v) t = 0
    · rw [e] at hw; exact .inl (show v = t from hw).symm
    · have e1 : nth (dist N v) t = 1 := by omega
      rw [e1] at hw
      obtain ⟨s, hs, ha⟩ := (show ∃ s, way N 0 v s ∧ Adj N s t from hw)
      rw [← (show v = s from hs)] at ha
      exact .inr ha
  · rintro (rfl | h)
    · rw [dist_self (good_nodes hg) hv]; rfl
    · have := dist_le (good_nodes hg) hv (k := 1) (t := t) ⟨v, rfl, h⟩
      exact inB_true this.1 this.2
theorem around_eq {N : NetD} (hg : N.good = true) {v : Nat} (hv : v < N.ends.length) : around N v = ball N v 1 := by
  refine rise_ext (compact_rise (sortI_sorted _)) (ball_rise N v 1) fun x => ?_
  unfold around
  rw [compact_mem (sortI_sorted _), (sortI_perm _).mem_iff, List.mem_append, List.mem_singleton, mem_ball]
  constructor
  · rintro (h | rfl)
    · obtain ⟨i, hi, e⟩ := mem_nth.1 h
      rw [nears_length] at hi
      rw [nth_nears _ hi] at e
      obtain ⟨t, et, ht⟩ := good_nodes hg v hv i hi
      rw [et, Int.toNat_natCast, nth_upTo ht] at e
      exact ⟨t, ht, (ball_one hg hv ht).2 (.inr ⟨hv, ht, i, hi, et⟩), e.symm⟩
    · exact ⟨v, hv, (ball_one hg hv hv).2 (.inl rfl), rfl⟩
  · rintro ⟨t, ht, hb, rfl⟩
    rcases (ball_one hg hv ht).1 hb with rfl | ⟨_, _, i, hi, et⟩
    · exact .inr rfl
    · refine .inl (mem_nth.2 ⟨i, by rw [nears_length]; exact hi, ?_⟩)
      rw [nth_nears _ hi, et, Int.toNat_natCast, nth_upTo ht]
theorem ball_node {N : NetD} {v : Nat} {r : Int} {i : Nat} (h : i < (ball N v r).length) : ∃ t : Nat, nth (ball N v r) i = t ∧ t < N.ends.length := by
  obtain ⟨t, h1, _, h3⟩ := mem_ball.1 (nth_mem h)
  exact ⟨t, h3, h1⟩
theorem ball_len (N : NetD) (v : Nat) (r : Int) : (ball N v r).length ≤ N.ends.length := ballL_len _ _ _
theorem ball_self {N : NetD} (hg : N.good = true) {v : Nat} (hv : v < N.ends.length) : (v : Int) ∈ ball N v 1 := mem_ball.2 ⟨v, hv, (ball_one hg hv hv).2 (.inl rfl), rfl⟩

/-- how many of the first m nodes of a list are not covered -/
def bare (cov : List Bool) (l : List Int) : Nat → Nat
  | 0 => 0
  | m + 1 => bare cov l m + if nthB cov (nth l m).toNat = true then 0 else 1
theorem bare_le (cov : List Bool) (l : List Int) : ∀ m, bare cov l m ≤ m
  | 0 => Nat.le_refl _
  | m + 1 => by have := bare_le cov l m; rw [bare]; split <;> omega
def gain (N : NetD) (cov : List Bool) (v : Nat) : Nat := bare cov (ball N v 1) (ball N v 1).length
theorem gain_le (N : NetD) (cov : List Bool) (v : Nat) : gain N cov v ≤ N.ends.length := Nat.le_trans (bare_le _ _ _) (ball_len N v 1)
theorem bare_pos {cov : List Bool} {l : List Int} : ∀ {m : Nat}, 0 < bare cov l m ↔ ∃ i, i < m ∧ nthB cov (nth l i).toNat = false := by
  intro m
  induction m with
  | zero => simp [bare]
  | succ m ih =>
    rw [bare]
    constructor
    · intro h
      by_cases hc : nthB cov (nth l m).toNat = true
      · rw [if_pos hc] at h
        obtain ⟨i, hi, e⟩ := ih.1 (by omega)
        exact ⟨i, by omega, e⟩
      · exact ⟨m, by omega, by simpa using hc⟩
    · rintro ⟨i, hi, e⟩
      by_cases h2 : i = m
      · subst h2; rw [if_neg (by rw [e]; simp)]; omega
      · have := ih.2 ⟨i, by omega, e⟩; omega
/-- the first node of greatest gain among the first k -/
def bestN (N : NetD) (cov : List Bool) : Nat → Nat
  | 0 => 0
  | k + 1 => if gain N cov (bestN N cov k) < gain N cov k then k else bestN N cov k
theorem bestN_lt (N : NetD) (cov : List Bool) : ∀ k, bestN N cov k ≤ k - 1
  | 0 => Nat.le_refl _
  | k + 1 => by have := bestN_lt N cov k; rw [bestN]; split <;> omega
theorem bestN_max (N : NetD) (cov : List Bool) : ∀ k j, j < k → gain N cov j ≤ gain N cov (bestN N cov k)
  | 0, j, h => by omega
  | k + 1, j, h => by
    rw [bestN]
    by_cases e : j = k
    · subst e; split <;> omega
    · have := bestN_max N cov k j (by omega); split <;> omega
/-- the program's greatest gain so far -/
def mostN (N : NetD) (cov : List Bool) (k : Nat) : Nat := if k = 0 then 0 else gain N cov (bestN N cov k)
theorem most_yes {N : NetD} {cov : List Bool} {k : Nat} (h : mostN N cov k < gain N cov k) : bestN N cov (k + 1) = k ∧ mostN N cov (k + 1) = gain N cov k := by
  unfold mostN at *
  rw [if_neg (by omega), bestN]
  by_cases hk : k = 0
  · subst hk
    split <;> simp_all [bestN]
  · rw [if_neg hk] at h
    rw [if_pos h]; exact ⟨rfl, rfl⟩
theorem most_no {N : NetD} {cov : List Bool} {k : Nat} (h : ¬ mostN N cov k < gain N cov k) : bestN N cov (k + 1) = bestN N cov k ∧ mostN N cov (k + 1) = mostN N cov k := by
  unfold mostN at *
  rw [if_neg (by omega), bestN]
  by_cases hk : k = 0
  · subst hk
    rw [if_pos rfl] at h
    rw [if_pos rfl, if_neg (by rw [bestN]; omega), bestN]
    exact ⟨rfl, by omega⟩
  · rw [if_neg hk] at h ⊢
    rw [if_neg h]; exact ⟨rfl, rfl⟩
/-- the first m nodes of a list are covered now -/
def coverL (cov : List Bool) (l : List Int) : Nat → List Bool
  | 0 => cov
  | m + 1 => (coverL cov l m).set (nth l m).toNat true
theorem coverL_len (cov : List Bool) (l : List Int) : ∀ m, (coverL cov l m).length = cov.length
  | 0 => rfl
  | m + 1 => by rw [coverL, List.length_set]; exact coverL_len cov l m
theorem coverL_at {cov : List Bool} {l : List Int} {j : Nat} : ∀ {m : Nat}, (∀ i, i < m → (nth l i).toNat < cov.length) → (nthB (coverL cov l m) j = true ↔ nthB cov j = true ∨ ∃ i, i < m ∧ (nth l i).toNat = j) := by
  intro m
  induction m with
  | zero => intro _; simp [coverL]
  | succ m ih =>
    intro h
    rw [coverL, nthB_set _ _ _ _ (by rw [coverL_len]; exact h m (by omega))]
    by_cases e : j = (nth l m).toNat
    · rw [if_pos e]; exact ⟨fun _ => .inr ⟨m, by omega, e.symm⟩, fun _ => rfl⟩
    · rw [if_neg e, ih fun i hi => h i (by omega)]
      constructor
      · rintro (h1 | ⟨i, hi, h1⟩)
        · exact .inl h1
        · exact .inr ⟨i, by omega, h1⟩
      · rintro (h1 | ⟨i, hi, h1⟩)
        · exact .inl h1
        · by_cases e2 : i = m
          · subst e2; exact absurd h1.symm e
          · exact .inr ⟨i, by omega, h1⟩
def cover (N : NetD) (cov : List Bool) (v : Nat) : List Bool := coverL cov (ball N v 1) (ball N v 1).length
theorem cover_len (N : NetD) (cov : List Bool) (v : Nat) : (cover N cov v).length = cov.length := coverL_len _ _ _
theorem cover_at {N : NetD} {cov : List Bool} (hl : cov.length = N.ends.length) {v j : Nat} (hj : j < N.ends.length) : nthB (cover N cov v) j = true ↔ nthB cov j = true ∨ (j : Int) ∈ ball N v 1 := by
  unfold cover
  rw [coverL_at fun i hi => by obtain ⟨t, e, ht⟩ := ball_node hi; rw [e]; omega, mem_nth]
  constructor
  · rintro (h | ⟨i, hi, e⟩)
    · exact .inl h
    · obtain ⟨t, e2, ht⟩ := ball_node hi
      exact .inr ⟨i, hi, by rw [e2] at e ⊢; omega⟩
  · rintro (h | ⟨i, hi, e⟩)
    · exact .inl h
    · exact .inr ⟨i, hi, by rw [e]; omega⟩
/-- how many nodes are not covered -/
def bareN (n : Nat) (cov : List Bool) : Nat := sumN (fun j => if nthB cov j = true then 0 else 1) n
theorem sumN_less {f g : Nat → Nat} {n : Nat} (h : ∀ k, k < n → f k ≤ g k) (hex : ∃ k, k < n ∧ f k < g k) : sumN f n < sumN g n := by
  induction n with
  | zero => obtain ⟨k, hk, _⟩ := hex; omega
  | succ n ih =>
    obtain ⟨k, hk, hl⟩ := hex
    rw [sumN, sumN]
    have h1 := h n (by omega)
    by_cases e : k = n
    · subst e; have := sumN_le (n := k) fun j hj => h j (by omega); omega
    · have := ih (fun j hj => h j (by omega)) ⟨k, by omega, hl⟩; omega
def best (N : NetD) (cov : List Bool) : Nat := bestN N cov N.ends.length
def domF (N : NetD) : Nat → List Bool → List Int → List Int
  | 0, _, U => U
  | f + 1, cov, U => if gain N cov (best N cov) = 0 then U else domF N f (cover N cov (best N cov)) (U ++ [(best N cov : Int)])
def dom (N : NetD) : List Int := domF N (N.ends.length + 1) (List.replicate N.ends.length false) []
structure DmTop (N : NetD) (cov : List Bool) (U : List Int) : Prop where
  len : cov.length = N.ends.length
  nodup : U.Nodup
  node : ∀ x ∈ U, ∃ t : Nat, x = t ∧ t < N.ends.length ∧ ∀ j : Nat, j < N.ends.length → (j : Int) ∈ ball N t 1 → nthB cov j = true
  count : U.length + bareN N.ends.length cov ≤ N.ends.length
  eq : dom N = domF N (N.ends.length + 1 - U.length) cov U
theorem bareN_all (n : Nat) : bareN n (List.replicate n false) ≤ n := by
  unfold bareN
  have := sumN_le (f := fun j => if nthB (List.replicate n false) j = true then 0 else 1) (g := fun _ => 1) (n := n) fun k _ => by split <;> omega
  rw [sumN_const] at this; omega
theorem DmTop.zero (N : NetD) : DmTop N (List.replicate N.ends.length false) [] :=
  ⟨by simp, List.nodup_nil, (fun x hx => by cases hx), by have := bareN_all N.ends.length; simpa using this, rfl⟩
theorem gain_zero {N : NetD} (hg : N.good = true) {cov : List Bool} (hl : cov.length = N.ends.length) : gain N cov (best N cov) = 0 ↔ ∀ j, j < N.ends.length → nthB cov j = true := by
  constructor
  · intro h j hj
    by_cases hc : nthB cov j = true
    · exact hc
    · have h1 := bestN_max N cov N.ends.length j hj
      have h2 : 0 < gain N cov j := by
        unfold gain
        obtain ⟨i, hi, e⟩ := mem_nth.1 (ball_self hg hj)
        exact bare_pos.2 ⟨i, hi, by rw [e, Int.toNat_natCast]; simpa using hc⟩
      unfold best at h; omega
  · intro h
    by_cases h0 : 0 < gain N cov (best N cov)
    · unfold gain at h0
      obtain ⟨i, hi, e⟩ := bare_pos.1 h0
      obtain ⟨t, et, ht⟩ := ball_node hi
      rw [et, Int.toNat_natCast, h t ht] at e; cases e
    · omega
theorem DmTop.le {N : NetD} {cov : List Bool} {U : List Int} (h : DmTop N cov U) : U.length ≤ N.ends.length := by have := h.count; omega
theorem DmTop.stop {N : NetD} {cov : List Bool} {U : List Int} (h : DmTop N cov U) (h0 : gain N cov (best N cov) = 0) : dom N = U := by
  have := h.le
  rw [h.eq, show N.ends.length + 1 - U.length = (N.ends.length - U.length) + 1 by omega, domF, if_pos h0]
theorem best_lt {N : NetD} (hg : N.good = true) (cov : List Bool) : best N cov < N.ends.length := by
  obtain ⟨n1, n40⟩ := good_n hg
  have := bestN_lt N cov N.ends.length; unfold best; omega
theorem DmTop.step {N : NetD} (hg : N.good = true) {cov : List Bool} {U : List Int} (h : DmTop N cov U) (h0 : gain N cov (best N cov) ≠ 0) :
    (best N cov : Int) ∉ U ∧ DmTop N (cover N cov (best N cov)) (U ++ [(best N cov : Int)]) := by
  have hb := best_lt hg cov
  have hle := h.le
  obtain ⟨i, hi, e⟩ := bare_pos.1 (show 0 < bare cov (ball N (best N cov) 1) (ball N (best N cov) 1).length from by unfold gain at h0; omega)
  obtain ⟨t, et, ht⟩ := ball_node hi
  rw [et, Int.toNat_natCast] at e
  have hmem : (t : Int) ∈ ball N (best N cov) 1 := by rw [← et]; exact nth_mem hi
  have hnot : (best N cov : Int) ∉ U := fun hx => by
    obtain ⟨s, es, hs, hc⟩ := h.node _ hx
    obtain rfl : best N cov = s := by omega
    have := hc t ht hmem
    rw [this] at e; cases e
  have hcov := fun {j} (hj : j < N.ends.length) => cover_at h.len (v := best N cov) hj
  refine ⟨hnot, by rw [cover_len]; exact h.len, ?_, fun x hx => ?_, ?_, ?_⟩
  · rw [List.nodup_append]
    exact ⟨h.nodup, by simp, fun a ha b hb => by simp at hb; subst hb; rintro rfl; exact hnot ha⟩
  · rcases List.mem_append.1 hx with hx | hx
    · obtain ⟨s, es, hs, hc⟩ := h.node _ hx
      exact ⟨s, es, hs, fun j hj hm => (hcov hj).2 (.inl (hc j hj hm))⟩
    · rw [List.mem_singleton] at hx
      exact ⟨_, hx, hb, fun j hj hm => (hcov hj).2 (.inr hm)⟩
  · have hlt : bareN N.ends.length (cover N cov (best N cov)) < bareN N.ends.length cov := by
      unfold bareN
      refine sumN_less (fun k hk => ?_) ⟨t, ht, ?_⟩
      · by_cases hc : nthB cov k = true
        · rw [if_pos ((hcov hk).2 (.inl hc)), if_pos hc]
          exact Nat.le_refl _
        · rw [if_neg hc]; split <;> omega
      · rw [if_pos ((hcov ht).2 (.inr hmem)), if_neg (by rw [e]; simp)]
        omega
    have := h.count
    rw [List.length_append, List.length_singleton]; omega
  · rw [h.eq, show N.ends.length + 1 - U.length = (N.ends.length - U.length) + 1 by omega, domF, if_neg h0]
    congr 1
    rw [List.length_append, List.length_singleton]; omega
/-- the answer -/
def domOut (N : NetD) : List Int := if N.good = true then sortI (dom N) else []

end Go.Proofs.Ytlignkgfclenkaa
