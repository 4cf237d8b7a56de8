/-
  Plain: classes of nodes by keys, numbered as they first occur; the refining of classes, and that it ends. No condition on any program.
-/
import Derived.Test.YtjgmmmcmoaaiaaaSS
namespace Go.Proofs.Ytjgmmmcmoaaiaaa
set_option linter.unusedVariables false

section
variable {α : Type} [DecidableEq α]
/-- is there an earlier node with the same key -/
def old (key : Nat → α) (v : Nat) : Bool := (List.range v).any fun u => decide (key u = key v)
theorem old_iff {key : Nat → α} {v : Nat} : old key v = true ↔ ∃ u, u < v ∧ key u = key v := by
  unfold old
  rw [List.any_eq_true]
  constructor
  · rintro ⟨u, h1, h2⟩; exact ⟨u, List.mem_range.1 h1, of_decide_eq_true h2⟩
  · rintro ⟨u, h1, h2⟩; exact ⟨u, List.mem_range.2 h1, decide_eq_true h2⟩
theorem old_false {key : Nat → α} {v : Nat} : old key v = false ↔ ∀ u, u < v → key u ≠ key v := by
  constructor
  · intro h u hu e
    have := old_iff.2 ⟨u, hu, e⟩
    rw [h] at this; cases this
  · intro h
    rw [Bool.eq_false_iff]
    intro e
    obtain ⟨u, h1, h2⟩ := old_iff.1 e
    exact h u h1 h2
/-- how many of the first k nodes are new -/
def many (key : Nat → α) (k : Nat) : Nat := ((List.range k).filter fun v => !old key v).length
theorem many_zero (key : Nat → α) : many key 0 = 0 := rfl
theorem many_succ (key : Nat → α) (k : Nat) : many key (k + 1) = many key k + if old key k = true then 0 else 1 := by
  unfold many
  rw [List.range_succ, List.filter_append, List.length_append]
  congr 1
  cases h : old key k <;> simp [h]
theorem many_le (key : Nat → α) (k : Nat) : many key k ≤ k := Nat.le_trans (List.length_filter_le _ _) (by simp)
theorem many_mono (key : Nat → α) {a b : Nat} (h : a ≤ b) : many key a ≤ many key b := by
  induction b with
  | zero => obtain rfl : a = 0 := by omega
            exact Nat.le_refl _
  | succ b ih =>
    by_cases e : a = b + 1
    · subst e; exact Nat.le_refl _
    · have := ih (by omega)
      rw [many_succ]; omega
/-- the first node with the key of v -/
def fst1 (key : Nat → α) (v : Nat) : Nat := ((List.range (v + 1)).find? fun u => decide (key u = key v)).getD v
theorem fst1_spec (key : Nat → α) (v : Nat) : fst1 key v ≤ v ∧ key (fst1 key v) = key v ∧ ∀ u, u < fst1 key v → key u ≠ key v := by
  unfold fst1
  cases h : (List.range (v + 1)).find? fun u => decide (key u = key v) with
  | none =>
    exfalso
    have := List.find?_eq_none.1 h v (List.mem_range.2 (by omega))
    simp at this
  | some u =>
    simp only [Option.getD_some]
    have h1 := List.find?_some h
    have h2 := List.mem_of_find?_eq_some h
    refine ⟨by have := List.mem_range.1 h2; omega, of_decide_eq_true h1, fun x hx e => ?_⟩
    rw [List.find?_eq_some_iff_append] at h
    obtain ⟨_, as, bs, hab, hall⟩ := h
    have hlen : as.length = u := by
      have hu : (List.range (v + 1))[as.length]? = some u := by rw [hab]; simp
      rw [List.getElem?_range] at hu
      · injection hu
      · have : as.length < (List.range (v + 1)).length := by rw [hab]; simp
        simpa using this
    have hxm : x ∈ as := by
      have hx2 : (List.range (v + 1))[x]? = some x := List.getElem?_range (by have := List.mem_range.1 h2; omega)
      rw [hab, List.getElem?_append_left (by omega)] at hx2
      exact List.mem_of_getElem? hx2
    have := hall x hxm
    simp [e] at this
theorem fst1_eq {key : Nat → α} {a b : Nat} (h : key a = key b) : fst1 key a = fst1 key b := by
  obtain ⟨a1, a2, a3⟩ := fst1_spec key a
  obtain ⟨b1, b2, b3⟩ := fst1_spec key b
  rcases Nat.lt_trichotomy (fst1 key a) (fst1 key b) with h1 | h1 | h1
  · exact absurd (a2.trans h) (b3 _ h1)
  · exact h1
  · exact absurd (b2.trans h.symm) (a3 _ h1)
theorem fst1_new {key : Nat → α} {v : Nat} (h : old key v = false) : fst1 key v = v := by
  obtain ⟨a1, a2, a3⟩ := fst1_spec key v
  by_cases e : fst1 key v = v
  · exact e
  · exact absurd a2 (old_false.1 h _ (by omega))
theorem fst1_isnew (key : Nat → α) (v : Nat) : old key (fst1 key v) = false := by
  obtain ⟨a1, a2, a3⟩ := fst1_spec key v
  exact old_false.2 fun u hu e => a3 u hu (e.trans a2)
/-- the class of a node -/
def cls (key : Nat → α) (v : Nat) : Nat := many key (fst1 key v)
theorem cls_new {key : Nat → α} {v : Nat} (h : old key v = false) : cls key v = many key v := by unfold cls; rw [fst1_new h]
theorem cls_same {key : Nat → α} {a b : Nat} (h : key a = key b) : cls key a = cls key b := by unfold cls; rw [fst1_eq h]
theorem many_inj {key : Nat → α} {a b : Nat} (ha : old key a = false) (hb : old key b = false) (h : many key a = many key b) : a = b := by
  rcases Nat.lt_trichotomy a b with h1 | h1 | h1
  · have h2 := many_mono key (show a + 1 ≤ b by omega)
    rw [many_succ, if_neg (by rw [ha]; simp)] at h2
    omega
  · exact h1
  · have h2 := many_mono key (show b + 1 ≤ a by omega)
    rw [many_succ, if_neg (by rw [hb]; simp)] at h2
    omega
theorem cls_inj {key : Nat → α} {a b : Nat} (h : cls key a = cls key b) : key a = key b := by
  unfold cls at h
  have := many_inj (fst1_isnew key a) (fst1_isnew key b) h
  rw [← (fst1_spec key a).2.1, ← (fst1_spec key b).2.1, this]
theorem cls_lt {key : Nat → α} {v k : Nat} (h : v < k) : cls key v < many key k := by
  obtain ⟨a1, _, _⟩ := fst1_spec key v
  have h1 := many_mono key (show fst1 key v + 1 ≤ k by omega)
  rw [many_succ, if_neg (by rw [fst1_isnew]; simp)] at h1
  unfold cls; omega
/-- the classes of the first k nodes -/
def clsL (key : Nat → α) (k : Nat) : List Int := (List.range k).map fun v => (cls key v : Int)
theorem clsL_length (key : Nat → α) (k : Nat) : (clsL key k).length = k := by simp [clsL]
theorem nth_clsL {key : Nat → α} {k v : Nat} (h : v < k) : nth (clsL key k) v = cls key v := by rw [nth_eq (by rw [clsL_length]; exact h)]; simp [clsL]
end
/-- one more than the greatest, of numbers that are not negative -/
def cnt1 (l : List Int) : Int := l.foldl (fun a x => max a (x + 1)) 0
theorem foldl_max_le {l : List Int} {a b : Int} (ha : a ≤ b) (h : ∀ x ∈ l, x + 1 ≤ b) : l.foldl (fun a x => max a (x + 1)) a ≤ b := by
  induction l generalizing a with
  | nil => exact ha
  | cons y l ih => exact ih (by have := h y (by simp); show max a (y + 1) ≤ b; omega) (fun x hx => h x (by simp [hx]))
theorem foldl_max_ge {l : List Int} {a : Int} : a ≤ l.foldl (fun a x => max a (x + 1)) a ∧ ∀ x ∈ l, x + 1 ≤ l.foldl (fun a x => max a (x + 1)) a := by
  induction l generalizing a with
  | nil => exact ⟨Int.le_refl _, fun x hx => by cases hx⟩
  | cons y l ih =>
    obtain ⟨h1, h2⟩ := ih (a := max a (y + 1))
    refine ⟨by simp only [List.foldl_cons]; omega, fun x hx => ?_⟩
    simp only [List.foldl_cons]
    rcases List.mem_cons.1 hx with rfl | hx
    · omega
    · exact h2 x hx
theorem cnt1_cls {α : Type} [DecidableEq α] (key : Nat → α) (k : Nat) : cnt1 (clsL key k) = many key k := by
  have h0 : cnt1 (clsL key k) ≤ many key k := foldl_max_le (by omega) (fun x hx => by
    unfold clsL at hx
    obtain ⟨v, hv, rfl⟩ := List.mem_map.1 hx
    have := cls_lt (key := key) (List.mem_range.1 hv)
    omega)
  rcases Nat.eq_zero_or_pos (many key k) with h | h
  · have := (foldl_max_ge (l := clsL key k) (a := 0)).1
    unfold cnt1 at h0 ⊢
    omega
  · -- the last new node
    have : ∃ v, v < k ∧ old key v = false ∧ many key v + 1 = many key k := by
      clear h0
      induction k with
      | zero => rw [many_zero] at h; omega
      | succ k ih =>
        by_cases e : old key k = true
        · rw [many_succ, if_pos e] at h ⊢
          obtain ⟨v, h1, h2, h3⟩ := ih (by omega)
          exact ⟨v, by omega, h2, by omega⟩
        · have e' : old key k = false := by simpa using e
          exact ⟨k, by omega, e', by rw [many_succ, if_neg e]⟩
    obtain ⟨v, h1, h2, h3⟩ := this
    have h4 := (foldl_max_ge (l := clsL key k) (a := 0)).2 (cls key v : Int) (by unfold clsL; exact List.mem_map.2 ⟨v, List.mem_range.2 h1, rfl⟩)
    rw [cls_new h2] at h4
    unfold cnt1 at h0 ⊢
    omega

/-- a node's key: its degree, its input, and for each port the port at the other side and the class there -/
def vkey (N : NetD) (c : List Int) (v : Nat) : List Int :=
  (List.range 14).map fun j => if j = 0 then ((nthL N.ends v).length : Int) else if j = 1 then nth N.inputs v
    else if (j - 2) / 2 < (nthL N.ends v).length ∧ 0 < c.length then (if j % 2 = 0 then (nthE (nthL N.ends v) ((j - 2) / 2)).2 else nth c (nthE (nthL N.ends v) ((j - 2) / 2)).1.toNat) else 0
theorem vkey_length (N : NetD) (c : List Int) (v : Nat) : (vkey N c v).length = 14 := by simp [vkey]
theorem nth_vkey {N : NetD} {c : List Int} {v j : Nat} (h : j < 14) : nth (vkey N c v) j = if j = 0 then ((nthL N.ends v).length : Int) else if j = 1 then nth N.inputs v
    else if (j - 2) / 2 < (nthL N.ends v).length ∧ 0 < c.length then (if j % 2 = 0 then (nthE (nthL N.ends v) ((j - 2) / 2)).2 else nth c (nthE (nthL N.ends v) ((j - 2) / 2)).1.toNat) else 0 := by
  rw [nth_eq (by rw [vkey_length]; exact h)]; simp [vkey]
theorem vkey_port {N : NetD} {c : List Int} {v i : Nat} (h6 : i < 6) (hi : i < (nthL N.ends v).length) (hc : 0 < c.length) : nth (vkey N c v) (2 + 2 * i) = (nthE (nthL N.ends v) i).2 := by
  rw [nth_vkey (by omega), if_neg (by omega), if_neg (by omega), show (2 + 2 * i - 2) / 2 = i by omega, if_pos ⟨hi, hc⟩, if_pos (by omega)]
theorem vkey_cls {N : NetD} {c : List Int} {v i : Nat} (h6 : i < 6) (hi : i < (nthL N.ends v).length) (hc : 0 < c.length) : nth (vkey N c v) (3 + 2 * i) = nth c (nthE (nthL N.ends v) i).1.toNat := by
  rw [nth_vkey (by omega), if_neg (by omega), if_neg (by omega), show (3 + 2 * i - 2) / 2 = i by omega, if_pos ⟨hi, hc⟩, if_neg (by omega)]
/-- the reference's test -/
def alike (N : NetD) (c : List Int) (u v : Nat) : Prop :=
  (nthL N.ends u).length = (nthL N.ends v).length ∧ nth N.inputs u = nth N.inputs v ∧ (0 < c.length → ∀ i, i < (nthL N.ends u).length → (nthE (nthL N.ends u) i).2 = (nthE (nthL N.ends v) i).2 ∧ nth c (nthE (nthL N.ends u) i).1.toNat = nth c (nthE (nthL N.ends v) i).1.toNat)
theorem vkey_iff {N : NetD} {c : List Int} {u v : Nat} (h6 : (nthL N.ends u).length ≤ 6) : vkey N c u = vkey N c v ↔ alike N c u v := by
  constructor
  · intro h
    have hj : ∀ j, j < 14 → nth (vkey N c u) j = nth (vkey N c v) j := fun j _ => by rw [h]
    have h0 := hj 0 (by omega)
    rw [nth_vkey (by omega), nth_vkey (by omega), if_pos rfl, if_pos rfl] at h0
    have h0' : (nthL N.ends u).length = (nthL N.ends v).length := by omega
    have h1 := hj 1 (by omega)
    rw [nth_vkey (by omega), nth_vkey (by omega), if_neg (by omega), if_pos rfl, if_neg (by omega), if_pos rfl] at h1
    refine ⟨h0', h1, fun hc i hi => ?_⟩
    have h2 := hj (2 + 2 * i) (by omega)
    have h3 := hj (3 + 2 * i) (by omega)
    rw [vkey_port (by omega) hi hc, vkey_port (by omega) (by omega) hc] at h2
    rw [vkey_cls (by omega) hi hc, vkey_cls (by omega) (by omega) hc] at h3
    exact ⟨h2, h3⟩
  · rintro ⟨h0, h1, h2⟩
    refine ext_nth (by rw [vkey_length, vkey_length]) fun j hj => ?_
    rw [vkey_length] at hj
    rw [nth_vkey hj, nth_vkey hj]
    by_cases e0 : j = 0
    · rw [if_pos e0, if_pos e0, h0]
    · rw [if_neg e0, if_neg e0]
      by_cases e1 : j = 1
      · rw [if_pos e1, if_pos e1, h1]
      · rw [if_neg e1, if_neg e1, h0]
        by_cases e2 : (j - 2) / 2 < (nthL N.ends v).length ∧ 0 < c.length
        · rw [if_pos e2, if_pos e2]
          obtain ⟨a1, a2⟩ := h2 e2.2 ((j - 2) / 2) (by omega)
          rw [a1, a2]
        · rw [if_neg e2, if_neg e2]
/-- the classes one step deeper -/
def vstep (N : NetD) (c : List Int) : List Int := clsL (vkey N c) N.ends.length
def vat (N : NetD) : Nat → List Int
  | 0 => vstep N []
  | t + 1 => vstep N (vat N t)
theorem vstep_length (N : NetD) (c : List Int) : (vstep N c).length = N.ends.length := clsL_length _ _
theorem vat_length (N : NetD) : ∀ t, (vat N t).length = N.ends.length
  | 0 => vstep_length _ _
  | t + 1 => vstep_length _ _
theorem vstep_cnt (N : NetD) (c : List Int) : cnt1 (vstep N c) = many (vkey N c) N.ends.length := cnt1_cls _ _
theorem vstep_mem {N : NetD} {c : List Int} : ∀ x ∈ vstep N c, 0 ≤ x ∧ x ≤ N.ends.length := fun x hx => by
  unfold vstep clsL at hx
  obtain ⟨v, hv, rfl⟩ := List.mem_map.1 hx
  have := cls_lt (key := vkey N c) (List.mem_range.1 hv)
  have := many_le (vkey N c) N.ends.length
  omega
theorem many_refine {α β : Type} [DecidableEq α] [DecidableEq β] {key : Nat → α} {key2 : Nat → β} {n : Nat} (h : ∀ u v, u < n → v < n → key2 u = key2 v → key u = key v) : ∀ k, k ≤ n → many key k ≤ many key2 k
  | 0, _ => Nat.le_refl _
  | k + 1, hk => by
    have ih := many_refine h k (by omega)
    rw [many_succ, many_succ]
    by_cases e : old key k = true
    · rw [if_pos e]; omega
    · have e' : old key k = false := by simpa using e
      have e2 : ¬ old key2 k = true := fun h2 => by
        obtain ⟨u, hu, hk2⟩ := old_iff.1 h2
        exact old_false.1 e' u hu (h u k (by omega) (by omega) hk2)
      rw [if_neg e, if_neg e2]; omega
/-- what a step keeps: nodes of one class were of one class before -/
theorem refine_step {N : NetD} (hn : ∀ v i, v < N.ends.length → i < (nthL N.ends v).length → (nthE (nthL N.ends v) i).1.toNat < N.ends.length) (h6 : ∀ v, (nthL N.ends v).length ≤ 6) {c c2 : List Int} (hc2 : 0 < c2.length)
    (h : ∀ a b, a < N.ends.length → b < N.ends.length → nth c2 a = nth c2 b → 0 < c.length → nth c a = nth c b) {u v : Nat} (hu : u < N.ends.length) (hv : v < N.ends.length) (e : vkey N c2 u = vkey N c2 v) : vkey N c u = vkey N c v := by
  rw [vkey_iff (h6 u)] at e ⊢
  obtain ⟨e1, e2, e3⟩ := e
  refine ⟨e1, e2, fun hc i hi => ?_⟩
  obtain ⟨f1, f2⟩ := e3 hc2 i hi
  exact ⟨f1, h _ _ (hn u i hu hi) (hn v i hv (by omega)) f2 hc⟩
theorem vat_refine {N : NetD} (h1 : 0 < N.ends.length) (hn : ∀ v i, v < N.ends.length → i < (nthL N.ends v).length → (nthE (nthL N.ends v) i).1.toNat < N.ends.length) (h6 : ∀ v, (nthL N.ends v).length ≤ 6) : ∀ t u v, u < N.ends.length → v < N.ends.length → vkey N (vat N t) u = vkey N (vat N t) v →
      (match t with | 0 => vkey N [] u = vkey N [] v | t + 1 => vkey N (vat N t) u = vkey N (vat N t) v)
  | 0, u, v, hu, hv, e => refine_step hn h6 (by rw [vat_length]; exact h1) (fun _ _ _ _ _ h => absurd h (by simp)) hu hv e
  | t + 1, u, v, hu, hv, e => refine_step hn h6 (by rw [vat_length]; exact h1) (fun a b ha hb hab _ => by
      have hk : vkey N (vat N t) a = vkey N (vat N t) b := by
        rw [vat] at hab
        unfold vstep at hab
        rw [nth_clsL ha, nth_clsL hb] at hab
        exact cls_inj (by omega)
      have := vat_refine h1 hn h6 t a b ha hb hk
      cases t with
      | zero => rw [vat]; unfold vstep; rw [nth_clsL ha, nth_clsL hb, cls_same this]
      | succ t => rw [vat]; unfold vstep; rw [nth_clsL ha, nth_clsL hb, cls_same this]) hu hv e
theorem vat_mono {N : NetD} (h1 : 0 < N.ends.length) (hn : ∀ v i, v < N.ends.length → i < (nthL N.ends v).length → (nthE (nthL N.ends v) i).1.toNat < N.ends.length) (h6 : ∀ v, (nthL N.ends v).length ≤ 6) (t : Nat) : cnt1 (vat N t) ≤ cnt1 (vat N (t + 1)) ∧ cnt1 (vat N (t + 1)) ≤ N.ends.length := by
  have e2 : cnt1 (vat N (t + 1)) = many (vkey N (vat N t)) N.ends.length := by rw [vat, vstep_cnt]
  refine ⟨?_, by rw [e2]; have := many_le (vkey N (vat N t)) N.ends.length; omega⟩
  rw [e2]
  cases t with
  | zero =>
    rw [show vat N 0 = vstep N [] from rfl, vstep_cnt]
    have := many_refine (key := vkey N []) (key2 := vkey N (vat N 0)) (fun u v hu hv e => vat_refine h1 hn h6 0 u v hu hv e) _ (Nat.le_refl N.ends.length)
    rw [show vat N 0 = vstep N [] from rfl] at this
    omega
  | succ t =>
    rw [show vat N (t + 1) = vstep N (vat N t) from rfl, vstep_cnt]
    have := many_refine (key := vkey N (vat N t)) (key2 := vkey N (vat N (t + 1))) (fun u v hu hv e => vat_refine h1 hn h6 (t + 1) u v hu hv e) _ (Nat.le_refl N.ends.length)
    rw [show vat N (t + 1) = vstep N (vat N t) from rfl] at this
    omega
/-- the step at which the refining ends -/
def EndsAt (N : NetD) (t : Nat) : Prop := cnt1 (vat N (t + 1)) = cnt1 (vat N t) ∧ ∀ s, s < t → cnt1 (vat N (s + 1)) ≠ cnt1 (vat N s)
theorem EndsAt.uniq {N : NetD} {a b : Nat} (ha : EndsAt N a) (hb : EndsAt N b) : a = b := by
  rcases Nat.lt_trichotomy a b with h | h | h
  · exact absurd ha.1 (hb.2 a h)
  · exact h
  · exact absurd hb.1 (ha.2 b h)

end Go.Proofs.Ytjgmmmcmoaaiaaa
