/-
  Plain: colours that are changed one node at a time; the ports with an equal colour grow fewer.
-/
import Derived.Test.YtlignkgfclenkaaBasics
namespace Go.Proofs.Ytlignkgfclenkaa
set_option linter.unusedVariables false

theorem ite_is {c : Prop} [Decidable c] {x y : Prop} (h : c) (k : x) : if c then x else y := by rw [if_pos h]; exact k
def sumN (f : Nat → Nat) : Nat → Nat
  | 0 => 0
  | n + 1 => sumN f n + f n
theorem sumN_congr {f g : Nat → Nat} : ∀ {n : Nat}, (∀ k, k < n → f k = g k) → sumN f n = sumN g n
  | 0, _ => rfl
  | n + 1, h => by rw [sumN, sumN, sumN_congr (fun k hk => h k (by omega)), h n (by omega)]
theorem sumN_le {f g : Nat → Nat} : ∀ {n : Nat}, (∀ k, k < n → f k ≤ g k) → sumN f n ≤ sumN g n
  | 0, _ => Nat.le_refl _
  | n + 1, h => by rw [sumN, sumN]; exact Nat.add_le_add (sumN_le (fun k hk => h k (by omega))) (h n (by omega))
theorem sumN_add (f g : Nat → Nat) : ∀ n, sumN (fun k => f k + g k) n = sumN f n + sumN g n
  | 0 => rfl
  | n + 1 => by rw [sumN, sumN, sumN, sumN_add f g n]; omega
theorem sumN_zero : ∀ n, sumN (fun _ => 0) n = 0
  | 0 => rfl
  | n + 1 => by rw [sumN, sumN_zero n]
theorem sumN_const (c : Nat) : ∀ n, sumN (fun _ => c) n = n * c
  | 0 => by simp [sumN]
  | n + 1 => by rw [sumN, sumN_const c n, Nat.succ_mul]
theorem sumN_one (a c : Nat) : ∀ n, sumN (fun k => if k = a then c else 0) n = if a < n then c else 0
  | 0 => by simp [sumN]
  | n + 1 => by
    rw [sumN, sumN_one a c n]
    by_cases h : n = a
    · subst h; simp
    · have e : (a < n + 1) ↔ a < n := by omega
      simp [h, e]
theorem sumN_at {f : Nat → Nat} {a n : Nat} (h : a < n) (c : Nat) : sumN (fun k => f k + if k = a then c else 0) n = sumN f n + c := by rw [sumN_add, sumN_one, if_pos h]

theorem nodup_sub_len {α : Type} [DecidableEq α] : ∀ (l m : List α), l.Nodup → (∀ x ∈ l, x ∈ m) → l.length ≤ m.length
  | [], m, _, _ => Nat.zero_le _
  | x :: l, m, hn, h => by
    have hx : x ∈ m := h x (by simp)
    have hn' := List.nodup_cons.1 hn
    have := nodup_sub_len l (m.erase x) hn'.2 (fun y hy => (List.mem_erase_of_ne (by rintro rfl; exact hn'.1 hy)).2 (h y (List.mem_cons_of_mem _ hy)))
    rw [List.length_erase_of_mem hx] at this
    have := List.length_pos_of_mem hx
    simp only [List.length_cons]
    omega

/-- how many of the first m ports of v lead to w -/
def toK (N : NetD) (v m w : Nat) : Nat := ((List.range m).filter fun i => decide ((nthE (nthL N.ends v) i).1 = (w : Int))).length
def wgt (N : NetD) (v w : Nat) : Nat := toK N v (nthL N.ends v).length w
theorem toK_zero (N : NetD) (v w : Nat) : toK N v 0 w = 0 := rfl
theorem toK_succ (N : NetD) (v m w : Nat) : toK N v (m + 1) w = toK N v m w + if (nthE (nthL N.ends v) m).1 = (w : Int) then 1 else 0 := by
  unfold toK
  rw [List.range_succ, List.filter_append, List.length_append]
  by_cases h : (nthE (nthL N.ends v) m).1 = (w : Int)
  · rw [if_pos h]; simp [h]
  · rw [if_neg h]; simp [h]
theorem portsC_take {N : NetD} (hg : N.good = true) {v : Nat} (hv : v < N.ends.length) (l : List Int) (x : Int) : ∀ m, m ≤ (nthL N.ends v).length →
    cntI x ((nears N v l).take m) = sumN (fun w => if nth l w = x then toK N v m w else 0) N.ends.length
  | 0, _ => by
    rw [sumN_congr (g := fun _ => 0) (fun k _ => by rw [toK_zero]; split <;> rfl), sumN_zero]; rfl
  | m + 1, hm => by
    obtain ⟨t, r, e, ht, hr, _⟩ := good_end hg hv (i := m) (by omega)
    rw [cntI_take (by rw [nears_length]; omega), portsC_take hg hv l x m (by omega), nth_nears l (by omega), e, Int.toNat_natCast, ← sumN_at ht]
    refine sumN_congr fun w hw => ?_
    rw [toK_succ, e]
    dsimp only
    by_cases h1 : w = t
    · subst h1
      rw [if_pos rfl]
      by_cases h2 : nth l w = x
      · rw [if_pos h2, if_pos h2, if_pos h2, if_pos rfl]
      · rw [if_neg h2, if_neg h2, if_neg h2]
    · rw [if_neg h1, if_neg (c := (t : Int) = (w : Int)) (by omega)]; rfl
theorem portsC_sum {N : NetD} (hg : N.good = true) {v : Nat} (hv : v < N.ends.length) (l : List Int) (x : Int) :
    portsC N v l x = sumN (fun w => if nth l w = x then wgt N v w else 0) N.ends.length := by
  have := portsC_take hg hv l x _ (Nat.le_refl _)
  rw [← nears_length N v l, List.take_length, nears_length] at this
  exact this
theorem wgt_le {N : NetD} (hg : N.good = true) {v w : Nat} (hv : v < N.ends.length) (hw : w < N.ends.length) : wgt N v w ≤ wgt N w v := by
  unfold wgt toK
  rw [← List.length_map (f := fun i => (nthE (nthL N.ends v) i).2.toNat)]
  refine nodup_sub_len _ _ ?_ ?_
  · unfold List.Nodup
    rw [List.pairwise_map]
    have hn : (List.filter (fun i => decide ((nthE (nthL N.ends v) i).1 = (w : Int))) (List.range (nthL N.ends v).length)).Nodup := List.Pairwise.filter _ List.nodup_range
    unfold List.Nodup at hn
    refine hn.imp_of_mem ?_
    intro i j hi hj hne he
    simp only [List.mem_filter, List.mem_range, decide_eq_true_eq] at hi hj
    obtain ⟨t, r, e, ht, hr, e2⟩ := good_end hg hv hi.1
    obtain ⟨t', r', e', ht', hr', e2'⟩ := good_end hg hv hj.1
    rw [e, e'] at he
    rw [e] at hi
    rw [e'] at hj
    have h1 : t = w := by have := hi.2; dsimp only at this; omega
    have h2 : t' = w := by have := hj.2; dsimp only at this; omega
    dsimp only at he
    have h3 : r = r' := by omega
    subst h1; subst h2; subst h3
    rw [e2] at e2'
    injection e2' with _ h4
    omega
  · intro r hr
    simp only [List.mem_map, List.mem_filter, List.mem_range, decide_eq_true_eq] at hr
    obtain ⟨i, ⟨h1, h2⟩, rfl⟩ := hr
    obtain ⟨t, r, e, ht, hr, e2⟩ := good_end hg hv h1
    rw [e] at h2 ⊢
    dsimp only at h2
    have h3 : t = w := by omega
    subst h3
    simp only [List.mem_filter, List.mem_range, decide_eq_true_eq, Int.toNat_natCast]
    exact ⟨hr, by rw [e2]⟩
theorem wgt_symm {N : NetD} (hg : N.good = true) {v w : Nat} (hv : v < N.ends.length) (hw : w < N.ends.length) : wgt N v w = wgt N w v :=
  Nat.le_antisymm (wgt_le hg hv hw) (wgt_le hg hw hv)

/-- no port leads to its own node -/
def noLoop (N : NetD) : Bool := (List.range N.ends.length).all fun v => !decide ((v : Int) ∈ nbs N v)
def loopB (q : Quad) : Bool := decide (q.v = q.w)
theorem nbs_mem {N : NetD} {v : Nat} {x : Int} : x ∈ nbs N v ↔ ∃ i, i < (nthL N.ends v).length ∧ (nthE (nthL N.ends v) i).1 = x := by
  constructor
  · intro h
    obtain ⟨i, hi, e⟩ := List.mem_iff_getElem.1 h
    rw [nbs_length] at hi
    exact ⟨i, hi, by rw [← nth_nbs N v hi, nth_eq (by rw [nbs_length]; exact hi), e]⟩
  · rintro ⟨i, hi, e⟩
    rw [← e, ← nth_nbs N v hi]
    exact nth_mem (by rw [nbs_length]; exact hi)
theorem noLoop_eq {N : NetD} (hg : N.good = true) : noLoop N = !(edges N).any loopB := by
  rw [Bool.eq_iff_iff, Bool.not_eq_true', Bool.eq_false_iff]
  constructor
  · intro h ha
    obtain ⟨q, hq, hs⟩ := List.any_eq_true.1 ha
    obtain ⟨v, i, t, r, rfl, h1, h2, h3, h4, e1, e2, _⟩ := edge_nat hg hq
    have := rangeAll_at h h1
    unfold loopB at hs
    simp only [decide_eq_true_eq] at hs
    have hm : (v : Int) ∈ nbs N v := nbs_mem.2 ⟨i, h2, by rw [e1]; exact hs.symm⟩
    rw [decide_eq_true hm] at this
    cases this
  · intro h
    refine rangeAll_true fun v hv => ?_
    rw [Bool.not_eq_true', Bool.eq_false_iff]
    intro hm
    obtain ⟨i, hi, e⟩ := nbs_mem.1 (of_decide_eq_true hm)
    obtain ⟨t, r, e1, ht, hr, e2⟩ := good_end hg hv hi
    rw [e1] at e
    dsimp only at e
    have h3 : t = v := by omega
    subst h3
    apply h
    rw [List.any_eq_true]
    by_cases hir : i ≤ r
    · refine ⟨quadAt N t i, mem_edges.2 ⟨t, i, hv, hi, ?_, rfl⟩, ?_⟩
      · unfold firstB; rw [e1]; simp; omega
      · unfold loopB quadAt; rw [e1]; simp
    · refine ⟨quadAt N t r, mem_edges.2 ⟨t, r, hv, hr, ?_, rfl⟩, ?_⟩
      · unfold firstB; rw [e2]; simp; omega
      · unfold loopB quadAt; rw [e2]; simp
theorem noLoop_wgt {N : NetD} (h : noLoop N = true) {v : Nat} (hv : v < N.ends.length) : wgt N v v = 0 := by
  unfold wgt toK
  rw [List.length_eq_zero_iff, List.filter_eq_nil_iff]
  intro i hi hd
  have := rangeAll_at h hv
  have hm : (v : Int) ∈ nbs N v := nbs_mem.2 ⟨i, List.mem_range.1 hi, of_decide_eq_true hd⟩
  rw [decide_eq_true hm] at this
  cases this

/-- the ports whose two nodes have one colour -/
def phi (N : NetD) (l : List Int) : Nat := sumN (fun v => portsC N v l (nth l v)) N.ends.length
theorem phi_step {N : NetD} (hg : N.good = true) (hn : noLoop N = true) {l : List Int} (hl : l.length = N.ends.length) {u : Nat} (hu : u < N.ends.length) (y : Int) :
    phi N (l.set u y) + 2 * portsC N u l (nth l u) = phi N l + 2 * portsC N u l y := by
  have hs : ∀ w, nth (l.set u y) w = if w = u then y else nth l w := fun w => nth_set _ _ _ _ (by omega)
  have hw0 := noLoop_wgt hn hu
  have hx : ∀ z, sumN (fun v => if nth l v = z then wgt N u v else 0) N.ends.length = portsC N u l z := fun z => (portsC_sum hg hu l z).symm
  have key : ∀ v, v < N.ends.length → portsC N v (l.set u y) (nth (l.set u y) v) + ((if nth l v = nth l u then wgt N u v else 0) + if v = u then portsC N u l (nth l u) else 0) =
      portsC N v l (nth l v) + ((if nth l v = y then wgt N u v else 0) + if v = u then portsC N u l y else 0) := by
    intro v hv
    rw [hs v]
    by_cases e : v = u
    · subst e
      rw [if_pos rfl, if_pos rfl, if_pos rfl, hw0]
      have : portsC N v (l.set v y) y = portsC N v l y := by
        rw [portsC_sum hg hv, portsC_sum hg hv]
        refine sumN_congr fun w hw => ?_
        rw [hs w]
        by_cases e2 : w = v
        · subst e2; rw [hw0]; simp
        · rw [if_neg e2]
      rw [this, if_pos rfl]
      split <;> omega
    · rw [if_neg e, if_neg e, if_neg e]
      have : portsC N v (l.set u y) (nth l v) + (if nth l v = nth l u then wgt N v u else 0) = portsC N v l (nth l v) + if nth l v = y then wgt N v u else 0 := by
        rw [portsC_sum hg hv, portsC_sum hg hv, ← sumN_at hu, ← sumN_at hu]
        refine sumN_congr fun w hw => ?_
        rw [hs w]
        by_cases e2 : w = u
        · subst e2
          rw [if_pos rfl, if_pos rfl, if_pos rfl]
          by_cases c1 : y = nth l v <;> by_cases c2 : nth l w = nth l v
          · simp [c1, c2]
          · have : ¬ nth l v = nth l w := fun h => c2 h.symm
            simp [c1, c2, this]
          · have : ¬ nth l v = y := fun h => c1 h.symm
            simp [c1, c2, this]
          · have h1 : ¬ nth l v = nth l w := fun h => c2 h.symm
            have h2 : ¬ nth l v = y := fun h => c1 h.symm
            simp [c1, c2, h1, h2]
        · rw [if_neg e2, if_neg e2, if_neg e2]
      rw [wgt_symm hg hu hv]
      omega
  have hsum := sumN_congr key
  rw [sumN_add, sumN_add, sumN_add, sumN_add, sumN_one, sumN_one, if_pos hu, if_pos hu, hx, hx] at hsum
  unfold phi
  omega
theorem phi_le {N : NetD} (hg : N.good = true) (l : List Int) : phi N l ≤ 240 := by
  obtain ⟨n1, n40⟩ := good_n hg
  have : phi N l ≤ sumN (fun _ => 6) N.ends.length := sumN_le fun v hv => Nat.le_trans (portsC_le N v l _) (good_deg hg hv)
  rw [sumN_const] at this
  omega
theorem cntI_cons (z x : Int) (zs : List Int) : cntI z (x :: zs) = (if x = z then 1 else 0) + cntI z zs := by
  unfold cntI
  by_cases h : x = z
  · subst h; simp; omega
  · simp [h]
theorem cntI_sum (k : Nat) : ∀ zs : List Int, sumN (fun z => cntI (z : Int) zs) k ≤ zs.length
  | [] => by
    have : sumN (fun z => cntI (z : Int) []) k = sumN (fun _ => 0) k := sumN_congr fun z _ => rfl
    rw [this, sumN_zero]; exact Nat.le_refl _
  | x :: zs => by
    rw [sumN_congr (g := fun (z : Nat) => (if x = (z : Int) then 1 else 0) + cntI (z : Int) zs) (fun z _ => cntI_cons _ _ _), sumN_add]
    have h1 := cntI_sum k zs
    have h2 : sumN (fun (z : Nat) => if x = (z : Int) then 1 else 0) k ≤ sumN (fun z => if z = x.toNat then 1 else 0) k := sumN_le fun z _ => by
      by_cases h : x = (z : Int)
      · rw [if_pos h, if_pos (by omega)]; exact Nat.le_refl _
      · rw [if_neg h]; exact Nat.zero_le _
    rw [sumN_one] at h2
    have h3 : (if x.toNat < k then 1 else 0) ≤ 1 := by split <;> omega
    simp only [List.length_cons]
    omega

/-- the least colour below j to which the fewest ports lead -/
def bestC (N : NetD) (v : Nat) (l : List Int) : Nat → Nat
  | 0 => 0
  | j + 1 => if portsC N v l (j : Int) < portsC N v l (bestC N v l j : Int) then j else bestC N v l j
theorem bestC_one (N : NetD) (v : Nat) (l : List Int) : bestC N v l 1 = 0 := by rw [bestC, bestC]; simp
theorem bestC_lt (N : NetD) (v : Nat) (l : List Int) : ∀ j, bestC N v l j ≤ j - 1
  | 0 => Nat.le_refl _
  | j + 1 => by rw [bestC]; have := bestC_lt N v l j; split <;> omega
theorem bestC_min (N : NetD) (v : Nat) (l : List Int) : ∀ j z, z < j → portsC N v l (bestC N v l j : Int) ≤ portsC N v l (z : Int)
  | j + 1, z, hz => by
    rw [bestC]
    by_cases e : z = j
    · subst e; split <;> omega
    · have := bestC_min N v l j z (by omega)
      split <;> omega
theorem bestC_few (N : NetD) (v : Nat) (l : List Int) {k : Nat} (hk : 0 < k) : portsC N v l (bestC N v l k : Int) ≤ (nthL N.ends v).length / k := by
  rw [Nat.le_div_iff_mul_le hk]
  have h1 : sumN (fun z => portsC N v l (z : Int)) k ≤ (nthL N.ends v).length := by
    have := cntI_sum k (nears N v l)
    rw [nears_length] at this
    exact this
  have h2 : sumN (fun _ => portsC N v l (bestC N v l k : Int)) k ≤ sumN (fun z => portsC N v l (z : Int)) k := sumN_le fun z hz => bestC_min N v l k z hz
  rw [sumN_const, Nat.mul_comm] at h2
  omega
/-- too many ports of v lead to its own colour -/
def crowdAt (N : NetD) (k : Nat) (l : List Int) (v : Nat) : Bool := decide ((nthL N.ends v).length / k < portsC N v l (nth l v))
def crowd (N : NetD) (k : Nat) (l : List Int) : Int := fidxN (crowdAt N k l) N.ends.length
def recol (N : NetD) (k : Nat) (l : List Int) : List Int := l.set (crowd N k l).toNat (bestC N (crowd N k l).toNat l k : Nat)
def defL (N : NetD) (k : Nat) : Nat → List Int → List Int
  | 0, l => l
  | f + 1, l => if crowd N k l < 0 then l else defL N k f (recol N k l)
def defS (N : NetD) (k : Nat) : Nat → Nat → List Int → Nat
  | 0, s, l => s
  | f + 1, s, l => if crowd N k l < 0 then s else defS N k f (s + 1) (recol N k l)
def def0 (N : NetD) : List Int := List.replicate N.ends.length 0
def defColours (N : NetD) (k : Nat) : List Int := defL N k 241 (def0 N)
def defSteps (N : NetD) (k : Nat) : Nat := defS N k 241 0 (def0 N)
structure DTop (N : NetD) (k s : Nat) (l : List Int) : Prop where
  len : l.length = N.ends.length
  col : ∀ j, j < N.ends.length → 0 ≤ nth l j ∧ nth l j < k
  pot : s + phi N l ≤ 240
  eqL : defColours N k = defL N k (241 - s) l
  eqS : defSteps N k = defS N k (241 - s) s l
theorem DTop.zero {N : NetD} (hg : N.good = true) {k : Nat} (hk : 0 < k) : DTop N k 0 (def0 N) :=
  ⟨by simp [def0], fun j hj => by unfold def0; rw [nth_replicate _ _ hj]; omega, by have := phi_le hg (def0 N); omega, rfl, rfl⟩
theorem DTop.stop {N : NetD} {k s : Nat} {l : List Int} (h : DTop N k s l) (hc : crowd N k l = -1) : defColours N k = l ∧ defSteps N k = s := by
  have := h.pot
  rw [h.eqL, h.eqS, show 241 - s = (240 - s) + 1 by omega, defL, defS, if_pos (by omega), if_pos (by omega)]
  exact ⟨rfl, rfl⟩
theorem DTop.step {N : NetD} (hg : N.good = true) (hn : noLoop N = true) {k s : Nat} (hk : 0 < k) {l : List Int} (h : DTop N k s l) {v : Nat} (hv : v < N.ends.length) (hc : crowd N k l = v) (hp : crowdAt N k l v = true) :
    DTop N k (s + 1) (l.set v (bestC N v l k : Nat)) := by
  have hst := phi_step hg hn h.len hv (bestC N v l k : Nat)
  have hb := bestC_few N v l hk
  have hc' := of_decide_eq_true hp
  have hpot := h.pot
  have hb2 := bestC_lt N v l k
  have er : recol N k l = l.set v (bestC N v l k : Nat) := by unfold recol; rw [hc, Int.toNat_natCast]
  refine ⟨by rw [List.length_set]; exact h.len, fun j hj => ?_, by omega, ?_, ?_⟩
  · rw [nth_set _ _ _ _ (by rw [h.len]; exact hv)]
    have := h.col j hj
    split <;> omega
  · rw [h.eqL, show 241 - s = (241 - (s + 1)) + 1 by omega, defL, if_neg (by omega), er]
  · rw [h.eqS, show 241 - s = (241 - (s + 1)) + 1 by omega, defS, if_neg (by omega), er]
theorem crowdAt_col {N : NetD} {k : Nat} {l : List Int} {v : Nat} {c : Int} (h : nth l v = c) : crowdAt N k l v = decide ((nthL N.ends v).length / k < portsC N v l c) := by unfold crowdAt; rw [h]
def defOk (N : NetD) (k : Int) : Bool := N.good && (inB k 1 10 && noLoop N)

end Go.Proofs.Ytlignkgfclenkaa
