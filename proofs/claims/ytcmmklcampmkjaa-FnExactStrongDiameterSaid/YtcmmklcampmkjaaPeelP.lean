/-
  Plain: nodes get layers; the least number for which all get one.
-/
import Derived.Test.YtcmmklcampmkjaaBasics
namespace Go.Proofs.Ytcmmklcampmkjaa
set_option linter.unusedVariables false

def peelAt (N : NetD) (a : Int) (l : List Int) (v : Nat) : Bool := decide (nth l v < 0) && decide ((portsC N v l (-1) : Int) ≤ a)
def peelStep (N : NetD) (a : Int) (k : Nat) (l : List Int) : List Int := (List.range N.ends.length).map fun v => if peelAt N a l v = true then (k : Int) else nth l v
def anyPeel (N : NetD) (a : Int) (l : List Int) : Bool := (List.range N.ends.length).any (peelAt N a l)
def peel (N : NetD) (a : Int) : Nat → Nat → List Int → List Int
  | 0, _, l => l
  | f + 1, k, l => if anyPeel N a l = true then peel N a f (k + 1) (peelStep N a k l) else l
def peel0 (N : NetD) : List Int := List.replicate N.ends.length (-1)
def peelAll (N : NetD) (a : Int) : List Int := peel N a (N.ends.length + 1) 0 (peel0 N)
theorem peelStep_length (N : NetD) (a : Int) (k : Nat) (l : List Int) : (peelStep N a k l).length = N.ends.length := by simp [peelStep]
theorem nth_peelStep {N : NetD} {a : Int} {k : Nat} {l : List Int} {v : Nat} (hv : v < N.ends.length) : nth (peelStep N a k l) v = if peelAt N a l v = true then (k : Int) else nth l v := by simp [nth, peelStep, hv]
/-- the nodes without a layer -/
def leftN (l : List Int) : Nat := (l.filter fun x => decide (x < 0)).length
structure PInv (N : NetD) (k : Nat) (l : List Int) : Prop where
  len : l.length = N.ends.length
  low : ∀ j, j < N.ends.length → -1 ≤ nth l j ∧ nth l j ≤ k
  left : leftN l + k ≤ N.ends.length
theorem PInv.zero (N : NetD) : PInv N 0 (peel0 N) := ⟨by simp [peel0], fun j hj => by unfold peel0; rw [nth_replicate _ _ hj]; omega, by simp [leftN, peel0]⟩
theorem filter_map_lt {n : Nat} {f g : Nat → Int} (h : ∀ k, k < n → (f k < 0 → g k < 0)) (hex : ∃ k, k < n ∧ g k < 0 ∧ ¬ f k < 0) : leftN ((List.range n).map f) < leftN ((List.range n).map g) := by
  unfold leftN
  induction n with
  | zero => obtain ⟨k, hk, _⟩ := hex; omega
  | succ n ih =>
    rw [List.range_succ, List.map_append, List.map_append, List.filter_append, List.filter_append, List.length_append, List.length_append]
    have hle : ∀ m, m ≤ n → (List.filter (fun x => decide (x < 0)) ((List.range m).map f)).length ≤ (List.filter (fun x => decide (x < 0)) ((List.range m).map g)).length := by
      intro m
      induction m with
      | zero => intro _; exact Nat.le_refl _
      | succ m ihm =>
        intro hm
        rw [List.range_succ, List.map_append, List.map_append, List.filter_append, List.filter_append, List.length_append, List.length_append]
        have := ihm (by omega)
        have h1 := h m (by omega)
        by_cases c1 : f m < 0
        · simp [c1, h1 c1]; exact this
        · by_cases c2 : g m < 0 <;> simp [c1, c2] <;> omega
    by_cases hx : ∃ k, k < n ∧ g k < 0 ∧ ¬ f k < 0
    · have := ih (fun k hk => h k (by omega)) hx
      have h1 := h n (by omega)
      by_cases c1 : f n < 0
      · simp [c1, h1 c1]; exact this
      · by_cases c2 : g n < 0 <;> simp [c1, c2] <;> omega
    · obtain ⟨k, hk, h1, h2⟩ := hex
      have e : k = n := Classical.byContradiction fun e => hx ⟨k, by omega, h1, h2⟩
      subst e
      have := hle k (Nat.le_refl _)
      simp [h1, h2]
      omega
theorem map_nth (l : List Int) : (List.range l.length).map (fun v => nth l v) = l := by
  apply List.ext_getElem (by simp)
  intro i h1 h2
  simp at h1
  simp [nth_eq h1]
theorem anyPeel_at {N : NetD} {a : Int} {l : List Int} (h : anyPeel N a l = true) : ∃ v, v < N.ends.length ∧ peelAt N a l v = true := by
  obtain ⟨v, hv, h1⟩ := List.any_eq_true.1 h
  exact ⟨v, List.mem_range.1 hv, h1⟩
theorem anyPeel_no {N : NetD} {a : Int} {l : List Int} (h : anyPeel N a l = false) {v : Nat} (hv : v < N.ends.length) : peelAt N a l v = false := by
  rw [Bool.eq_false_iff]; intro h1
  rw [show anyPeel N a l = true from List.any_eq_true.2 ⟨v, List.mem_range.2 hv, h1⟩] at h
  cases h
theorem PInv.step {N : NetD} {a : Int} {k : Nat} {l : List Int} (h : PInv N k l) (ha : anyPeel N a l = true) : PInv N (k + 1) (peelStep N a k l) := by
  refine ⟨peelStep_length _ _ _ _, fun j hj => ?_, ?_⟩
  · rw [nth_peelStep hj]
    have := h.low j hj
    split <;> omega
  · obtain ⟨v, hv, h1⟩ := anyPeel_at ha
    have hlt : leftN (peelStep N a k l) < leftN l := by
      have := filter_map_lt (n := N.ends.length) (f := fun v => if peelAt N a l v = true then (k : Int) else nth l v) (g := fun v => nth l v) (fun j hj hf => ?_) ⟨v, hv, ?_, ?_⟩
      · rwa [show (List.range N.ends.length).map (fun v => nth l v) = l by rw [← h.len]; exact map_nth l] at this
      · by_cases e : peelAt N a l j = true
        · simp only [if_pos e] at hf; omega
        · simpa only [if_neg e] using hf
      · unfold peelAt at h1; rw [Bool.and_eq_true] at h1; simpa using h1.1
      · simp only [if_pos h1]; omega
    have := h.left
    omega
/-- where no node gets a layer any more -/
theorem peel_stop {N : NetD} {a : Int} {f k : Nat} {l : List Int} (h : anyPeel N a l = false) : peel N a f k l = l := by
  cases f with
  | zero => rfl
  | succ f => rw [peel, if_neg (by rw [h]; simp)]
structure PTop (N : NetD) (a : Int) (k : Nat) (l : List Int) : Prop where
  inv : PInv N k l
  eq : peelAll N a = peel N a (N.ends.length + 1 - k) k l
theorem PTop.zero (N : NetD) (a : Int) : PTop N a 0 (peel0 N) := ⟨PInv.zero N, rfl⟩
theorem PTop.step {N : NetD} {a : Int} {k : Nat} {l : List Int} (h : PTop N a k l) (ha : anyPeel N a l = true) : PTop N a (k + 1) (peelStep N a k l) := by
  have := h.inv.left
  refine ⟨h.inv.step ha, ?_⟩
  rw [h.eq, show N.ends.length + 1 - k = (N.ends.length + 1 - (k + 1)) + 1 by omega, peel, if_pos ha]
theorem PTop.stop {N : NetD} {a : Int} {k : Nat} {l : List Int} (h : PTop N a k l) (ha : anyPeel N a l = false) : peelAll N a = l := by rw [h.eq, peel_stop ha]
def peelOk (N : NetD) (a : Int) : Bool := !decide ((-1 : Int) ∈ peelAll N a)
theorem PInv.mem {N : NetD} {k : Nat} {l : List Int} (h : PInv N k l) {v : Nat} (hv : v < N.ends.length) : nth l v < 0 ↔ nth l v = -1 := by have := h.low v hv; omega
theorem no_left {N : NetD} {a : Int} {k : Nat} {l : List Int} (h : PInv N k l) (hm : (-1 : Int) ∉ l) : anyPeel N a l = false := by
  rw [Bool.eq_false_iff]
  intro ha
  obtain ⟨v, hv, h1⟩ := anyPeel_at ha
  unfold peelAt at h1
  rw [Bool.and_eq_true] at h1
  have : nth l v = -1 := (h.mem hv).1 (by simpa using h1.1)
  exact hm (by rw [← this]; exact nth_mem (by rw [h.len]; exact hv))
/-- with a great enough number all nodes get the first layer -/
theorem peelOk_six {N : NetD} (hg : N.good = true) {a : Int} (ha : 6 ≤ a) : peelOk N a = true := by
  have h0 := PTop.zero N a
  obtain ⟨n1, n40⟩ := good_n hg
  have hall : ∀ v, v < N.ends.length → peelAt N a (peel0 N) v = true := fun v hv => by
    unfold peelAt
    rw [Bool.and_eq_true]
    have h1 := portsC_le N v (peel0 N) (-1)
    have h2 := good_deg hg hv
    refine ⟨?_, by simp; omega⟩
    unfold peel0
    rw [nth_replicate _ _ hv]; rfl
  have hany : anyPeel N a (peel0 N) = true := List.any_eq_true.2 ⟨0, List.mem_range.2 (by omega), hall 0 (by omega)⟩
  have h1 := h0.step hany
  have hm : (-1 : Int) ∉ peelStep N a 0 (peel0 N) := fun hm => by
    obtain ⟨v, hv, e⟩ := List.mem_iff_getElem.1 hm
    rw [peelStep_length] at hv
    rw [← nth_eq, nth_peelStep hv, if_pos (hall v hv)] at e
    omega
  have := h1.stop (no_left h1.inv hm)
  unfold peelOk
  rw [this]
  simpa using hm
/-- the list of the nodes that get a layer now, set one by one -/
theorem setAll_eq {n k : Nat} {p : Nat → Bool} {l : List Int} (hl : l.length = n) : ∀ m, m ≤ n → (((List.range m).filter p).foldl (fun l v => l.set v (k : Int)) l).length = n ∧ ∀ j, j < n → nth (((List.range m).filter p).foldl (fun l v => l.set v (k : Int)) l) j = if j < m ∧ p j = true then (k : Int) else nth l j
  | 0, _ => ⟨hl, fun j hj => by rw [if_neg (by omega)]; rfl⟩
  | m + 1, hm => by
    obtain ⟨h1, h2⟩ := setAll_eq hl (k := k) (p := p) m (by omega)
    rw [List.range_succ, List.filter_append, List.foldl_append]
    cases hp : p m with
    | true =>
      simp only [List.filter_cons, hp, if_true, List.filter_nil, List.foldl_cons, List.foldl_nil]
      refine ⟨by rw [List.length_set]; exact h1, fun j hj => ?_⟩
      rw [nth_set _ _ _ _ (by omega)]
      by_cases e : j = m
      · rw [if_pos e, if_pos ⟨by omega, by rw [e]; exact hp⟩]
      · rw [if_neg e, h2 j hj]
        by_cases c : j < m ∧ p j = true
        · rw [if_pos c, if_pos ⟨by omega, c.2⟩]
        · rw [if_neg c, if_neg (fun h => c ⟨by omega, h.2⟩)]
    | false =>
      simp only [List.filter_cons, hp, Bool.false_eq_true, if_false, List.filter_nil, List.foldl_nil]
      refine ⟨h1, fun j hj => ?_⟩
      rw [h2 j hj]
      by_cases c : j < m ∧ p j = true
      · rw [if_pos c, if_pos ⟨by omega, c.2⟩]
      · rw [if_neg c, if_neg (fun h => c ⟨by have : j ≠ m := by { rintro rfl; rw [hp] at h; cases h.2 }; omega, h.2⟩)]
def peelRes (N : NetD) (a : Int) : Bool := N.stubless && (decide (0 ≤ a) && peelOk N a)
def peelOut (N : NetD) (a : Int) : List Int := if peelRes N a = true then peelAll N a else []
theorem peelAll_top (N : NetD) (a : Int) : ∃ k, PTop N a k (peelAll N a) ∧ anyPeel N a (peelAll N a) = false := by
  have key : ∀ f k l, f = N.ends.length + 1 - k → PTop N a k l → ∃ k, PTop N a k (peelAll N a) ∧ anyPeel N a (peelAll N a) = false := by
    intro f
    induction f with
    | zero => intro k l hf h; have := h.inv.left; omega
    | succ f ih =>
      intro k l hf h
      cases ha : anyPeel N a l with
      | true => exact ih (k + 1) _ (by omega) (h.step ha)
      | false => rw [h.stop ha]; exact ⟨k, h, ha⟩
  exact key _ 0 _ rfl (PTop.zero N a)
theorem peelAll_len (N : NetD) (a : Int) : (peelAll N a).length = N.ends.length := let ⟨_, h, _⟩ := peelAll_top N a; h.inv.len
theorem peelOut_len (N : NetD) (a : Int) : (peelOut N a).length ≤ N.ends.length := by
  unfold peelOut; split
  · rw [peelAll_len]; exact Nat.le_refl _
  · exact Nat.zero_le _

end Go.Proofs.Ytcmmklcampmkjaa
