/-
  Plain: sums of lengths, and from which number on all multiples of the divisor are sums. No program.
-/
import Derived.Test.YtanikenkfnhicaaMem
namespace Go.Proofs.Ytanikenkfnhicaa
set_option linter.unusedVariables false

/-- the sums of the numbers of a list -/
inductive Rch (l : List Nat) : Nat → Prop
  | zero : Rch l 0
  | add {m x : Nat} : x ∈ l → Rch l m → Rch l (m + x)
theorem Rch.sub {l : List Nat} {m x : Nat} (hx : x ∈ l) (h : x ≤ m) (k : Rch l (m - x)) : Rch l m := by
  have := Rch.add hx k
  rwa [show m - x + x = m by omega] at this
theorem Rch.step {l : List Nat} {m : Nat} (h : Rch l m) : m = 0 ∨ ∃ x ∈ l, x ≤ m ∧ Rch l (m - x) := by
  cases h with
  | zero => exact Or.inl rfl
  | @add m x hx h => exact Or.inr ⟨x, hx, by omega, by rwa [show m + x - x = m by omega]⟩
theorem Rch.mul {l : List Nat} {a : Nat} (ha : a ∈ l) {m : Nat} (h : Rch l m) : ∀ k : Nat, Rch l (m + k * a)
  | 0 => by simpa using h
  | k + 1 => by
    have := Rch.add ha (Rch.mul ha h k)
    rwa [show m + k * a + a = m + (k + 1) * a by rw [Nat.succ_mul]; omega] at this
/-- by fuel -/
def rbF (l : List Nat) : Nat → Nat → Bool
  | 0, m => m == 0
  | f + 1, m => m == 0 || l.any fun x => decide (x ≤ m) && rbF l f (m - x)
def rb (l : List Nat) (m : Nat) : Bool := rbF l m m
theorem rbF_iff {l : List Nat} (hl : ∀ x ∈ l, 1 ≤ x) : ∀ (f m : Nat), m ≤ f → (rbF l f m = true ↔ Rch l m)
  | 0, m, h => by
    obtain rfl : m = 0 := by omega
    exact ⟨fun _ => .zero, fun _ => rfl⟩
  | f + 1, m, h => by
    simp only [rbF, Bool.or_eq_true, beq_iff_eq, List.any_eq_true, Bool.and_eq_true, decide_eq_true_eq]
    constructor
    · rintro (rfl | ⟨x, hx, h1, h2⟩)
      · exact .zero
      · exact Rch.sub hx h1 ((rbF_iff hl f _ (by have := hl x hx; omega)).1 h2)
    · intro k
      rcases k.step with rfl | ⟨x, hx, h1, h2⟩
      · exact Or.inl rfl
      · exact Or.inr ⟨x, hx, h1, (rbF_iff hl f _ (by have := hl x hx; omega)).2 h2⟩
theorem rb_iff {l : List Nat} (hl : ∀ x ∈ l, 1 ≤ x) (m : Nat) : rb l m = true ↔ Rch l m := rbF_iff hl m m (Nat.le_refl _)
theorem rb_zero (l : List Nat) : rb l 0 = true := rfl
theorem rb_rec {l : List Nat} (hl : ∀ x ∈ l, 1 ≤ x) {m : Nat} (hm : 0 < m) : rb l m = l.any fun x => decide (x ≤ m) && rb l (m - x) := by
  rw [Bool.eq_iff_iff, rb_iff hl, List.any_eq_true]
  constructor
  · intro h
    rcases h.step with h0 | ⟨x, hx, h1, h2⟩
    · omega
    · exact ⟨x, hx, by rw [(rb_iff hl _).2 h2]; simp [h1]⟩
  · rintro ⟨x, hx, h⟩
    simp only [Bool.and_eq_true, decide_eq_true_eq] at h
    exact Rch.sub hx h.1 ((rb_iff hl _).1 h.2)
theorem Rch.split {x : Nat} {l : List Nat} {n : Nat} (h : Rch (x :: l) n) : ∃ c, c * x ≤ n ∧ Rch l (n - c * x) := by
  induction h with
  | zero => exact ⟨0, by simp, by simpa using Rch.zero⟩
  | @add m y hy _ ih =>
    obtain ⟨c, h1, h2⟩ := ih
    rcases List.mem_cons.1 hy with rfl | hy
    · exact ⟨c + 1, by rw [Nat.succ_mul]; omega, by rwa [show m + y - (c + 1) * y = m - c * y by rw [Nat.succ_mul]; omega]⟩
    · refine ⟨c, by omega, ?_⟩
      rw [show m + y - c * x = m - c * x + y by omega]
      exact .add hy h2
theorem Rch.more {x : Nat} {l : List Nat} {n : Nat} (h : Rch l n) : Rch (x :: l) n := by
  induction h with
  | zero => exact .zero
  | add hy _ ih => exact .add (List.mem_cons_of_mem _ hy) ih

/-- the greatest number up to c with a property, or 0 -/
def topN (p : Nat → Bool) : Nat → Nat
  | 0 => 0
  | c + 1 => if p (c + 1) then c + 1 else topN p c
theorem topN_ok {p : Nat → Bool} : ∀ {c k : Nat}, k ≤ c → p k = true → p (topN p c) = true ∧ topN p c ≤ c ∧ k ≤ topN p c
  | 0, k, h, hp => by
    obtain rfl : k = 0 := by omega
    exact ⟨hp, Nat.le_refl _, Nat.le_refl _⟩
  | c + 1, k, h, hp => by
    simp only [topN]
    split
    · rename_i h1; exact ⟨h1, Nat.le_refl _, h⟩
    · rename_i h1
      have : k ≤ c := by
        rcases Nat.lt_or_ge c k with h2 | h2
        · obtain rfl : k = c + 1 := by omega
          exact absurd hp h1
        · exact h2
      obtain ⟨a, b, d⟩ := topN_ok this hp
      exact ⟨a, by omega, d⟩
/-- how often the lengths are taken -/
def partsN : List Nat → Nat → List Nat
  | [], _ => []
  | x :: l, n => topN (fun c => rb l (n - c * x)) (n / x) :: partsN l (n - topN (fun c => rb l (n - c * x)) (n / x) * x)
theorem partsN_length : ∀ (l : List Nat) (n : Nat), (partsN l n).length = l.length
  | [], _ => rfl
  | x :: l, n => by simp [partsN, partsN_length l]
theorem top_ok {x : Nat} {l : List Nat} {n : Nat} (hl : ∀ y ∈ x :: l, 1 ≤ y) (h : Rch (x :: l) n) : rb l (n - topN (fun c => rb l (n - c * x)) (n / x) * x) = true ∧ topN (fun c => rb l (n - c * x)) (n / x) * x ≤ n := by
  obtain ⟨c, h1, h2⟩ := h.split
  have hx : 1 ≤ x := hl x (by simp)
  have hc : c ≤ n / x := (Nat.le_div_iff_mul_le (by omega)).2 h1
  have := topN_ok (p := fun c => rb l (n - c * x)) hc ((rb_iff (fun y hy => hl y (by simp [hy])) _).2 h2)
  exact ⟨this.1, (Nat.le_div_iff_mul_le (by omega)).1 this.2.1⟩
def dotN : List Nat → List Nat → Nat
  | x :: xs, y :: ys => x * y + dotN xs ys
  | _, _ => 0
theorem partsN_sum : ∀ {l : List Nat} {n : Nat}, (∀ y ∈ l, 1 ≤ y) → Rch l n → dotN (partsN l n) l = n
  | [], n, _, h => by
    rcases h.step with h | ⟨x, hx, _⟩
    · exact h.symm
    · simp at hx
  | x :: l, n, hl, h => by
    obtain ⟨h1, h2⟩ := top_ok hl h
    simp only [partsN, dotN]
    rw [partsN_sum (fun y hy => hl y (by simp [hy])) ((rb_iff (fun y hy => hl y (by simp [hy])) _).1 h1)]
    omega

/-- two places with one value -/
theorem pigeonN : ∀ (n : Nat) (f : Nat → Nat), (∀ i, i ≤ n → f i < n) → ∃ i j, i < j ∧ j ≤ n ∧ f i = f j
  | 0, f, h => absurd (h 0 (Nat.le_refl _)) (by omega)
  | n + 1, f, h => by
    by_cases hv : ∃ i, i ≤ n ∧ f i = f (n + 1)
    · obtain ⟨i, h1, h2⟩ := hv
      exact ⟨i, n + 1, by omega, Nat.le_refl _, h2⟩
    · have hne : ∀ i, i ≤ n → f i ≠ f (n + 1) := fun i hi e => hv ⟨i, hi, e⟩
      have hb := h (n + 1) (Nat.le_refl _)
      have hg : ∀ i, i ≤ n → (if f (n + 1) < f i then f i - 1 else f i) < n := fun i hi => by
        have h1 := hne i hi
        have h2 := h i (by omega)
        by_cases h3 : f (n + 1) < f i
        · rw [if_pos h3]; omega
        · rw [if_neg h3]; omega
      obtain ⟨i, j, h1, h2, h3⟩ := pigeonN n (fun i => if f (n + 1) < f i then f i - 1 else f i) hg
      refine ⟨i, j, h1, by omega, ?_⟩
      have e1 := hne i (by omega)
      have e2 := hne j h2
      replace h3 : (if f (n + 1) < f i then f i - 1 else f i) = if f (n + 1) < f j then f j - 1 else f j := h3
      split at h3 <;> split at h3 <;> omega
theorem sum_split (w : List Nat) (i : Nat) : w.sum = (w.take i).sum + (w.drop i).sum := by
  conv => lhs; rw [← List.take_append_drop i w]
  rw [List.sum_append]
theorem take_take_sum (w : List Nat) {i j : Nat} (h : i ≤ j) : (w.take j).sum = (w.take i).sum + ((w.take j).drop i).sum := by
  rw [sum_split (w.take j) i, List.take_take, Nat.min_eq_left h]
/-- a residue has a word shorter than the divisor -/
theorem short_word {l : List Nat} {a : Nat} (ha : 1 ≤ a) : ∀ (k : Nat) (w : List Nat), w.length ≤ k → (∀ x ∈ w, x ∈ l) → ∃ u : List Nat, u.length < a ∧ (∀ x ∈ u, x ∈ l) ∧ u.sum % a = w.sum % a
  | 0, w, hk, hw => ⟨[], by simp; omega, by simp, by
      have : w = [] := List.eq_nil_of_length_eq_zero (by omega)
      rw [this]⟩
  | k + 1, w, hk, hw => by
    by_cases hs : w.length < a
    · exact ⟨w, hs, hw, rfl⟩
    · obtain ⟨i, j, h1, h2, h3⟩ := pigeonN a (fun i => (w.take i).sum % a) (fun i _ => Nat.mod_lt _ ha)
      have hlen : (w.take i ++ w.drop j).length ≤ k := by
        rw [List.length_append, List.length_take, List.length_drop]; omega
      obtain ⟨u, u1, u2, u3⟩ := short_word ha k (w.take i ++ w.drop j) hlen (fun x hx => by
        rcases List.mem_append.1 hx with hx | hx
        · exact hw x (List.mem_of_mem_take hx)
        · exact hw x (List.mem_of_mem_drop hx))
      refine ⟨u, u1, u2, ?_⟩
      rw [u3, List.sum_append, sum_split w j, Nat.add_mod, h3, ← Nat.add_mod]
theorem sum_le_mul {b : Nat} : ∀ (w : List Nat), (∀ x ∈ w, x ≤ b) → w.sum ≤ w.length * b
  | [], _ => by simp
  | x :: w, h => by
    have := sum_le_mul w (fun y hy => h y (by simp [hy]))
    have := h x (by simp)
    rw [List.sum_cons, List.length_cons, Nat.succ_mul]; omega
theorem rch_word {l : List Nat} : ∀ (w : List Nat), (∀ x ∈ w, x ∈ l) → Rch l w.sum
  | [], _ => .zero
  | x :: w, h => by
    rw [List.sum_cons, Nat.add_comm]
    exact .add (h x (by simp)) (rch_word w (fun y hy => h y (by simp [hy])))
/-- the residues that have a word -/
def HasW (l : List Nat) (a n : Nat) : Prop := ∃ w : List Nat, (∀ x ∈ w, x ∈ l) ∧ w.sum % a = n % a
theorem HasW.add {l : List Nat} {a m n : Nat} (h : HasW l a m) (k : HasW l a n) : HasW l a (m + n) := by
  obtain ⟨w, h1, h2⟩ := h
  obtain ⟨u, k1, k2⟩ := k
  refine ⟨w ++ u, fun x hx => (List.mem_append.1 hx).elim (h1 x) (k1 x), ?_⟩
  rw [List.sum_append, Nat.add_mod, h2, k2, ← Nat.add_mod]
theorem HasW.zero (l : List Nat) (a : Nat) : HasW l a 0 := ⟨[], by simp, by simp⟩
theorem HasW.mul {l : List Nat} {a m : Nat} (h : HasW l a m) : ∀ k : Nat, HasW l a (k * m)
  | 0 => by rw [Nat.zero_mul]; exact .zero l a
  | k + 1 => by rw [Nat.succ_mul]; exact (HasW.mul h k).add h
theorem HasW.congr {l : List Nat} {a m n : Nat} (h : HasW l a m) (e : m % a = n % a) : HasW l a n := by
  obtain ⟨w, h1, h2⟩ := h
  exact ⟨w, h1, h2.trans e⟩
theorem HasW.mod {l : List Nat} {a : Nat} (ha : 1 ≤ a) {u v : Nat} (hu : HasW l a u) (hv : HasW l a v) : HasW l a (v % u) := by
  refine (hv.add (HasW.mul hu ((v / u) * (a - 1)))).congr ?_
  have h1 : v / u * (a - 1) * u = v / u * u * (a - 1) := by rw [Nat.mul_assoc, Nat.mul_comm (a - 1) u, ← Nat.mul_assoc]
  have h2 : v % u + v / u * u = v := by rw [Nat.mul_comm]; exact Nat.mod_add_div v u
  have h3 : v / u * u * (a - 1) + v / u * u = a * (v / u * u) := by
    rw [← Nat.mul_succ, show (a - 1).succ = a by omega, Nat.mul_comm]
  rw [h1]
  have e : v + v / u * u * (a - 1) = v % u + a * (v / u * u) := by omega
  rw [e, Nat.add_mul_mod_self_left]
theorem HasW.gcd {l : List Nat} {a : Nat} (ha : 1 ≤ a) : ∀ (u v : Nat), HasW l a u → HasW l a v → HasW l a (Nat.gcd u v) := by
  intro u v
  refine Nat.gcd.induction (P := fun u v => HasW l a u → HasW l a v → HasW l a (Nat.gcd u v)) u v ?_ ?_
  · intro n _ h; rwa [Nat.gcd_zero_left]
  · intro m n hm ih h1 h2
    rw [Nat.gcd_rec]
    exact ih (HasW.mod ha h1 h2) h1
/-- the greatest common divisor of a list, as a loop finds it -/
def gcdF (d : Nat) (l : List Nat) : Nat := l.foldl Nat.gcd d
theorem hasW_gcdF {l : List Nat} {a : Nat} (ha : 1 ≤ a) : ∀ (k : List Nat) (d : Nat), HasW l a d → (∀ x ∈ k, x ∈ l) → HasW l a (gcdF d k)
  | [], d, h, _ => h
  | x :: k, d, h, hk => hasW_gcdF ha k _ (HasW.gcd ha _ _ h ⟨[x], by simpa using hk x (by simp), by simp⟩) (fun y hy => hk y (by simp [hy]))
theorem gcdF_dvd : ∀ (k : List Nat) (d : Nat), gcdF d k ∣ d ∧ ∀ x ∈ k, gcdF d k ∣ x
  | [], d => ⟨Nat.dvd_refl _, by simp⟩
  | x :: k, d => by
    obtain ⟨h1, h2⟩ := gcdF_dvd k (Nat.gcd d x)
    refine ⟨Nat.dvd_trans h1 (Nat.gcd_dvd_left _ _), fun y hy => ?_⟩
    rcases List.mem_cons.1 hy with rfl | hy
    · exact Nat.dvd_trans h1 (Nat.gcd_dvd_right _ _)
    · exact h2 y hy
theorem rch_dvd {l : List Nat} {g : Nat} (hg : ∀ x ∈ l, g ∣ x) {m : Nat} (h : Rch l m) : g ∣ m := by
  induction h with
  | zero => exact Nat.dvd_zero _
  | add hx _ ih => exact Nat.dvd_add ih (hg _ hx)
/-- FROM THE BOUND ON EVERY MULTIPLE IS A SUM -/
theorem rch_big {l : List Nat} (hl : ∀ x ∈ l, 1 ≤ x ∧ x ≤ 40) (hne : l ≠ []) {n : Nat} (hd : gcdF 0 l ∣ n) (hn : 1560 ≤ n) : Rch l n := by
  obtain ⟨a, l', rfl⟩ := List.exists_cons_of_ne_nil hne
  have hal : a ∈ a :: l' := by simp
  obtain ⟨ha1, ha2⟩ := hl a hal
  obtain ⟨k, rfl⟩ := hd
  have h := hasW_gcdF (l := a :: l') ha1 (a :: l') 0 (.zero _ _) (fun x hx => hx)
  obtain ⟨w, h1, h2⟩ := HasW.mul h k
  obtain ⟨u, u1, u2, u3⟩ := short_word ha1 w.length w (Nat.le_refl _) h1
  have hs := sum_le_mul u (fun x hx => (hl x (u2 x hx)).2)
  have hs2 : u.length * 40 ≤ 39 * 40 := Nat.mul_le_mul_right _ (by omega)
  rw [Nat.mul_comm] at hn ⊢
  rw [h2] at u3
  obtain ⟨c, hc⟩ : a ∣ k * gcdF 0 (a :: l') - u.sum := Nat.dvd_of_mod_eq_zero (Nat.sub_mod_eq_zero_of_mod_eq u3.symm)
  have := (rch_word u u2).mul hal c
  rwa [Nat.mul_comm c a, ← hc, show u.sum + (k * gcdF 0 (a :: l') - u.sum) = k * gcdF 0 (a :: l') by omega] at this

/-- the greatest multiple that is no sum, and one more: from above (the program) -/
def cndD (p : Nat → Bool) : Nat → Nat
  | 0 => 0
  | m + 1 => if p m then m + 1 else cndD p m
theorem cndD_cases (p : Nat → Bool) : ∀ k, (cndD p k = 0 ∧ ∀ m < k, p m = false) ∨ ∃ m < k, cndD p k = m + 1 ∧ p m = true ∧ ∀ i, m < i → i < k → p i = false
  | 0 => Or.inl ⟨rfl, fun m h => absurd h (Nat.not_lt_zero _)⟩
  | k + 1 => by
    simp only [cndD]
    split
    · rename_i h
      exact Or.inr ⟨k, by omega, rfl, h, fun i h1 h2 => by omega⟩
    · rename_i h
      have hk : p k = false := by simpa using h
      rcases cndD_cases p k with ⟨h1, h2⟩ | ⟨m, h1, h2, h3, h4⟩
      · refine Or.inl ⟨h1, fun m hm => ?_⟩
        rcases Nat.lt_succ_iff_lt_or_eq.1 hm with h | rfl
        · exact h2 m h
        · exact hk
      · refine Or.inr ⟨m, by omega, h2, h3, fun i hi hk' => ?_⟩
        rcases Nat.lt_succ_iff_lt_or_eq.1 hk' with h | rfl
        · exact h4 i hi h
        · exact hk
/-- is m a multiple that is no sum? -/
def noS (l : List Nat) (m : Nat) : Bool := m % gcdF 0 l == 0 && !rb l m
/-- the program's answer -/
def cndN (l : List Nat) : Nat := cndD (noS l) 1601
/-- by steps of the divisor (the reference) -/
def cndG (l : List Nat) (g : Nat) : Nat → Nat
  | 0 => 0
  | k + 1 => if rb l (k * g) then cndG l g k else k * g + 1
theorem cndG_cases (l : List Nat) (g : Nat) : ∀ k, (cndG l g k = 0 ∧ ∀ m < k, rb l (m * g) = true) ∨ ∃ m < k, cndG l g k = m * g + 1 ∧ rb l (m * g) = false ∧ ∀ i, m < i → i < k → rb l (i * g) = true
  | 0 => Or.inl ⟨rfl, fun m h => absurd h (Nat.not_lt_zero _)⟩
  | k + 1 => by
    simp only [cndG]
    split
    · rename_i hk
      rcases cndG_cases l g k with ⟨h1, h2⟩ | ⟨m, h1, h2, h3, h4⟩
      · refine Or.inl ⟨h1, fun m hm => ?_⟩
        rcases Nat.lt_succ_iff_lt_or_eq.1 hm with h | rfl
        · exact h2 m h
        · exact hk
      · refine Or.inr ⟨m, by omega, h2, h3, fun i hi hk' => ?_⟩
        rcases Nat.lt_succ_iff_lt_or_eq.1 hk' with h | rfl
        · exact h4 i hi h
        · exact hk
    · rename_i h
      exact Or.inr ⟨k, by omega, rfl, by simpa using h, fun i h1 h2 => by omega⟩
/-- lengths -/
structure Lens (l : List Nat) : Prop where
  ne : l ≠ []
  is : ∀ x ∈ l, 1 ≤ x ∧ x ≤ 40
theorem Lens.g {l : List Nat} (h : Lens l) : 1 ≤ gcdF 0 l ∧ gcdF 0 l ≤ 40 := by
  obtain ⟨a, l', rfl⟩ := List.exists_cons_of_ne_nil h.ne
  have h1 := (gcdF_dvd (a :: l') 0).2 a (by simp)
  obtain ⟨h2, h3⟩ := h.is a (by simp)
  have h4 := Nat.le_of_dvd (by omega) h1
  have h5 := Nat.pos_of_dvd_of_pos h1 (by omega)
  omega
theorem Lens.rb_iff {l : List Nat} (h : Lens l) (m : Nat) : rb l m = true ↔ Rch l m := Go.Proofs.Ytanikenkfnhicaa.rb_iff (fun x hx => (h.is x hx).1) m
theorem Lens.big {l : List Nat} (h : Lens l) {n : Nat} (hd : gcdF 0 l ∣ n) (hn : 1560 ≤ n) : rb l n = true := (h.rb_iff n).2 (rch_big h.is h.ne hd hn)
theorem cndN_eq {l : List Nat} (h : Lens l) : cndN l = cndG l (gcdF 0 l) (3200 / gcdF 0 l) := by
  obtain ⟨g1, g2⟩ := h.g
  obtain ⟨g, hg⟩ : ∃ g, gcdF 0 l = g := ⟨_, rfl⟩
  have hbig : ∀ n, g ∣ n → 1560 ≤ n → rb l n = true := fun n hn h2 => h.big (hg ▸ hn) h2
  have hK : 3160 < 3200 / g * g := by
    have := Nat.div_add_mod 3200 g
    have := Nat.mod_lt 3200 (show g > 0 by omega)
    rw [Nat.mul_comm]; omega
  have hno : ∀ m, noS l m = true ↔ m % g = 0 ∧ rb l m = false := fun m => by unfold noS; rw [hg]; simp
  rw [hg] at g1 g2 ⊢
  have hlt : ∀ m, m * g ≤ 1600 → m < 3200 / g := fun m hm => by
    rcases Nat.lt_or_ge m (3200 / g) with h1 | h1
    · exact h1
    · have := Nat.mul_le_mul_right g h1; omega
  rcases cndD_cases (noS l) 1601 with ⟨a1, a2⟩ | ⟨m, a1, a2, a3, a4⟩
  · rcases cndG_cases l g (3200 / g) with ⟨b1, b2⟩ | ⟨m, b1, b2, b3, b4⟩
    · unfold cndN; rw [a1, b1]
    · exfalso
      have hm : m * g < 1560 := by
        rcases Nat.lt_or_ge (m * g) 1560 with h1 | h1
        · exact h1
        · rw [hbig _ (Nat.dvd_mul_left _ _) h1] at b3; cases b3
      have := a2 (m * g) (by omega)
      rw [(hno _).2 ⟨Nat.mul_mod_left _ _, b3⟩] at this; cases this
  · obtain ⟨c1, c2⟩ := (hno m).1 a3
    obtain ⟨j, rfl⟩ := Nat.dvd_of_mod_eq_zero c1
    rw [Nat.mul_comm] at a1 a2 a3 a4 c2
    rcases cndG_cases l g (3200 / g) with ⟨b1, b2⟩ | ⟨m, b1, b2, b3, b4⟩
    · rw [b2 j (hlt j (by omega))] at c2; cases c2
    · have : m = j := by
        rcases Nat.lt_trichotomy m j with h1 | h1 | h1
        · rw [b4 j h1 (hlt j (by omega))] at c2; cases c2
        · exact h1
        · exfalso
          have hm : m * g < 1560 := by
            rcases Nat.lt_or_ge (m * g) 1560 with h1 | h1
            · exact h1
            · rw [hbig _ (Nat.dvd_mul_left _ _) h1] at b3; cases b3
          have := a4 (m * g) (Nat.mul_lt_mul_of_pos_right h1 (by omega)) (by omega)
          rw [(hno _).2 ⟨Nat.mul_mod_left _ _, b3⟩] at this; cases this
      subst this
      unfold cndN; rw [a2, b2]
/-- what the law's end asks -/
theorem cndN_from {l : List Nat} (h : Lens l) {n : Nat} (hd : gcdF 0 l ∣ n) (hn : cndN l ≤ n) : rb l n = true := by
  rcases Nat.lt_or_ge n 1560 with h1 | h1
  · have hp : noS l n = false := by
      rcases cndD_cases (noS l) 1601 with ⟨a1, a2⟩ | ⟨m, a1, a2, a3, a4⟩
      · exact a2 n (by omega)
      · unfold cndN at hn; rw [a2] at hn
        exact a4 n (by omega) (by omega)
    unfold noS at hp
    rw [Nat.mod_eq_zero_of_dvd hd] at hp
    simpa using hp
  · exact h.big hd h1
theorem cndN_last {l : List Nat} (h : Lens l) (hn : 0 < cndN l) : gcdF 0 l ∣ cndN l - 1 ∧ rb l (cndN l - 1) = false ∧ cndN l ≤ 1601 := by
  rcases cndD_cases (noS l) 1601 with ⟨a1, a2⟩ | ⟨m, a1, a2, a3, a4⟩
  · unfold cndN at hn; omega
  · unfold cndN; rw [a2]
    unfold noS at a3
    simp only [Bool.and_eq_true, beq_iff_eq, Bool.not_eq_true'] at a3
    exact ⟨Nat.dvd_of_mod_eq_zero a3.1, a3.2, by omega⟩

end Go.Proofs.Ytanikenkfnhicaa
