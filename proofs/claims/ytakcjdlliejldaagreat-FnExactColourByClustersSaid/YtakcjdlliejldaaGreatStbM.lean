/-
  Several texts in one: StbP, Stb, Stb2, Stb3. No condition on any program.
-/
import Derived.Test.YtakcjdlliejldaaGreatBasics
import Derived.Test.YtakcjdlliejldaaGreatReg
import Derived.Test.YtakcjdlliejldaaGreatExt
import Derived.BigRegion

/- Plain: a stable sort by insertion and by symmetric merging, on functions of places. No program. -/
namespace Go.Proofs.YtakcjdlliejldaaGreat
set_option linter.unusedVariables false

/-- two places swapped -/
def swp (f : Nat → Nat) (i j : Nat) : Nat → Nat := fun x => if x = i then f j else if x = j then f i else f x
/-- the places from A to M and those from M to B change sides -/
def rot (f : Nat → Nat) (A M B : Nat) : Nat → Nat := fun x => if x < A then f x else if B ≤ x then f x else if x < A + (B - M) then f (x - A + M) else f (x - (B - M))
/-- n places from x on swapped with those from y on -/
def swpR (f : Nat → Nat) (x y n : Nat) : Nat → Nat := fun z => if x ≤ z ∧ z < x + n then f (z - x + y) else if y ≤ z ∧ z < y + n then f (z - y + x) else f z
theorem swpR_zero (f : Nat → Nat) (x y : Nat) : swpR f x y 0 = f := by
  funext z; unfold swpR; rw [if_neg (by omega), if_neg (by omega)]
theorem swpR_succ (f : Nat → Nat) {x y n : Nat} (h : x + n < y) : swp (swpR f x y n) (x + n) (y + n) = swpR f x y (n + 1) := by
  funext z
  have e1 : swpR f x y n (x + n) = f (x + n) := by unfold swpR; rw [if_neg (by omega), if_neg (by omega)]
  have e2 : swpR f x y n (y + n) = f (y + n) := by unfold swpR; rw [if_neg (by omega), if_neg (by omega)]
  unfold swp
  rw [e1, e2]
  unfold swpR
  (repeat' split) <;> first | rfl | (congr 1; omega) | omega
theorem rot_id_left (f : Nat → Nat) (A B : Nat) : rot f A A B = f := by
  funext x; unfold rot
  split
  · rfl
  · split
    · rfl
    · split
      · congr 1; omega
      · congr 1; omega
theorem rot_id_right (f : Nat → Nat) (A M : Nat) : rot f A M M = f := by
  funext x; unfold rot
  split
  · rfl
  · split
    · rfl
    · split
      · omega
      · congr 1; omega
theorem rot_out (f : Nat → Nat) {A M B x : Nat} (h : x < A ∨ B ≤ x) : rot f A M B x = f x := by
  unfold rot
  rcases h with h | h
  · rw [if_pos h]
  · by_cases h1 : x < A
    · rw [if_pos h1]
    · rw [if_neg h1, if_pos h]
theorem rot_fst (f : Nat → Nat) {A M B x : Nat} (h1 : A ≤ x) (h2 : x < A + (B - M)) (hm : A ≤ M) (hb : M ≤ B) : rot f A M B x = f (x - A + M) := by
  unfold rot; rw [if_neg (by omega), if_neg (by omega), if_pos h2]
theorem rot_snd (f : Nat → Nat) {A M B x : Nat} (h1 : A + (B - M) ≤ x) (h2 : x < B) : rot f A M B x = f (x - (B - M)) := by
  unfold rot; rw [if_neg (by omega), if_neg (by omega), if_neg (by omega)]
/-- the three ways of a rotation's round -/
theorem rot_gt (f : Nat → Nat) {M i j : Nat} (h : j < i) (hi : i ≤ M) : rot (swpR f (M - i) M j) (M - (i - j)) M (M + j) = rot f (M - i) M (M + j) := by
  funext x
  unfold rot swpR
  (repeat' split) <;> first | rfl | (congr 1; omega) | omega
theorem rot_lt (f : Nat → Nat) {M i j : Nat} (h : i < j) (hi : i ≤ M) : rot (swpR f (M - i) (M + j - i) i) (M - i) M (M + (j - i)) = rot f (M - i) M (M + j) := by
  funext x
  unfold rot swpR
  (repeat' split) <;> first | rfl | (congr 1; omega) | omega
theorem rot_eq (f : Nat → Nat) {M i : Nat} (hi : i ≤ M) : swpR f (M - i) M i = rot f (M - i) M (M + i) := by
  funext x
  unfold rot swpR
  (repeat' split) <;> first | rfl | (congr 1; omega) | omega
theorem rot_up (f : Nat → Nat) {a k : Nat} (h : a ≤ k) : swp (rot f a (a + 1) (k + 1)) k (k + 1) = rot f a (a + 1) (k + 2) := by
  funext x
  have e1 : rot f a (a + 1) (k + 1) k = f a := by
    rw [rot_snd _ (by omega) (by omega)]; congr 1; omega
  have e2 : rot f a (a + 1) (k + 1) (k + 1) = f (k + 1) := rot_out _ (by omega)
  unfold swp
  rw [e1, e2]
  by_cases h1 : x = k
  · subst h1; rw [if_pos rfl, rot_fst _ h (by omega) (by omega) (by omega)]; congr 1; omega
  · rw [if_neg h1]
    by_cases h2 : x = k + 1
    · subst h2; rw [if_pos rfl, rot_snd _ (by omega) (by omega)]; congr 1; omega
    · rw [if_neg h2]
      by_cases h3 : x < a ∨ k + 2 ≤ x
      · rw [rot_out _ (by omega), rot_out _ h3]
      · rw [rot_fst _ (by omega) (by omega) (by omega) (by omega), rot_fst _ (by omega) (by omega) (by omega) (by omega)]
theorem rot_down (f : Nat → Nat) {k m : Nat} (h0 : 0 < k) (h : k ≤ m) : swp (rot f k m (m + 1)) k (k - 1) = rot f (k - 1) m (m + 1) := by
  funext x
  have e1 : rot f k m (m + 1) k = f m := by
    rw [rot_fst _ (by omega) (by omega) h (by omega)]; congr 1; omega
  have e2 : rot f k m (m + 1) (k - 1) = f (k - 1) := rot_out _ (by omega)
  unfold swp
  rw [e1, e2]
  by_cases h1 : x = k
  · subst h1; rw [if_pos rfl, rot_snd _ (by omega) (by omega)]; congr 1; omega
  · rw [if_neg h1]
    by_cases h2 : x = k - 1
    · subst h2; rw [if_pos rfl, rot_fst _ (by omega) (by omega) (by omega) (by omega)]; congr 1; omega
    · rw [if_neg h2]
      by_cases h3 : x < k - 1 ∨ m + 1 ≤ x
      · rw [rot_out _ (by omega), rot_out _ h3]
      · rw [rot_snd _ (by omega) (by omega), rot_snd _ (by omega) (by omega)]

/-- the values at the places from a to b -/
def seg (f : Nat → Nat) (a b : Nat) : List Nat := (List.range' a (b - a)).map f
theorem mem_seg {f : Nat → Nat} {a b x : Nat} : x ∈ seg f a b ↔ ∃ i, a ≤ i ∧ i < b ∧ f i = x := by
  unfold seg
  simp only [List.mem_map, List.mem_range'_1]
  constructor
  · rintro ⟨i, h, rfl⟩; exact ⟨i, h.1, by omega, rfl⟩
  · rintro ⟨i, h1, h2, rfl⟩; exact ⟨i, by omega, rfl⟩
theorem seg_split (f : Nat → Nat) {a b c : Nat} (h1 : a ≤ b) (h2 : b ≤ c) : seg f a c = seg f a b ++ seg f b c := by
  unfold seg
  rw [← List.map_append, show c - a = (b - a) + (c - b) by omega]
  rw [← List.range'_append_1, show a + (b - a) = b by omega]
theorem seg_congr {f g : Nat → Nat} {a b : Nat} (h : ∀ i, a ≤ i → i < b → f i = g i) : seg f a b = seg g a b := by
  unfold seg
  exact List.map_congr_left fun i hi => by
    have := List.mem_range'_1.1 hi
    exact h i this.1 (by omega)
theorem seg_shift {f g : Nat → Nat} {a b c : Nat} (h : ∀ i, i < b - a → f (a + i) = g (c + i)) : seg f a b = seg g c (c + (b - a)) := by
  unfold seg
  rw [show c + (b - a) - c = b - a by omega, List.range'_eq_map_range, List.range'_eq_map_range, List.map_map, List.map_map]
  exact List.map_congr_left fun i hi => h i (List.mem_range.1 hi)
theorem seg_rot (f : Nat → Nat) {A M B : Nat} (h1 : A ≤ M) (h2 : M ≤ B) : seg (rot f A M B) A B = seg f M B ++ seg f A M := by
  rw [seg_split _ (b := A + (B - M)) (by omega) (by omega)]
  congr 1
  · rw [seg_shift (g := f) (c := M) (fun i hi => by rw [rot_fst _ (by omega) (by omega) h1 h2]; congr 1; omega)]
    congr 1; omega
  · rw [seg_shift (g := f) (c := A) (fun i hi => by rw [rot_snd _ (by omega) (by omega)]; congr 1; omega)]
    congr 1; omega
theorem rot_perm (f : Nat → Nat) {a A M B b : Nat} (h0 : a ≤ A) (h1 : A ≤ M) (h2 : M ≤ B) (h3 : B ≤ b) : (seg (rot f A M B) a b).Perm (seg f a b) := by
  rw [seg_split _ h0 (by omega : A ≤ b), seg_split _ (by omega : A ≤ B) h3, seg_split f h0 (by omega : A ≤ b), seg_split f (by omega : A ≤ B) h3]
  rw [seg_congr (f := rot f A M B) (g := f) (a := a) (b := A) (fun i _ hi => rot_out _ (by omega)), seg_congr (f := rot f A M B) (g := f) (a := B) (b := b) (fun i hi _ => rot_out _ (by omega))]
  refine (List.Perm.append_left _ (List.Perm.append_right _ ?_))
  rw [seg_rot f h1 h2, seg_split f h1 h2]
  exact List.perm_append_comm

/-- a strict order of values -/
structure Ord3 (R : Nat → Nat → Prop) : Prop where
  irr : ∀ x, ¬ R x x
  trans : ∀ {x y z}, R x y → R y z → R x z
  tri : ∀ {x y}, ¬ R x y → ¬ R y x → x = y
def Srt (R : Nat → Nat → Prop) (f : Nat → Nat) (a b : Nat) : Prop := ∀ i j, a ≤ i → i < j → j < b → R (f i) (f j)
theorem Srt.le {R : Nat → Nat → Prop} {f : Nat → Nat} {a b : Nat} (h : Srt R f a b) {c d : Nat} (h1 : a ≤ c) (h2 : d ≤ b) : Srt R f c d := fun i j a1 a2 a3 => h i j (by omega) a2 (by omega)
theorem Srt.one {R : Nat → Nat → Prop} (f : Nat → Nat) {a b : Nat} (h : b ≤ a + 1) : Srt R f a b := fun i j a1 a2 a3 => by omega
theorem Srt.congr {R : Nat → Nat → Prop} {f g : Nat → Nat} {a b : Nat} (h : Srt R f a b) (e : ∀ i, a ≤ i → i < b → g i = f i) : Srt R g a b := fun i j a1 a2 a3 => by rw [e i a1 (by omega), e j (by omega) a3]; exact h i j a1 a2 a3
theorem Srt.join {R : Nat → Nat → Prop} {f : Nat → Nat} {a b c : Nat} (h : Srt R f a b) (k : Srt R f b c) (x : ∀ u v, a ≤ u → u < b → b ≤ v → v < c → R (f u) (f v)) : Srt R f a c := fun i j a1 a2 a3 => by
  rcases Nat.lt_or_ge j b with h1 | h1
  · exact h i j a1 a2 h1
  · rcases Nat.lt_or_ge i b with h2 | h2
    · exact x i j a1 h2 h1 a3
    · exact k i j h2 a2 a3
/-- values that differ at different places -/
def Dif (f : Nat → Nat) (a b : Nat) : Prop := ∀ i j, a ≤ i → i < j → j < b → f i ≠ f j
/-- g is f with the places from a to b sorted -/
structure Mrg (R : Nat → Nat → Prop) (f g : Nat → Nat) (a b : Nat) : Prop where
  out : ∀ x, x < a ∨ b ≤ x → g x = f x
  perm : (seg g a b).Perm (seg f a b)
  srt : Srt R g a b
theorem Mrg.refl {R : Nat → Nat → Prop} {f : Nat → Nat} {a b : Nat} (h : Srt R f a b) : Mrg R f f a b := ⟨fun _ _ => rfl, .refl _, h⟩
theorem Mrg.mem {R : Nat → Nat → Prop} {f g : Nat → Nat} {a b : Nat} (h : Mrg R f g a b) {x : Nat} (h1 : a ≤ x) (h2 : x < b) : ∃ y, a ≤ y ∧ y < b ∧ g x = f y := by
  obtain ⟨y, a1, a2, a3⟩ := mem_seg.1 (h.perm.subset (mem_seg.2 ⟨x, h1, h2, rfl⟩))
  exact ⟨y, a1, a2, a3.symm⟩
/-- the key's order is told from the whole order between the two sides -/
def Tie (R K : Nat → Nat → Prop) (f : Nat → Nat) (a m b : Nat) : Prop := ∀ u v, a ≤ u → u < m → m ≤ v → v < b → (K (f v) (f u) ↔ R (f v) (f u))

/-- one element on the left -/
theorem merge_left {R : Nat → Nat → Prop} (O : Ord3 R) {f : Nat → Nat} {a b i : Nat} (hs : Srt R f (a + 1) b) (h1 : a + 1 ≤ i) (h2 : i ≤ b) (hlow : ∀ k, a + 1 ≤ k → k < i → R (f k) (f a)) (hup : ∀ k, i ≤ k → k < b → R (f a) (f k)) : Mrg R f (rot f a (a + 1) i) a b := by
  refine ⟨fun x hx => rot_out _ (by omega), rot_perm f (Nat.le_refl _) (by omega) h1 h2, ?_⟩
  have e1 : ∀ x, a ≤ x → x < i - 1 → rot f a (a + 1) i x = f (x + 1) := fun x q1 q2 => by rw [rot_fst _ q1 (by omega) (by omega) h1]; congr 1; omega
  have e2 : rot f a (a + 1) i (i - 1) = f a := by rw [rot_snd _ (by omega) (by omega)]; congr 1; omega
  have e3 : ∀ x, i ≤ x → rot f a (a + 1) i x = f x := fun x q => rot_out _ (.inr q)
  intro x y q1 q2 q3
  rcases Nat.lt_or_ge x (i - 1) with c1 | c1
  · rw [e1 x q1 c1]
    rcases Nat.lt_or_ge y (i - 1) with c2 | c2
    · rw [e1 y (by omega) c2]; exact hs _ _ (by omega) (by omega) (by omega)
    · rcases Nat.lt_or_ge y i with c3 | c3
      · obtain rfl : y = i - 1 := by omega
        rw [e2]; exact hlow _ (by omega) (by omega)
      · rw [e3 y c3]; exact hs _ _ (by omega) (by omega) q3
  · rcases Nat.lt_or_ge x i with c2 | c2
    · obtain rfl : x = i - 1 := by omega
      rw [e2, e3 y (by omega)]; exact hup y (by omega) q3
    · rw [e3 x c2, e3 y (by omega)]; exact hs _ _ (by omega) q2 q3
/-- one element on the right -/
theorem merge_right {R : Nat → Nat → Prop} (O : Ord3 R) {f : Nat → Nat} {a m i : Nat} (hs : Srt R f a m) (h1 : a ≤ i) (h2 : i ≤ m) (hlow : ∀ k, a ≤ k → k < i → R (f k) (f m)) (hup : ∀ k, i ≤ k → k < m → R (f m) (f k)) : Mrg R f (rot f i m (m + 1)) a (m + 1) := by
  refine ⟨fun x hx => rot_out _ (by omega), rot_perm f h1 h2 (by omega) (Nat.le_refl _), ?_⟩
  have e1 : ∀ x, x < i → rot f i m (m + 1) x = f x := fun x q => rot_out _ (.inl q)
  have e2 : rot f i m (m + 1) i = f m := by rw [rot_fst _ (by omega) (by omega) h2 (by omega)]; congr 1; omega
  have e3 : ∀ x, i < x → x ≤ m → rot f i m (m + 1) x = f (x - 1) := fun x q1 q2 => by rw [rot_snd _ (by omega) (by omega)]; congr 1; omega
  intro x y q1 q2 q3
  rcases Nat.lt_or_ge x i with c1 | c1
  · rw [e1 x c1]
    rcases Nat.lt_or_ge y i with c2 | c2
    · rw [e1 y c2]; exact hs _ _ q1 q2 (by omega)
    · rcases Nat.lt_or_ge i y with c3 | c3
      · rw [e3 y c3 (by omega)]; exact hs _ _ q1 (by omega) (by omega)
      · obtain rfl : y = i := by omega
        rw [e2]; exact hlow x q1 c1
  · rcases Nat.lt_or_ge i x with c2 | c2
    · rw [e3 x c2 (by omega), e3 y (by omega) (by omega)]; exact hs _ _ (by omega) (by omega) (by omega)
    · obtain rfl : x = i := by omega
      rw [e2, e3 y q2 (by omega)]; exact hup _ (by omega) (by omega)
/-- THE STEP OF A SYMMETRIC MERGE -/
theorem merge_mid {R : Nat → Nat → Prop} (O : Ord3 R) {f g1 g : Nat → Nat} {a m b mid s : Nat} (ha : a < m) (hb : m < b) (hma : a ≤ mid) (hmb : mid ≤ b)
    (hl : Srt R f a m) (hr : Srt R f m b) (h1 : a ≤ s) (h2 : s ≤ m) (h3 : s ≤ mid) (h4 : m ≤ mid + m - s) (h5 : mid + m - s ≤ b)
    (hlow : s = a ∨ mid + m - s = b ∨ (a < s ∧ mid + m - s < b ∧ R (f (s - 1)) (f (mid + m - s)))) (hup : s = m ∨ s = mid ∨ (s < m ∧ s < mid ∧ R (f (mid + m - s - 1)) (f s)))
    (hg1 : Mrg R (rot f s m (mid + m - s)) g1 a mid) (hg : Mrg R g1 g mid b) : Mrg R f g a b := by
  obtain ⟨e, he⟩ : ∃ e, e = mid + m - s := ⟨_, rfl⟩
  rw [← he] at h4 h5 hlow hup hg1
  have eo : ∀ x, x < s ∨ e ≤ x → rot f s m e x = f x := fun x q => rot_out _ q
  have e1 : ∀ x, s ≤ x → x < mid → rot f s m e x = f (x - s + m) := fun x q1 q2 => rot_fst _ q1 (by omega) h2 h4
  have e2 : ∀ x, mid ≤ x → x < e → rot f s m e x = f (x - (e - m)) := fun x q1 q2 => rot_snd _ (by omega) q2
  have hp1 : (seg g a b).Perm (seg f a b) := by
    rw [seg_split g hma hmb]
    have p1 : (seg g a mid).Perm (seg (rot f s m e) a mid) := by
      rw [seg_congr (f := g) (g := g1) (fun i _ hi => hg.out i (by omega))]; exact hg1.perm
    have p2 : (seg g mid b).Perm (seg (rot f s m e) mid b) := by
      rw [← seg_congr (f := g1) (g := rot f s m e) (fun i hi _ => hg1.out i (by omega))]; exact hg.perm
    refine (p1.append p2).trans ?_
    rw [← seg_split _ hma hmb]
    exact rot_perm f h1 h2 h4 h5
  refine ⟨fun x hx => ?_, hp1, ?_⟩
  · rw [hg.out x (by omega), hg1.out x (by omega), eo x (by omega)]
  · refine Srt.join (hg1.srt.congr fun i _ hi => hg.out i (by omega)) hg.srt fun u v q1 q2 q3 q4 => ?_
    -- an element of the lower half
    have hu : ∃ y, g u = f y ∧ ((a ≤ y ∧ y < s) ∨ (m ≤ y ∧ y < e)) := by
      rw [hg.out u (by omega)]
      obtain ⟨y, y1, y2, y3⟩ := hg1.mem q1 q2
      rw [y3]
      rcases Nat.lt_or_ge y s with c | c
      · exact ⟨y, eo y (.inl c), .inl ⟨y1, c⟩⟩
      · exact ⟨y - s + m, e1 y c y2, .inr ⟨by omega, by omega⟩⟩
    have hv : ∃ y, g v = f y ∧ ((s ≤ y ∧ y < m) ∨ (e ≤ y ∧ y < b)) := by
      obtain ⟨y, y1, y2, y3⟩ := hg.mem q3 q4
      rw [y3, hg1.out y (by omega)]
      rcases Nat.lt_or_ge y e with c | c
      · exact ⟨y - (e - m), e2 y y1 c, .inl ⟨by omega, by omega⟩⟩
      · exact ⟨y, eo y (.inr c), .inr ⟨c, y2⟩⟩
    obtain ⟨y, hy, hy2⟩ := hu
    obtain ⟨z, hz, hz2⟩ := hv
    rw [hy, hz]
    rcases hy2 with ⟨c1, c2⟩ | ⟨c1, c2⟩
    · rcases hz2 with ⟨d1, d2⟩ | ⟨d1, d2⟩
      · exact hl y z c1 (by omega) d2
      · rcases hlow with h | h | ⟨_, h7, h8⟩
        · omega
        · omega
        · have k1 : R (f y) (f e) := by
            rcases Nat.lt_or_ge y (s - 1) with c | c
            · exact O.trans (hl y (s - 1) c1 c (by omega)) h8
            · obtain rfl : y = s - 1 := by omega
              exact h8
          rcases Nat.lt_or_ge e z with c | c
          · exact O.trans k1 (hr e z h4 c d2)
          · obtain rfl : z = e := by omega
            exact k1
    · rcases hz2 with ⟨d1, d2⟩ | ⟨d1, d2⟩
      · rcases hup with h | h | ⟨_, h7, h8⟩
        · omega
        · omega
        · have k1 : R (f y) (f s) := by
            rcases Nat.lt_or_ge y (e - 1) with c | c
            · exact O.trans (hr y (e - 1) c1 c (by omega)) h8
            · obtain rfl : y = e - 1 := by omega
              exact h8
          rcases Nat.lt_or_ge s z with c | c
          · exact O.trans k1 (hl s z h1 c d2)
          · obtain rfl : z = s := by omega
            exact k1
      · exact hr y z c1 (by omega) d2

/-- as a list -/
theorem seg_range (f : Nat → Nat) (n : Nat) : seg f 0 n = (List.range n).map f := by
  unfold seg; rw [Nat.sub_zero, List.range_eq_range']
theorem srt_pairwise {R : Nat → Nat → Prop} {f : Nat → Nat} {n : Nat} (h : Srt R f 0 n) : ((List.range n).map f).Pairwise R := by
  rw [List.pairwise_map]
  rw [List.pairwise_iff_getElem]
  intro i j hi hj hij
  simp at hi hj ⊢
  exact h i j (Nat.zero_le _) hij hj

end Go.Proofs.YtakcjdlliejldaaGreat

/- Contracts: the parts of slices.SortStableFunc at []int: swapRange, rotate, insertionSort. -/
namespace Go.Proofs.YtakcjdlliejldaaGreat
open Go.ChangeShapes Go.WideShapes Go.ChangeAt Go.RowKit
set_option linter.unusedVariables false

theorem ite_is {c : Prop} [Decidable c] {x y : Prop} (h : c) (k : x) : if c then x else y := by rw [if_pos h]; exact k
/-- the values at the first n places -/
def lst (n : Nat) (f : Nat → Nat) : List Int := (List.range n).map fun i => ((f i : Nat) : Int)
theorem lst_length (n : Nat) (f : Nat → Nat) : (lst n f).length = n := by simp [lst]
theorem lst_nth {n : Nat} (f : Nat → Nat) {i : Nat} (h : i < n) : nth (lst n f) i = ((f i : Nat) : Int) := by unfold lst nth; simp [h]
theorem lst_set2 {n : Nat} (f : Nat → Nat) {i j : Nat} (hi : i < n) (hj : j < n) (hij : i ≠ j) : ((lst n f).set i ((f j : Nat) : Int)).set j ((f i : Nat) : Int) = lst n (swp f i j) := by
  apply List.ext_getElem
  · simp [lst]
  · intro k h1 h2
    have hk : k < n := by simpa [lst] using h2
    simp only [List.getElem_set, lst, List.getElem_map, List.getElem_range]
    unfold swp
    by_cases e2 : j = k
    · subst e2; rw [if_pos rfl, if_neg (fun e => hij e.symm), if_pos rfl]
    · rw [if_neg e2]
      by_cases e1 : i = k
      · subst e1; rw [if_pos rfl, if_pos rfl]
      · rw [if_neg e1, if_neg (fun e => e1 e.symm), if_neg (fun e => e2 e.symm)]
theorem swp_comm (f : Nat → Nat) {i j : Nat} (hij : i ≠ j) : swp f j i = swp f i j := by
  funext x; unfold swp
  by_cases e1 : x = i
  · subst e1; rw [if_pos rfl, if_neg hij, if_pos rfl]
  · by_cases e2 : x = j
    · subst e2; rw [if_pos rfl, if_neg e1, if_pos rfl]
    · rw [if_neg e2, if_neg e1, if_neg e1, if_neg e2]
/-- two places of a row swapped -/
theorem swap_row {w : World} {b o n c : Nat} {f : Nat → Nat} (h : IntS w b (b + 1) (.slice (some ⟨b, o, none⟩) n c) (lst n f)) {i j : Nat} (hi : i < n) (hj : j < n) (hij : i ≠ j) :
    IntS ((w.setCell ⟨b, o + i, none⟩ (.int .i64 ((f j : Nat) : Int))).setCell ⟨b, o + j, none⟩ (.int .i64 ((f i : Nat) : Int))) b (b + 1) (.slice (some ⟨b, o, none⟩) n c) (lst n (swp f i j)) := by
  rw [← lst_set2 f hi hj hij]
  exact IntS.set (IntS.set h (by rw [lst_length]; exact hi) _) (by rw [List.length_set, lst_length]; exact hj) _
theorem grownBy_drew {a w : World} {row : Option Nat} (h : a.grownBy w row) : a.grownBy w.drew row := ⟨h.os, h.tape, h.output, h.size, h.block⟩
theorem swap_grown (w : World) (b o1 o2 : Nat) (u v : Value) : w.grownBy ((w.setCell ⟨b, o1, none⟩ u).setCell ⟨b, o2, none⟩ v) (some b) :=
  grownBy_setCell (grown_set w ⟨b, o1, none⟩ u) (p := ⟨b, o2, none⟩) rfl v


set_option maxHeartbeats 4000000 in
set_option maxRecDepth 100000 in
theorem swapRange_any (b o n c : Nat) (f : Nat → Nat) (x y m : Nat) (cv : Value) (w : World) (h : IntS w b (b + 1) (.slice (some ⟨b, o, none⟩) n c) (lst n f)) (hb : b < w.heap.size) (hxy : x + m ≤ y) (hyn : y + m ≤ n) (hn : n ≤ 1000000) :
    Calls Tryz.prog 129 #[.slice (some ⟨b, o, none⟩) n c, .int .i64 (x : Nat), .int .i64 (y : Nat), .int .i64 (m : Nat), cv] w fun e w' => e = .returned (.tuple #[]) ∧ IntS w' b (b + 1) (.slice (some ⟨b, o, none⟩) n c) (lst n (swpR f x y m)) ∧ w.grownBy w' (some b) := by
  have H0 := Lib.hid h; clear h
  go_enter Tryz.func129, Tryz.ntmps129
  go_wp2_with fail
  go_loopw [10] (fun iv wr => ∃ i : Nat, i ≤ m ∧ iv = .int .i64 i ∧ Hid (IntS wr b (b + 1) (.slice (some ⟨b, o, none⟩) n c) (lst n (swpR f x y i))) ∧ Hid (w.grownBy wr (some b))) (fun iv _ => m - (intOf iv).toNat)
  case atStart => exact ⟨0, Nat.zero_le _, rfl, by rw [swpR_zero]; exact H0, Lib.hid (World.grownBy.refl _ _)⟩
  case round =>
    obtain ⟨i, hi, rfl, HI, HG⟩ := hrel
    have hsr := HG.out.size
    by_cases him : i < m
    case neg =>
      obtain rfl : i = m := by omega
      go_wp2_with fail
      (first | go_end0 | ((try simp only [Exit.inBlock, Exit.then]); refine bodyPost_ret (results_none rfl _ _ _) rfl ?_))
      exact ⟨rfl, HI.out, HG.out⟩
    obtain ⟨wp, rfl⟩ : ∃ wp : World, wp = wr := ⟨_, rfl⟩
    have himi : (i : Int) < m := by omega
    obtain ⟨g, HGF⟩ : ∃ g, Hid (swpR f x y i = g) := ⟨_, Lib.hid rfl⟩
    rw [HGF.out] at HI
    have HSW0 := Lib.hid (show swp g (x + i) (y + i) = swpR f x y (i + 1) by rw [← HGF.out]; exact swpR_succ f (by omega))
    obtain ⟨xi, HXI⟩ : ∃ k, Hid (x + i = k) := ⟨_, Lib.hid rfl⟩
    obtain ⟨yi, HYI⟩ : ∃ k, Hid (y + i = k) := ⟨_, Lib.hid rfl⟩
    have HSW := Lib.hid (show swp g xi yi = swpR f x y (i + 1) by rw [← HXI.out, ← HYI.out]; exact HSW0.out)
    clear HSW0
    obtain ⟨p, HP⟩ : ∃ p : Nat, Hid (g yi = p) := ⟨_, Lib.hid rfl⟩
    obtain ⟨q, HQ⟩ : ∃ q : Nat, Hid (g xi = q) := ⟨_, Lib.hid rfl⟩
    have hwx : IntKind.i64.wrap ((x : Int) + (i : Int)) = (xi : Int) := by rw [IntWalk.i64_in _ (by omega)]; have := HXI.out; omega
    have hwy : IntKind.i64.wrap ((y : Int) + (i : Int)) = (yi : Int) := by rw [IntWalk.i64_in _ (by omega)]; have := HYI.out; omega
    have hxn : xi < n := by have := HXI.out; omega
    have hyn3 : yi < n := by have := HYI.out; omega
    have hxy2 : xi ≠ yi := by have := HXI.out; have := HYI.out; omega
    have hxn2 : (xi : Int) < n := by omega
    have hyn2 : (yi : Int) < n := by omega
    obtain ⟨y1, y2⟩ := IntS.at_ HI.out (j := yi) (by rw [lst_length]; omega)
    obtain ⟨x1, x2⟩ := IntS.at_ HI.out (j := xi) (by rw [lst_length]; omega)
    rw [lst_nth _ hyn3, HP.out] at y1
    rw [lst_nth _ hxn, HQ.out] at x1
    have hne : o + xi ≠ o + yi := by omega
    go_wp2_with fail
    go_region
    have HIN := Lib.hid (show IntS (((wp.setCell ⟨b, o + xi, none⟩ (.int .i64 p)).setCell ⟨b, o + yi, none⟩ (.int .i64 q)).drew) b (b + 1) (.slice (some ⟨b, o, none⟩) n c) (lst n (swpR f x y (i + 1))) by
      rw [← HSW.out]
      have := swap_row HI.out hxn hyn3 hxy2
      rw [HP.out, HQ.out] at this
      exact this)
    have HGN := Lib.hid (grownBy_drew (grownBy_trans HG.out (swap_grown wp b (o + xi) (o + yi) (.int .i64 p) (.int .i64 q))))
    go_wp2_with fail
    go_roundw
    case rel => exact ⟨i + 1, by omega, by go_num, HIN, HGN⟩
    case measure => simp [intOf]; omega


set_option maxHeartbeats 4000000 in
set_option maxRecDepth 100000 in
theorem rotate_any (b o n c : Nat) (f : Nat → Nat) (A M B : Nat) (cv : Value) (w : World) (h : IntS w b (b + 1) (.slice (some ⟨b, o, none⟩) n c) (lst n f)) (hb : b < w.heap.size) (hAM : A < M) (hMB : M < B) (hB : B ≤ n) (hn : n ≤ 1000000) :
    Calls Tryz.prog 124 #[.slice (some ⟨b, o, none⟩) n c, .int .i64 (A : Nat), .int .i64 (M : Nat), .int .i64 (B : Nat), cv] w fun e w' => e = .returned (.tuple #[]) ∧ IntS w' b (b + 1) (.slice (some ⟨b, o, none⟩) n c) (lst n (rot f A M B)) ∧ w.grownBy w' (some b) := by
  have H0 := Lib.hid h; clear h
  obtain ⟨i0, HI0⟩ : ∃ k, Hid (M - A = k) := ⟨_, Lib.hid rfl⟩
  obtain ⟨j0, HJ0⟩ : ∃ k, Hid (B - M = k) := ⟨_, Lib.hid rfl⟩
  have hw1 : IntKind.i64.wrap ((M : Int) - (A : Int)) = (i0 : Int) := by rw [IntWalk.i64_in _ (by omega)]; have := HI0.out; omega
  have hw2 : IntKind.i64.wrap ((B : Int) - (M : Int)) = (j0 : Int) := by rw [IntWalk.i64_in _ (by omega)]; have := HJ0.out; omega
  have HST := Lib.hid (show rot f (M - i0) M (M + j0) = rot f A M B by rw [show M - i0 = A by have := HI0.out; omega, show M + j0 = B by have := HJ0.out; omega])
  have hi0 : 1 ≤ i0 ∧ i0 ≤ M := by have := HI0.out; omega
  have hj0 : 1 ≤ j0 ∧ M + j0 ≤ n := by have := HJ0.out; omega
  obtain ⟨T, HT⟩ : ∃ T, Hid (rot f A M B = T) := ⟨_, Lib.hid rfl⟩
  rw [HT.out] at HST ⊢
  go_enter Tryz.func124, Tryz.ntmps124
  go_wp2_with fail
  go_loopw [10, 11] (fun iv jv wr => ∃ (i j : Nat) (F : Nat → Nat), 1 ≤ i ∧ i ≤ M ∧ 1 ≤ j ∧ M + j ≤ n ∧ iv = .int .i64 i ∧ jv = .int .i64 j ∧ Hid (rot F (M - i) M (M + j) = T) ∧ Hid (IntS wr b (b + 1) (.slice (some ⟨b, o, none⟩) n c) (lst n F)) ∧ Hid (w.grownBy wr (some b))) (fun iv jv _ => (intOf iv).toNat + (intOf jv).toNat)
  case atStart => exact ⟨i0, j0, f, hi0.1, hi0.2, hj0.1, hj0.2, rfl, rfl, HST, H0, Lib.hid (World.grownBy.refl _ _)⟩
  case round =>
    obtain ⟨i, j, F, hi1, hi2, hj1, hj2, rfl, rfl, HR, HI, HG⟩ := hrel
    have hsr := HG.out.size
    obtain ⟨wq, rfl⟩ : ∃ wq : World, wq = wr := ⟨_, rfl⟩
    obtain ⟨x, HX⟩ : ∃ x, Hid (M - i = x) := ⟨_, Lib.hid rfl⟩
    have hwx : IntKind.i64.wrap ((M : Int) - (i : Int)) = (x : Int) := by rw [IntWalk.i64_in _ (by omega)]; have := HX.out; omega
    have hxi : x + i = M := by have := HX.out; omega
    have HXI := Lib.hid hxi; clear hxi
    rw [HX.out] at HR
    by_cases hij : i = j
    · subst hij
      have hne : ((i : Int) != (i : Int)) = false := by simp
      have HE := Lib.hid (show swpR F x M i = T by rw [← HR.out, ← HX.out]; exact rot_eq F hi2)
      go_wp2_with fail
      refine (swapRange_any b o n c F x M i cv _ HI.out (by omega) (by have := HXI.out; omega) (by omega) hn).mono ?_
      rintro e w1 ⟨rfl, h1, hg1⟩
      rw [HE.out] at h1
      have HH := Lib.hid h1; clear h1
      have HG1 := Lib.hid (grownBy_trans HG.out hg1); clear hg1
      go_wp2_with fail
      (first | go_end0 | ((try simp only [Exit.inBlock, Exit.then]); refine bodyPost_ret (results_none rfl _ _ _) rfl ?_))
      exact ⟨rfl, HH.out, HG1.out⟩
    have hne : ((i : Int) != (j : Int)) = true := by simp; omega
    by_cases hlt : j < i
    · have hlti : (j : Int) < (i : Int) := by omega
      have HE := Lib.hid (rot_gt F hlt hi2)
      rw [HX.out] at HE
      obtain ⟨d, HD⟩ : ∃ d, Hid (i - j = d) := ⟨_, Lib.hid rfl⟩
      rw [HD.out] at HE
      have hwd : IntKind.i64.wrap ((i : Int) - (j : Int)) = (d : Int) := by rw [IntWalk.i64_in _ (by omega)]; have := HD.out; omega
      go_wp2_with fail
      refine (swapRange_any b o n c F x M j cv _ HI.out (by omega) (by have := HXI.out; omega) (by omega) hn).mono ?_
      rintro e w1 ⟨rfl, h1, hg1⟩
      have HH := Lib.hid h1; clear h1
      have HG1 := Lib.hid (grownBy_trans HG.out hg1); clear hg1
      have hd1 : 1 ≤ d ∧ d ≤ i ∧ d < i := by have := HD.out; omega
      go_wp2_with fail
      go_roundw
      case rel => exact ⟨d, j, swpR F x M j, hd1.1, by omega, hj1, hj2, by go_num, rfl, Lib.hid (HE.out.trans HR.out), HH, HG1⟩
      case measure => simp [intOf]; omega
    · have hlti : ¬ (j : Int) < (i : Int) := by omega
      have HE := Lib.hid (rot_lt F (show i < j by omega) hi2)
      rw [HX.out] at HE
      obtain ⟨d, HD⟩ : ∃ d, Hid (j - i = d) := ⟨_, Lib.hid rfl⟩
      rw [HD.out] at HE
      have hwd : IntKind.i64.wrap ((j : Int) - (i : Int)) = (d : Int) := by rw [IntWalk.i64_in _ (by omega)]; have := HD.out; omega
      obtain ⟨s, HS⟩ : ∃ s, Hid (M + j = s) := ⟨_, Lib.hid rfl⟩
      have hws : IntKind.i64.wrap ((M : Int) + (j : Int)) = (s : Int) := by rw [IntWalk.i64_in _ (by omega)]; have := HS.out; omega
      obtain ⟨t, HTT⟩ : ∃ t, Hid (s - i = t) := ⟨_, Lib.hid rfl⟩
      have hwt : IntKind.i64.wrap ((s : Int) - (i : Int)) = (t : Int) := by rw [IntWalk.i64_in _ (by have := HS.out; omega)]; have := HTT.out; have := HS.out; omega
      rw [HS.out, HTT.out] at HE
      go_wp2_with fail
      refine (swapRange_any b o n c F x t i cv _ HI.out (by omega) (by have := HXI.out; have := HTT.out; have := HS.out; omega) (by have := HTT.out; have := HS.out; omega) hn).mono ?_
      rintro e w1 ⟨rfl, h1, hg1⟩
      have HH := Lib.hid h1; clear h1
      have HG1 := Lib.hid (grownBy_trans HG.out hg1); clear hg1
      have hd1 : 1 ≤ d ∧ d < j := by have := HD.out; omega
      go_wp2_with fail
      go_roundw
      case rel => exact ⟨i, d, swpR F x t i, hi1, hi2, hd1.1, by omega, rfl, by go_num, Lib.hid (by rw [HX.out, HE.out, ← HS.out]; exact HR.out), HH, HG1⟩
      case measure => simp [intOf]; omega


/-- the function value compares the numbers below n by the key's order, in every world that differs from w0 in block b alone -/
def CmpC (fid : Nat) (caps : Array Value) (w0 : World) (b n : Nat) (zf : Nat → Nat → Int) : Prop :=
  ∀ (W : World) (x y : Nat), x < n → y < n → w0.grownBy W (some b) → Calls Tryz.prog fid (#[.int .i64 (x : Nat), .int .i64 (y : Nat)] ++ caps) W fun e w' => e = .returned (.int .i64 (zf x y)) ∧ Below W.heap.size W w'
theorem CmpC.far {fid : Nat} {caps : Array Value} {w0 w1 : World} {b n : Nat} {zf : Nat → Nat → Int} (h : CmpC fid caps w0 b n zf) (hg : w0.grownBy w1 (some b)) : CmpC fid caps w1 b n zf := fun W x y hx hy h2 => h W x y hx hy (grownBy_trans hg h2)
theorem Mrg.trans {R : Nat → Nat → Prop} {f g h : Nat → Nat} {a i c : Nat} (h1 : Mrg R f g a i) (hi : i ≤ c) (ha : a ≤ i) (h2 : Mrg R g h a c) : Mrg R f h a c :=
  ⟨fun x hx => by rw [h2.out x hx, h1.out x (by omega)], h2.perm.trans (by
    rw [seg_split g ha hi, seg_split f ha hi, seg_congr (f := g) (g := f) (a := i) (b := c) (fun k hk _ => h1.out k (.inr hk))]
    exact List.Perm.append_right _ h1.perm), h2.srt⟩
theorem Mrg.lt {R : Nat → Nat → Prop} {f g : Nat → Nat} {a c n : Nat} (h : Mrg R f g a c) (hf : ∀ i, i < n → f i < n) (hc : c ≤ n) : ∀ i, i < n → g i < n := fun i hi => by
  by_cases h1 : i < a ∨ c ≤ i
  · rw [h.out i h1]; exact hf i hi
  · obtain ⟨y, a1, a2, a3⟩ := h.mem (x := i) (by omega) (by omega)
    rw [a3]; exact hf y (by omega)
theorem rot_lt_n {f : Nat → Nat} {A M B n : Nat} (hf : ∀ i, i < n → f i < n) (h1 : A ≤ M) (h2 : M ≤ B) (h3 : B ≤ n) : ∀ i, i < n → rot f A M B i < n := fun i hi => by
  unfold rot
  split
  · exact hf _ hi
  · split
    · exact hf _ hi
    · split
      · exact hf _ (by omega)
      · exact hf _ (by omega)


set_option maxHeartbeats 4000000 in
set_option maxRecDepth 100000 in
theorem insertion_any (fid : Nat) (caps : Array Value) (eg : ∀ args w, (callFunc fid args).run Tryz.prog w = .ok (.enter fid args) w) (zf : Nat → Nat → Int) (R : Nat → Nat → Prop) (O : Ord3 R) (b o n c : Nat) (f : Nat → Nat) (A B : Nat) (w : World) (h : IntS w b (b + 1) (.slice (some ⟨b, o, none⟩) n c) (lst n f)) (hb : b < w.heap.size) (hAB : A ≤ B) (hB : B ≤ n) (hn : n ≤ 1000000)
    (hf : ∀ i, i < n → f i < n) (hC : CmpC fid caps w b n zf) (hK : ∀ i j, A ≤ j → j < i → i < B → ((zf (f i) (f j) < 0 ↔ R (f i) (f j)) ∧ f i ≠ f j)) :
    Calls Tryz.prog 112 #[.slice (some ⟨b, o, none⟩) n c, .int .i64 (A : Nat), .int .i64 (B : Nat), .func (.func fid) #[] caps] w fun e w' => ∃ g, e = .returned (.tuple #[]) ∧ Mrg R f g A B ∧ IntS w' b (b + 1) (.slice (some ⟨b, o, none⟩) n c) (lst n g) ∧ w.grownBy w' (some b) := by
  have H0 := Lib.hid h; clear h
  have HC := Lib.hid hC; clear hC
  have HK := Lib.hid hK; clear hK
  have HO := Lib.hid O; clear O
  have HF := Lib.hid hf; clear hf
  have hwA : IntKind.i64.wrap ((A : Int) + 1) = ((A + 1 : Nat) : Int) := by rw [IntWalk.i64_in _ (by omega)]; omega
  obtain ⟨A1, HA1⟩ : ∃ k, Hid (A + 1 = k) := ⟨_, Lib.hid rfl⟩
  rw [HA1.out] at hwA
  have hA1 : A < A1 := by have := HA1.out; omega
  have HMS := Lib.hid (show Mrg R f f A A1 from Mrg.refl (Srt.one f (by have := HA1.out; omega)))
  go_enter Tryz.func112, Tryz.ntmps112
  go_wp2_with fail
  go_loopw [8] (fun iv wr => ∃ (i : Nat) (g : Nat → Nat), A < i ∧ (i ≤ B ∨ g = f) ∧ i ≤ n + 1 ∧ iv = .int .i64 i ∧ Hid (Mrg R f g A i) ∧ Hid (IntS wr b (b + 1) (.slice (some ⟨b, o, none⟩) n c) (lst n g)) ∧ Hid (w.grownBy wr (some b))) (fun iv _ => n + 2 - (intOf iv).toNat)
  case atStart => exact ⟨A1, f, hA1, .inr rfl, by have := HA1.out; omega, rfl, HMS, H0, Lib.hid (World.grownBy.refl _ _)⟩
  case round =>
    obtain ⟨i, g, hAi, hor, hin, rfl, HM, HI, HG⟩ := hrel
    have hsr := HG.out.size
    by_cases hiB : i < B
    case neg =>
      have HFIN : Mrg R f g A B := by
        rcases hor with h1 | h1
        · obtain rfl : i = B := by omega
          exact HM.out
        · subst h1
          exact Mrg.refl (HM.out.srt.le (Nat.le_refl _) (by omega))
      have HFF := Lib.hid HFIN; clear HFIN
      have hiBi : ¬ (i : Int) < (B : Int) := by omega
      go_wp2_with fail
      (first | go_end0 | ((try simp only [Exit.inBlock, Exit.then]); refine bodyPost_ret (results_none rfl _ _ _) rfl ?_))
      exact ⟨rfl, g, HFF.out, HI.out, HG.out⟩
    have hiBi : (i : Int) < (B : Int) := by omega
    obtain ⟨wq, rfl⟩ : ∃ wq : World, wq = wr := ⟨_, rfl⟩
    have HGI := Lib.hid (show g i = f i from HM.out.out i (.inr (Nat.le_refl _)))
    have HGN := Lib.hid (HM.out.lt HF.out (show i ≤ n by omega))
    go_wp2_with fail
    go_loopw [9] (fun jv wr => ∃ j : Nat, A ≤ j ∧ j ≤ i ∧ jv = .int .i64 j ∧ Hid (∀ k, j ≤ k → k < i → R (g i) (g k)) ∧ Hid (IntS wr b (b + 1) (.slice (some ⟨b, o, none⟩) n c) (lst n (rot g j i (i + 1)))) ∧ Hid (w.grownBy wr (some b))) (fun jv _ => (intOf jv).toNat)
    case atStart => exact ⟨i, by omega, Nat.le_refl _, rfl, Lib.hid (fun k h1 h2 => by omega), by rw [rot_id_left]; exact HI, HG⟩
    case round =>
      clear HG HI
      obtain ⟨j, hAj, hji, rfl, HUP, HI, HG⟩ := hrel
      have hsr2 := HG.out.size
      obtain ⟨ws, rfl⟩ : ∃ ws : World, ws = wr := ⟨_, rfl⟩
      have hfin : (∀ k, A ≤ k → k < j → R (g k) (g i)) → Mrg R f (rot g j i (i + 1)) A (i + 1) := fun hl => HM.out.trans (by omega) (by omega) (merge_right HO.out HM.out.srt hAj hji hl HUP.out)
      have HFI := Lib.hid hfin; clear hfin
      by_cases hj0 : j = A
      · subst hj0
        have hd : decide ((j : Int) < (j : Int)) = false := by simp
        have HMN := Lib.hid (HFI.out (fun k h1 h2 => by omega))
        go_wp2_with fail
        refine wp_region_ext (by kernel_rfl) (by kernel_rfl) ?_
        repeat (go_big_quiet_step (fail))
        refine wpQuiet_nil ?_
        rintro w1 ⟨p, rfl⟩
        obtain ⟨W2, HW2⟩ : ∃ W, Hid (W = ext ws p) := ⟨_, Lib.hid rfl⟩
        rw [← HW2.out]
        have hg2 : ws.grownBy W2 none := by rw [HW2.out]; exact grown_below (ext_below _ _)
        clear HW2
        have HIN := Lib.hid (IntS.still HI.out hg2 (by omega))
        have HGN2 := Lib.hid (grownBy_trans HG.out (grown_any hg2))
        go_wp2_with fail
        go_roundw
        case rel => exact ⟨i + 1, rot g j i (i + 1), by omega, .inl (by omega), by omega, by go_num, HMN, HIN, HGN2⟩
        case measure => simp [intOf]; omega
      have hjA : A < j := by omega
      have hjAi : (A : Int) < (j : Int) := by omega
      have hd : decide ((A : Int) < (j : Int)) = true := decide_eq_true hjAi
      obtain ⟨j1, HJ1⟩ : ∃ k, Hid (j = k + 1) := ⟨j - 1, Lib.hid (by omega)⟩
      have hj1 : j1 < j ∧ A ≤ j1 ∧ j = j1 + 1 := by have := HJ1.out; omega
      have hwj : IntKind.i64.wrap ((j : Int) - 1) = (j1 : Int) := by rw [IntWalk.i64_in _ (by omega)]; omega
      have HJJ := Lib.hid hj1
      have hj1j : j1 < j := hj1.1
      have hj1A : A ≤ j1 := hj1.2.1
      clear hj1
      have hjn : (j : Int) < (n : Int) := by omega
      have hj1n : (j1 : Int) < (n : Int) := by omega
      obtain ⟨F, HFF⟩ : ∃ F, Hid (rot g j i (i + 1) = F) := ⟨_, Lib.hid rfl⟩
      obtain ⟨p, HP⟩ : ∃ p : Nat, Hid (g i = p) := ⟨_, Lib.hid rfl⟩
      obtain ⟨q, HQ⟩ : ∃ q : Nat, Hid (g j1 = q) := ⟨_, Lib.hid rfl⟩
      have HFP := Lib.hid (show F j = p by rw [← HFF.out, ← HP.out, rot_fst _ (Nat.le_refl _) (by omega) hji (by omega)]; congr 1; omega)
      have HFQ := Lib.hid (show F j1 = q by rw [← HFF.out, ← HQ.out]; exact rot_out _ (.inl hj1j))
      have hpn : p < n := by rw [← HP.out]; exact HGN.out i (by omega)
      have hqn : q < n := by rw [← HQ.out]; exact HGN.out j1 (by omega)
      rw [HFF.out] at HI
      obtain ⟨y1, y2⟩ := IntS.at_ HI.out (j := j) (by rw [lst_length]; omega)
      obtain ⟨x1, x2⟩ := IntS.at_ HI.out (j := j1) (by rw [lst_length]; omega)
      rw [lst_nth _ (by omega), HFP.out] at y1
      rw [lst_nth _ (by omega), HFQ.out] at x1
      obtain ⟨z, HZ⟩ : ∃ z, Hid (zf p q = z) := ⟨_, Lib.hid rfl⟩
      have HKK := Lib.hid (show (z < 0 ↔ R p q) ∧ p ≠ q by
        obtain ⟨u, u1, u2, u3⟩ := HM.out.mem (x := j1) hj1A (by omega)
        have := HK.out i u u1 u2 hiB
        rw [← u3, HQ.out, ← HGI.out, HP.out, HZ.out] at this
        exact this)
      have HCW := Lib.hid (fun pp => HC.out (ext ws pp) p q hpn hqn (grownBy_trans HG.out (grown_any (grown_below (ext_below ws pp)))))
      rw [HZ.out] at HCW
      have ey : ∀ pp, (ext ws pp).cell? ⟨b, o + j, none⟩ = some (.int .i64 (p : Nat)) := ext_cell ws (a := ⟨b, o + j, none⟩) (by show b < _; omega) y1
      have ex : ∀ pp, (ext ws pp).cell? ⟨b, o + j1, none⟩ = some (.int .i64 (q : Nat)) := ext_cell ws (a := ⟨b, o + j1, none⟩) (by show b < _; omega) x1
      clear y1 y2 x1 x2
      have region4 : ∀ W2 : World, ws.grownBy W2 none → IntS W2 b (b + 1) (.slice (some ⟨b, o, none⟩) n c) (lst n F) := fun W2 hg2 => IntS.still HI.out hg2 (by omega)
      have HR4 := Lib.hid region4; clear region4
      by_cases hz : z < 0
      · have hzd : decide (z < 0) = true := decide_eq_true hz
        have HRR := Lib.hid (HKK.out.1.1 hz)
        go_wp2_with fail
        refine wp_region_ext (by kernel_rfl) (by kernel_rfl) ?_
        repeat (go_big_quiet_step ((first | (go_at_fn fid; exact ext_call (HCW.out _)))))
        refine wpQuiet_nil ?_
        rintro w1 ⟨pp, rfl⟩
        clear ey ex
        obtain ⟨W2, HW2⟩ : ∃ W, Hid (W = ext ws pp) := ⟨_, Lib.hid rfl⟩
        rw [← HW2.out]
        have hg2 : ws.grownBy W2 none := by rw [HW2.out]; exact grown_below (ext_below _ _)
        clear HW2
        have HIN := Lib.hid (HR4.out W2 hg2)
        have HGN2 := Lib.hid (grownBy_trans HG.out (grown_any hg2))
        obtain ⟨y1, y2⟩ := IntS.at_ HIN.out (j := j) (by rw [lst_length]; omega)
        obtain ⟨x1, x2⟩ := IntS.at_ HIN.out (j := j1) (by rw [lst_length]; omega)
        rw [lst_nth _ (by omega), HFP.out] at y1
        rw [lst_nth _ (by omega), HFQ.out] at x1
        have hne : o + j ≠ o + j1 := by omega
        go_wp2_with fail
        go_region
        have HIS := Lib.hid (show IntS (((W2.setCell ⟨b, o + j, none⟩ (.int .i64 (q : Nat))).setCell ⟨b, o + j1, none⟩ (.int .i64 (p : Nat))).drew) b (b + 1) (.slice (some ⟨b, o, none⟩) n c) (lst n (rot g j1 i (i + 1))) by
          have := swap_row HIN.out (i := j) (j := j1) (by omega) (by omega) (by omega)
          rw [HFP.out, HFQ.out] at this
          have e : swp F j j1 = rot g j1 i (i + 1) := by
            rw [← HFF.out, show j1 = j - 1 by have := HJJ.out; omega]; exact rot_down g (by omega) hji
          rw [e] at this
          exact this)
        have HGS := Lib.hid (grownBy_drew (grownBy_trans HGN2.out (swap_grown W2 b (o + j) (o + j1) (.int .i64 (q : Nat)) (.int .i64 (p : Nat)))))
        have HUN := Lib.hid (show ∀ k, j1 ≤ k → k < i → R (g i) (g k) from fun k h1 h2 => by
          rcases Nat.lt_or_ge k j with h3 | h3
          · obtain rfl : k = j1 := by have := HJJ.out; omega
            rw [HP.out, HQ.out]; exact HRR.out
          · exact HUP.out k h3 h2)
        go_wp2_with fail
        go_roundw
        case rel => exact ⟨j1, hj1A, by omega, by go_num, HUN, HIS, HGS⟩
        case measure => simp [intOf]; omega
      · have hzd : decide (z < 0) = false := decide_eq_false hz
        have HMN := Lib.hid (HFI.out (fun k h1 h2 => by
          have hq : R (g j1) (g i) := by
            rw [HP.out, HQ.out]
            have h3 : ¬ R p q := fun h => hz (HKK.out.1.2 h)
            by_cases h4 : R q p
            · exact h4
            · exact absurd (HO.out.tri h3 h4) HKK.out.2
          rcases Nat.lt_or_ge k j1 with h3 | h3
          · exact HO.out.trans (HM.out.srt k j1 h1 h3 (by omega)) hq
          · obtain rfl : k = j1 := by have := HJJ.out; omega
            exact hq))
        rw [HFF.out] at HMN
        go_wp2_with fail
        refine wp_region_ext (by kernel_rfl) (by kernel_rfl) ?_
        repeat (go_big_quiet_step ((first | (go_at_fn fid; exact ext_call (HCW.out _)))))
        refine wpQuiet_nil ?_
        rintro w1 ⟨pp, rfl⟩
        clear ey ex
        obtain ⟨W2, HW2⟩ : ∃ W, Hid (W = ext ws pp) := ⟨_, Lib.hid rfl⟩
        rw [← HW2.out]
        have hg2 : ws.grownBy W2 none := by rw [HW2.out]; exact grown_below (ext_below _ _)
        clear HW2
        have HIN := Lib.hid (HR4.out W2 hg2)
        have HGN2 := Lib.hid (grownBy_trans HG.out (grown_any hg2))
        go_wp2_with fail
        go_roundw
        case rel => exact ⟨i + 1, F, by omega, .inl (by omega), by omega, by go_num, HMN, HIN, HGN2⟩
        case measure => simp [intOf]; omega

end Go.Proofs.YtakcjdlliejldaaGreat

/- Contracts: the symmetric merge of slices.SortStableFunc at []int. -/
namespace Go.Proofs.YtakcjdlliejldaaGreat
open Go.ChangeShapes Go.WideShapes Go.ChangeAt Go.RowKit
set_option linter.unusedVariables false

theorem sym_left {R : Nat → Nat → Prop} {f : Nat → Nat} {A M B mid s : Nat} (hl : Srt R f A M) (hr : Srt R f M B) (h1 : A ≤ s) (h2 : s ≤ M) (h3 : s ≤ mid) (h4 : M ≤ mid + M - s) (h5 : mid + M - s ≤ B) :
    Srt R (rot f s M (mid + M - s)) A s ∧ Srt R (rot f s M (mid + M - s)) s mid ∧ ∀ u v, A ≤ u → u < s → s ≤ v → v < mid → ∃ v', M ≤ v' ∧ v' < B ∧ rot f s M (mid + M - s) v = f v' ∧ rot f s M (mid + M - s) u = f u := by
  refine ⟨(hl.le (Nat.le_refl _) h2).congr fun i _ hi => rot_out _ (.inl hi), fun i j a1 a2 a3 => ?_, fun u v a1 a2 a3 a4 => ⟨v - s + M, by omega, by omega, rot_fst _ a3 (by omega) h2 h4, rot_out _ (.inl a2)⟩⟩
  rw [rot_fst _ a1 (by omega) h2 h4, rot_fst _ (by omega) (by omega) h2 h4]
  exact hr _ _ (by omega) (by omega) (by omega)
theorem sym_right {R : Nat → Nat → Prop} {f : Nat → Nat} {A M B mid s : Nat} (hl : Srt R f A M) (hr : Srt R f M B) (h1 : A ≤ s) (h2 : s ≤ M) (h3 : s ≤ mid) (h4 : M ≤ mid + M - s) (h5 : mid + M - s ≤ B) :
    Srt R (rot f s M (mid + M - s)) mid (mid + M - s) ∧ Srt R (rot f s M (mid + M - s)) (mid + M - s) B ∧ ∀ u v, mid ≤ u → u < mid + M - s → mid + M - s ≤ v → v < B → ∃ u', A ≤ u' ∧ u' < M ∧ rot f s M (mid + M - s) u = f u' ∧ rot f s M (mid + M - s) v = f v := by
  have e2 : ∀ x, mid ≤ x → x < mid + M - s → rot f s M (mid + M - s) x = f (x - (mid + M - s - M)) := fun x q1 q2 => rot_snd _ (by omega) q2
  refine ⟨fun i j a1 a2 a3 => ?_, (hr.le h4 (Nat.le_refl _)).congr fun i hi _ => rot_out _ (.inr hi), fun u v a1 a2 a3 a4 => ⟨u - (mid + M - s - M), by omega, by omega, e2 u a1 a2, rot_out _ (.inr a3)⟩⟩
  rw [e2 i a1 (by omega), e2 j (by omega) a3]
  exact hl _ _ (by omega) (by omega) (by omega)
theorem half_lt {i j : Nat} (h : i < j) : i ≤ (i + j) / 2 ∧ (i + j) / 2 < j := by omega

set_option maxHeartbeats 8000000 in
set_option maxRecDepth 100000 in
theorem symMerge_any (fid : Nat) (caps : Array Value) (eg : ∀ args w, (callFunc fid args).run Tryz.prog w = .ok (.enter fid args) w) (zf : Nat → Nat → Int) (R : Nat → Nat → Prop) (O : Ord3 R) (b o n c : Nat) (hn : n ≤ 1000000) :
    ∀ (sz : Nat) (f : Nat → Nat) (A M B : Nat) (w : World) (hsz : B - A ≤ sz) (h : IntS w b (b + 1) (.slice (some ⟨b, o, none⟩) n c) (lst n f)) (hb : b < w.heap.size) (hAM : A < M) (hMB : M < B) (hB : B ≤ n)
      (hf : ∀ i, i < n → f i < n) (hC : CmpC fid caps w b n zf) (hl : Srt R f A M) (hr : Srt R f M B) (hK : ∀ u v, A ≤ u → u < M → M ≤ v → v < B → ((zf (f v) (f u) < 0 ↔ R (f v) (f u)) ∧ f v ≠ f u)),
    Calls Tryz.prog 113 #[.slice (some ⟨b, o, none⟩) n c, .int .i64 (A : Nat), .int .i64 (M : Nat), .int .i64 (B : Nat), .func (.func fid) #[] caps] w fun e w' => ∃ g, e = .returned (.tuple #[]) ∧ Mrg R f g A B ∧ IntS w' b (b + 1) (.slice (some ⟨b, o, none⟩) n c) (lst n g) ∧ w.grownBy w' (some b) := by
  intro sz
  induction sz with
  | zero => intro f A M B w hsz; intros; omega
  | succ sz ih =>
  intro f A M B w hsz h hb hAM hMB hB hf hC hl hr hK
  have H0 := Lib.hid h; clear h
  have HC := Lib.hid hC; clear hC
  have HK := Lib.hid hK; clear hK
  have HO := Lib.hid O; clear O
  have HF := Lib.hid hf; clear hf
  have HL := Lib.hid hl; clear hl
  have HRT := Lib.hid hr; clear hr
  have IH := Lib.hid ih; clear ih
  have HCMP := Lib.hid (fun (W : World) (hW : w.grownBy W (some b)) (u v : Nat) (hu : A ≤ u) (hu2 : u < M) (hv : M ≤ v) (hv2 : v < B) (pp : More) => HC.out (ext W pp) (f v) (f u) (HF.out v (by omega)) (HF.out u (by omega)) (grownBy_trans hW (grown_any (grown_below (ext_below W pp)))))
  obtain ⟨d1, HD1⟩ : ∃ k, Hid (M - A = k) := ⟨_, Lib.hid rfl⟩
  have hw1 : IntKind.i64.wrap ((M : Int) - (A : Int)) = (d1 : Int) := by rw [IntWalk.i64_in _ (by omega)]; have := HD1.out; omega
  by_cases h1 : d1 = 1
  · subst h1
    have HM1 := Lib.hid (show M = A + 1 by have := HD1.out; omega)
    obtain ⟨p, HP⟩ : ∃ p : Nat, Hid (f A = p) := ⟨_, Lib.hid rfl⟩
    go_enter Tryz.func113, Tryz.ntmps113
    go_wp2_with fail
    go_loopw [10, 11] (fun iv jv wr => ∃ i j : Nat, M ≤ i ∧ i ≤ j ∧ j ≤ B ∧ iv = .int .i64 i ∧ jv = .int .i64 j ∧ Hid (∀ k, M ≤ k → k < i → R (f k) (f A)) ∧ Hid (∀ k, j ≤ k → k < B → R (f A) (f k)) ∧ Hid (IntS wr b (b + 1) (.slice (some ⟨b, o, none⟩) n c) (lst n f)) ∧ Hid (w.grownBy wr (some b))) (fun iv jv _ => (intOf jv).toNat - (intOf iv).toNat)
    case atStart => exact ⟨M, B, Nat.le_refl _, by omega, Nat.le_refl _, rfl, rfl, Lib.hid (fun k a1 a2 => by omega), Lib.hid (fun k a1 a2 => by omega), H0, Lib.hid (World.grownBy.refl _ _)⟩
    case round =>
      obtain ⟨i, j, hMi, hij0, hjB, rfl, rfl, HLO, HUP, HI, HG⟩ := hrel
      have hsr := HG.out.size
      obtain ⟨ws, rfl⟩ : ∃ ws : World, ws = wr := ⟨_, rfl⟩
      by_cases hij : i < j
      · have hiji : (i : Int) < (j : Int) := by omega
        obtain ⟨s, HS⟩ : ∃ s, Hid (i + j = s) := ⟨_, Lib.hid rfl⟩
        have hws : IntKind.i64.wrap ((i : Int) + (j : Int)) = (s : Int) := by rw [IntWalk.i64_in _ (by omega)]; have := HS.out; omega
        have hs2 : s ≤ 2000000 := by have := HS.out; omega
        obtain ⟨h, HH⟩ : ∃ h, Hid (s / 2 = h) := ⟨_, Lib.hid rfl⟩
        have hsh : (s : Int) / 2 = (h : Int) := by have := HH.out; omega
        have hih : i ≤ h ∧ h < j := by have := HH.out; have := HS.out; omega
        have hh1 : i ≤ h := hih.1
        have hh2 : h < j := hih.2
        clear hih
        have HKK := Lib.hid (HK.out (A) (h) (by omega) (by omega) (by omega) (by omega))
        have HCW := Lib.hid (fun pp => HCMP.out ws HG.out (A) (h) (by omega) (by omega) (by omega) (by omega) pp)
        obtain ⟨z, HZ⟩ : ∃ z, Hid (zf (f (h)) (f (A)) = z) := ⟨_, Lib.hid rfl⟩
        obtain ⟨q, HQ⟩ : ∃ q : Nat, Hid (f (h) = q) := ⟨_, Lib.hid rfl⟩
        obtain ⟨p, HP⟩ : ∃ p : Nat, Hid (f (A) = p) := ⟨_, Lib.hid rfl⟩
        rw [HZ.out] at HKK HCW
        rw [HQ.out, HP.out] at HKK HCW
        have y1 := (IntS.at_ HI.out (j := h) (by rw [lst_length]; omega)).1
        have x1 := (IntS.at_ HI.out (j := A) (by rw [lst_length]; omega)).1
        rw [lst_nth _ (by omega), HQ.out] at y1
        rw [lst_nth _ (by omega), HP.out] at x1
        have ey : ∀ pp, (ext ws pp).cell? ⟨b, o + h, none⟩ = some (.int .i64 (q : Nat)) := ext_cell ws (a := ⟨b, o + h, none⟩) (by show b < _; omega) y1
        have ex : ∀ pp, (ext ws pp).cell? ⟨b, o + A, none⟩ = some (.int .i64 (p : Nat)) := ext_cell ws (a := ⟨b, o + A, none⟩) (by show b < _; omega) x1
        clear y1 x1
        have hvn : ((h : Nat) : Int) < (n : Int) := by omega
        have hun : ((A : Nat) : Int) < (n : Int) := by omega
        have hwh : IntKind.i64.wrap ((h : Int) + 1) = ((h + 1 : Nat) : Int) := by rw [IntWalk.i64_in _ (by omega)]; omega
        obtain ⟨h', HH1⟩ : ∃ k, Hid (h + 1 = k) := ⟨_, Lib.hid rfl⟩
        rw [HH1.out] at hwh
        have hne : z < 0 → R q p := HKK.out.1.1
        have hge : ¬ z < 0 → R p q := fun hz => by
          have h3 : ¬ R q p := fun h => hz (HKK.out.1.2 h)
          by_cases h4 : R p q
          · exact h4
          · exact absurd (HO.out.tri h3 h4) HKK.out.2
        have HNE := Lib.hid hne; clear hne
        have HGE := Lib.hid hge; clear hge
        by_cases hz : z < 0
        · have hzd : decide (z < 0) = true := decide_eq_true hz
          have HLN := Lib.hid (show ∀ k, M ≤ k → k < h' → R (f k) (f A) from fun k a1 a2 => by
            have hq : R (f h) (f A) := by rw [HQ.out, HP.out]; exact HNE.out hz
            rcases Nat.lt_or_ge k h with h3 | h3
            · exact HO.out.trans (HRT.out k h a1 h3 (by omega)) hq
            · obtain rfl : k = h := by have := HH1.out; omega
              exact hq)
          go_wp2_with fail
          refine wp_region_ext (by kernel_rfl) (by kernel_rfl) ?_
          repeat (go_big_quiet_step ((first | (go_at_fn fid; exact ext_call (HCW.out _)))))
          refine wpQuiet_nil ?_
          rintro w9 ⟨pp, rfl⟩
          clear ey ex
          obtain ⟨W2, HW2⟩ : ∃ W, Hid (W = ext ws pp) := ⟨_, Lib.hid rfl⟩
          rw [← HW2.out]
          have hg2 : ws.grownBy W2 none := by rw [HW2.out]; exact grown_below (ext_below _ _)
          clear HW2
          have HIN := Lib.hid (IntS.still HI.out hg2 (by omega))
          have HGN2 := Lib.hid (grownBy_trans HG.out (grown_any hg2))
          go_wp2_with fail
          go_roundw
          case rel => exact ⟨h', j, by have := HH1.out; omega, by have := HH1.out; omega, hjB, by go_num, rfl, HLN, HUP, HIN, HGN2⟩
          case measure => simp [intOf]; have := HH1.out; omega
        · have hzd : decide (z < 0) = false := decide_eq_false hz
          have HUN := Lib.hid (show ∀ k, h ≤ k → k < B → R (f A) (f k) from fun k a1 a2 => by
            have hq : R (f A) (f h) := by rw [HQ.out, HP.out]; exact HGE.out hz
            rcases Nat.lt_or_ge h k with h3 | h3
            · exact HO.out.trans hq (HRT.out h k (by omega) h3 a2)
            · obtain rfl : k = h := by omega
              exact hq)
          go_wp2_with fail
          refine wp_region_ext (by kernel_rfl) (by kernel_rfl) ?_
          repeat (go_big_quiet_step ((first | (go_at_fn fid; exact ext_call (HCW.out _)))))
          refine wpQuiet_nil ?_
          rintro w9 ⟨pp, rfl⟩
          clear ey ex
          obtain ⟨W2, HW2⟩ : ∃ W, Hid (W = ext ws pp) := ⟨_, Lib.hid rfl⟩
          rw [← HW2.out]
          have hg2 : ws.grownBy W2 none := by rw [HW2.out]; exact grown_below (ext_below _ _)
          clear HW2
          have HIN := Lib.hid (IntS.still HI.out hg2 (by omega))
          have HGN2 := Lib.hid (grownBy_trans HG.out (grown_any hg2))
          go_wp2_with fail
          go_roundw
          case rel => exact ⟨i, h, hMi, hh1, by omega, rfl, by go_num, HLO, HUN, HIN, HGN2⟩
          case measure => simp [intOf]; omega
      · obtain rfl : i = j := by omega
        have hiji : ¬ (i : Int) < (i : Int) := by omega
        have HFINAL := Lib.hid (show Mrg R f (rot f A (A + 1) i) A B from merge_left HO.out (by rw [← HM1.out]; exact HRT.out) (by have := HM1.out; omega) hjB (fun k a1 a2 => HLO.out k (by have := HM1.out; omega) a2) HUP.out)
        obtain ⟨i1, HI1⟩ : ∃ k, Hid (i = k + 1) := ⟨i - 1, Lib.hid (by omega)⟩
        have hwi : IntKind.i64.wrap ((i : Int) - 1) = (i1 : Int) := by rw [IntWalk.i64_in _ (by omega)]; have := HI1.out; omega
        have hAi1 : A ≤ i1 := by have := HI1.out; have := HM1.out; omega
        have hi1n : i1 < n := by have := HI1.out; omega
        go_wp2_with fail
        go_loopw [13] (fun kv wr => ∃ k : Nat, A ≤ k ∧ k ≤ i1 ∧ kv = .int .i64 k ∧ Hid (IntS wr b (b + 1) (.slice (some ⟨b, o, none⟩) n c) (lst n (rot f A (A + 1) (k + 1)))) ∧ Hid (w.grownBy wr (some b))) (fun kv _ => i1 - (intOf kv).toNat)
        case atStart => exact ⟨A, Nat.le_refl _, hAi1, rfl, by rw [rot_id_right]; exact HI, HG⟩
        case round =>
          clear HI HG
          obtain ⟨k, hAk, hki, rfl, HI, HG⟩ := hrel
          have hsr2 := HG.out.size
          obtain ⟨wt, rfl⟩ : ∃ wt : World, wt = wr := ⟨_, rfl⟩
          by_cases hk : k < i1
          · have hkI : (k : Int) < (i1 : Int) := by omega
            obtain ⟨k1, HK1⟩ : ∃ k1, Hid (k + 1 = k1) := ⟨_, Lib.hid rfl⟩
            have hwk : IntKind.i64.wrap ((k : Int) + 1) = (k1 : Int) := by rw [IntWalk.i64_in _ (by omega)]; have := HK1.out; omega
            have hk1n : k1 < n := by have := HK1.out; have := HI1.out; omega
            have hkn : k < n := by have := HK1.out; omega
            have hkk1 : k ≠ k1 := by have := HK1.out; omega
            obtain ⟨F, HFF⟩ : ∃ F, Hid (rot f A (A + 1) (k + 1) = F) := ⟨_, Lib.hid rfl⟩
            rw [HFF.out] at HI
            have HNX := Lib.hid (show swp F k k1 = rot f A (A + 1) (k1 + 1) by rw [← HFF.out, ← HK1.out]; exact rot_up f hAk)
            obtain ⟨p, HP⟩ : ∃ p : Nat, Hid (F k = p) := ⟨_, Lib.hid rfl⟩
            obtain ⟨q, HQ⟩ : ∃ q : Nat, Hid (F k1 = q) := ⟨_, Lib.hid rfl⟩
            obtain ⟨y1, y2⟩ := IntS.at_ HI.out (j := k) (by rw [lst_length]; omega)
            obtain ⟨x1, x2⟩ := IntS.at_ HI.out (j := k1) (by rw [lst_length]; omega)
            rw [lst_nth _ (by omega), HP.out] at y1
            rw [lst_nth _ (by omega), HQ.out] at x1
            have hne : o + k ≠ o + k1 := by omega
            have hxN : (k : Int) < (n : Int) := by omega
            have hyN : (k1 : Int) < (n : Int) := by omega
            go_wp2_with fail
            go_region
            have HIS := Lib.hid (show IntS (((wt.setCell ⟨b, o + k, none⟩ (.int .i64 (q : Nat))).setCell ⟨b, o + k1, none⟩ (.int .i64 (p : Nat))).drew) b (b + 1) (.slice (some ⟨b, o, none⟩) n c) (lst n (rot f A (A + 1) (k1 + 1))) by
              have := swap_row HI.out (i := k) (j := k1) (by omega) (by omega) (by omega)
              rw [HP.out, HQ.out, HNX.out] at this
              exact this)
            have HGS := Lib.hid (grownBy_drew (grownBy_trans HG.out (swap_grown wt b (o + k) (o + k1) (.int .i64 (q : Nat)) (.int .i64 (p : Nat)))))
            go_wp2_with fail
            go_roundw
            case rel => exact ⟨k1, by have := HK1.out; omega, by have := HK1.out; omega, by go_num, HIS, HGS⟩
            case measure => simp [intOf]; have := HK1.out; omega
          · obtain rfl : k = i1 := by omega
            have hkI : ¬ (k : Int) < (k : Int) := by omega
            have HIF := Lib.hid (show IntS wt b (b + 1) (.slice (some ⟨b, o, none⟩) n c) (lst n (rot f A (A + 1) i)) by rw [show i = k + 1 from HI1.out]; exact HI.out)
            go_wp2_with fail
            (first | go_end0 | ((try simp only [Exit.inBlock, Exit.then]); refine bodyPost_ret (results_none rfl _ _ _) rfl ?_))
            exact ⟨rfl, _, HFINAL.out, HIF.out, HG.out⟩
  · have hd1n : ¬ (d1 : Int) = 1 := by omega
    have hd1e : ((d1 : Int) == 1) = false := by simp; omega
    obtain ⟨d2, HD2⟩ : ∃ k, Hid (B - M = k) := ⟨_, Lib.hid rfl⟩
    have hw2 : IntKind.i64.wrap ((B : Int) - (M : Int)) = (d2 : Int) := by rw [IntWalk.i64_in _ (by omega)]; have := HD2.out; omega
    by_cases h2 : d2 = 1
    · subst h2
      have HB1 := Lib.hid (show B = M + 1 by have := HD2.out; omega)
      have hMB1 : M < n := by omega
      go_enter Tryz.func113, Tryz.ntmps113
      go_wp2_with fail
      go_loopw [14, 15] (fun iv jv wr => ∃ i j : Nat, A ≤ i ∧ i ≤ j ∧ j ≤ M ∧ iv = .int .i64 i ∧ jv = .int .i64 j ∧ Hid (∀ k, A ≤ k → k < i → R (f k) (f M)) ∧ Hid (∀ k, j ≤ k → k < M → R (f M) (f k)) ∧ Hid (IntS wr b (b + 1) (.slice (some ⟨b, o, none⟩) n c) (lst n f)) ∧ Hid (w.grownBy wr (some b))) (fun iv jv _ => (intOf jv).toNat - (intOf iv).toNat)
      case atStart => exact ⟨A, M, Nat.le_refl _, by omega, Nat.le_refl _, rfl, rfl, Lib.hid (fun k a1 a2 => by omega), Lib.hid (fun k a1 a2 => by omega), H0, Lib.hid (World.grownBy.refl _ _)⟩
      case round =>
        obtain ⟨i, j, hMi, hij0, hjB, rfl, rfl, HLO, HUP, HI, HG⟩ := hrel
        have hsr := HG.out.size
        obtain ⟨ws, rfl⟩ : ∃ ws : World, ws = wr := ⟨_, rfl⟩
        by_cases hij : i < j
        · have hiji : (i : Int) < (j : Int) := by omega
          obtain ⟨s, HS⟩ : ∃ s, Hid (i + j = s) := ⟨_, Lib.hid rfl⟩
          have hws : IntKind.i64.wrap ((i : Int) + (j : Int)) = (s : Int) := by rw [IntWalk.i64_in _ (by omega)]; have := HS.out; omega
          have hs2 : s ≤ 2000000 := by have := HS.out; omega
          obtain ⟨h, HH⟩ : ∃ h, Hid (s / 2 = h) := ⟨_, Lib.hid rfl⟩
          have hsh : (s : Int) / 2 = (h : Int) := by have := HH.out; omega
          have hih : i ≤ h ∧ h < j := by have := HH.out; have := HS.out; omega
          have hh1 : i ≤ h := hih.1
          have hh2 : h < j := hih.2
          clear hih
          have HKK := Lib.hid (HK.out h M (by omega) (by omega) (by omega) (by omega))
          have HCW := Lib.hid (fun pp => HCMP.out ws HG.out h M (by omega) (by omega) (by omega) (by omega) pp)
          obtain ⟨z, HZ⟩ : ∃ z, Hid (zf (f M) (f h) = z) := ⟨_, Lib.hid rfl⟩
          obtain ⟨q, HQ⟩ : ∃ q : Nat, Hid (f M = q) := ⟨_, Lib.hid rfl⟩
          obtain ⟨p, HP⟩ : ∃ p : Nat, Hid (f h = p) := ⟨_, Lib.hid rfl⟩
          rw [HZ.out] at HKK HCW
          rw [HQ.out, HP.out] at HKK HCW
          have y1 := (IntS.at_ HI.out (j := M) (by rw [lst_length]; omega)).1
          have x1 := (IntS.at_ HI.out (j := h) (by rw [lst_length]; omega)).1
          rw [lst_nth _ (by omega), HQ.out] at y1
          rw [lst_nth _ (by omega), HP.out] at x1
          have ey : ∀ pp, (ext ws pp).cell? ⟨b, o + M, none⟩ = some (.int .i64 (q : Nat)) := ext_cell ws (a := ⟨b, o + M, none⟩) (by show b < _; omega) y1
          have ex : ∀ pp, (ext ws pp).cell? ⟨b, o + h, none⟩ = some (.int .i64 (p : Nat)) := ext_cell ws (a := ⟨b, o + h, none⟩) (by show b < _; omega) x1
          clear y1 x1
          have hvn : ((M : Nat) : Int) < (n : Int) := by omega
          have hun : ((h : Nat) : Int) < (n : Int) := by omega
          have hwh : IntKind.i64.wrap ((h : Int) + 1) = ((h + 1 : Nat) : Int) := by rw [IntWalk.i64_in _ (by omega)]; omega
          obtain ⟨h', HH1⟩ : ∃ k, Hid (h + 1 = k) := ⟨_, Lib.hid rfl⟩
          rw [HH1.out] at hwh
          have hne : z < 0 → R q p := HKK.out.1.1
          have hge : ¬ z < 0 → R p q := fun hz => by
            have h3 : ¬ R q p := fun h => hz (HKK.out.1.2 h)
            by_cases h4 : R p q
            · exact h4
            · exact absurd (HO.out.tri h3 h4) HKK.out.2
          have HNE := Lib.hid hne; clear hne
          have HGE := Lib.hid hge; clear hge
          by_cases hz : z < 0
          · have hzd : decide (z < 0) = true := decide_eq_true hz
            have HUN := Lib.hid (show ∀ k, h ≤ k → k < M → R (f M) (f k) from fun k a1 a2 => by
              have hq : R (f M) (f h) := by rw [HQ.out, HP.out]; exact HNE.out hz
              rcases Nat.lt_or_ge h k with h3 | h3
              · exact HO.out.trans hq (HL.out h k (by omega) h3 a2)
              · obtain rfl : k = h := by omega
                exact hq)
            go_wp2_with fail
            refine wp_region_ext (by kernel_rfl) (by kernel_rfl) ?_
            repeat (go_big_quiet_step ((first | (go_at_fn fid; exact ext_call (HCW.out _)))))
            refine wpQuiet_nil ?_
            rintro w9 ⟨pp, rfl⟩
            clear ey ex
            obtain ⟨W2, HW2⟩ : ∃ W, Hid (W = ext ws pp) := ⟨_, Lib.hid rfl⟩
            rw [← HW2.out]
            have hg2 : ws.grownBy W2 none := by rw [HW2.out]; exact grown_below (ext_below _ _)
            clear HW2
            have HIN := Lib.hid (IntS.still HI.out hg2 (by omega))
            have HGN2 := Lib.hid (grownBy_trans HG.out (grown_any hg2))
            go_wp2_with fail
            go_roundw
            case rel => exact ⟨i, h, hMi, hh1, by omega, rfl, by go_num, HLO, HUN, HIN, HGN2⟩
            case measure => simp [intOf]; have := HH1.out; omega
          · have hzd : decide (z < 0) = false := decide_eq_false hz
            have HLN := Lib.hid (show ∀ k, A ≤ k → k < h' → R (f k) (f M) from fun k a1 a2 => by
              have hq : R (f h) (f M) := by rw [HQ.out, HP.out]; exact HGE.out hz
              rcases Nat.lt_or_ge k h with h3 | h3
              · exact HO.out.trans (HL.out k h a1 h3 (by omega)) hq
              · obtain rfl : k = h := by have := HH1.out; omega
                exact hq)
            go_wp2_with fail
            refine wp_region_ext (by kernel_rfl) (by kernel_rfl) ?_
            repeat (go_big_quiet_step ((first | (go_at_fn fid; exact ext_call (HCW.out _)))))
            refine wpQuiet_nil ?_
            rintro w9 ⟨pp, rfl⟩
            clear ey ex
            obtain ⟨W2, HW2⟩ : ∃ W, Hid (W = ext ws pp) := ⟨_, Lib.hid rfl⟩
            rw [← HW2.out]
            have hg2 : ws.grownBy W2 none := by rw [HW2.out]; exact grown_below (ext_below _ _)
            clear HW2
            have HIN := Lib.hid (IntS.still HI.out hg2 (by omega))
            have HGN2 := Lib.hid (grownBy_trans HG.out (grown_any hg2))
            go_wp2_with fail
            go_roundw
            case rel => exact ⟨h', j, by have := HH1.out; omega, by have := HH1.out; omega, hjB, by go_num, rfl, HLN, HUP, HIN, HGN2⟩
            case measure => simp [intOf]; have := HH1.out; omega
        · obtain rfl : i = j := by omega
          have hiji : ¬ (i : Int) < (i : Int) := by omega
          have HFINAL := Lib.hid (show Mrg R f (rot f i M (M + 1)) A B by rw [HB1.out]; exact merge_right HO.out HL.out hMi hjB HLO.out HUP.out)
          go_wp2_with fail
          go_loopw [17] (fun kv wr => ∃ k : Nat, i ≤ k ∧ k ≤ M ∧ kv = .int .i64 k ∧ Hid (IntS wr b (b + 1) (.slice (some ⟨b, o, none⟩) n c) (lst n (rot f k M (M + 1)))) ∧ Hid (w.grownBy wr (some b))) (fun kv _ => (intOf kv).toNat)
          case atStart => exact ⟨M, hjB, Nat.le_refl _, rfl, by rw [rot_id_left]; exact HI, HG⟩
          case round =>
            clear HI HG
            obtain ⟨k, hAk, hki, rfl, HI, HG⟩ := hrel
            have hsr2 := HG.out.size
            obtain ⟨wt, rfl⟩ : ∃ wt : World, wt = wr := ⟨_, rfl⟩
            by_cases hk : i < k
            · have hkI : (i : Int) < (k : Int) := by omega
              obtain ⟨k0, HK1⟩ : ∃ k0, Hid (k = k0 + 1) := ⟨k - 1, Lib.hid (by omega)⟩
              have hwk : IntKind.i64.wrap ((k : Int) - 1) = (k0 : Int) := by rw [IntWalk.i64_in _ (by omega)]; have := HK1.out; omega
              have hk1n : k0 < n := by have := HK1.out; omega
              have hkn : k < n := by omega
              have hkk1 : k ≠ k0 := by have := HK1.out; omega
              obtain ⟨F, HFF⟩ : ∃ F, Hid (rot f k M (M + 1) = F) := ⟨_, Lib.hid rfl⟩
              rw [HFF.out] at HI
              have HNX := Lib.hid (show swp F k k0 = rot f k0 M (M + 1) by rw [← HFF.out, show k0 = k - 1 by have := HK1.out; omega]; exact rot_down f (by omega) hki)
              obtain ⟨p, HP⟩ : ∃ p : Nat, Hid (F k = p) := ⟨_, Lib.hid rfl⟩
              obtain ⟨q, HQ⟩ : ∃ q : Nat, Hid (F k0 = q) := ⟨_, Lib.hid rfl⟩
              obtain ⟨y1, y2⟩ := IntS.at_ HI.out (j := k) (by rw [lst_length]; omega)
              obtain ⟨x1, x2⟩ := IntS.at_ HI.out (j := k0) (by rw [lst_length]; omega)
              rw [lst_nth _ (by omega), HP.out] at y1
              rw [lst_nth _ (by omega), HQ.out] at x1
              have hne : o + k ≠ o + k0 := by omega
              have hxN : (k : Int) < (n : Int) := by omega
              have hyN : (k0 : Int) < (n : Int) := by omega
              go_wp2_with fail
              go_region
              have HIS := Lib.hid (show IntS (((wt.setCell ⟨b, o + k, none⟩ (.int .i64 (q : Nat))).setCell ⟨b, o + k0, none⟩ (.int .i64 (p : Nat))).drew) b (b + 1) (.slice (some ⟨b, o, none⟩) n c) (lst n (rot f k0 M (M + 1))) by
                have := swap_row HI.out (i := k) (j := k0) (by omega) (by omega) (by omega)
                rw [HP.out, HQ.out, HNX.out] at this
                exact this)
              have HGS := Lib.hid (grownBy_drew (grownBy_trans HG.out (swap_grown wt b (o + k) (o + k0) (.int .i64 (q : Nat)) (.int .i64 (p : Nat)))))
              go_wp2_with fail
              go_roundw
              case rel => exact ⟨k0, by have := HK1.out; omega, by have := HK1.out; omega, by go_num, HIS, HGS⟩
              case measure => simp [intOf]; have := HK1.out; omega
            · obtain rfl : k = i := by omega
              have hkI : ¬ (k : Int) < (k : Int) := by omega
              go_wp2_with fail
              (first | go_end0 | ((try simp only [Exit.inBlock, Exit.then]); refine bodyPost_ret (results_none rfl _ _ _) rfl ?_))
              exact ⟨rfl, _, HFINAL.out, HI.out, HG.out⟩
    · have hd2n : ¬ (d2 : Int) = 1 := by omega
      have hd2e : ((d2 : Int) == 1) = false := by simp; omega
      have hAM2 : A + 2 ≤ M := by have := HD1.out; omega
      have hMB2 : M + 2 ≤ B := by have := HD2.out; omega
      obtain ⟨s0, HS0⟩ : ∃ k, Hid (A + B = k) := ⟨_, Lib.hid rfl⟩
      have hws00 : IntKind.i64.wrap ((A : Int) + (B : Int)) = (s0 : Int) := by rw [IntWalk.i64_in _ (by omega)]; have := HS0.out; omega
      have hs00 : s0 ≤ 2000000 := by have := HS0.out; omega
      obtain ⟨mid, HMD⟩ : ∃ k, Hid (s0 / 2 = k) := ⟨_, Lib.hid rfl⟩
      have hsm : (s0 : Int) / 2 = (mid : Int) := by have := HMD.out; omega
      have hmb : 2 * mid ≤ A + B ∧ A + B ≤ 2 * mid + 1 := by have := HMD.out; have := HS0.out; omega
      obtain ⟨N, HN⟩ : ∃ k, Hid (mid + M = k) := ⟨_, Lib.hid rfl⟩
      have hNN : mid + M = N := HN.out
      have hwN : IntKind.i64.wrap ((mid : Int) + (M : Int)) = (N : Int) := by rw [IntWalk.i64_in _ (by omega)]; omega
      obtain ⟨P, HPP⟩ : ∃ k, Hid (N = k + 1) := ⟨N - 1, Lib.hid (by omega)⟩
      have hPN : P + 1 = N := HPP.out.symm
      have hwP : IntKind.i64.wrap ((N : Int) - 1) = (P : Int) := by rw [IntWalk.i64_in _ (by omega)]; omega
      have HNN := Lib.hid hNN; clear hNN
      have hN2 : N ≤ 2000000 := by have := HNN.out; omega
      by_cases hm : mid < M
      · have hmM : mid < M := hm
        have hmMi : (mid : Int) < (M : Int) := by omega
        obtain ⟨st0, HST0⟩ : ∃ k, Hid (N - B = k) := ⟨_, Lib.hid rfl⟩
        have hst : A ≤ st0 ∧ st0 ≤ mid ∧ st0 + B = N := by have := HST0.out; have := HN.out; have := HMD.out; have := HS0.out; omega
        have hst1 : A ≤ st0 := hst.1
        have hst2 : st0 ≤ mid := hst.2.1
        have hst3 : st0 + B = N := hst.2.2
        have hws0 : IntKind.i64.wrap ((N : Int) - (B : Int)) = (st0 : Int) := by rw [IntWalk.i64_in _ (by omega)]; omega
        clear hst
        have hr0M : mid ≤ M := by omega
        go_enter Tryz.func113, Tryz.ntmps113
        go_wp2_with fail
        go_loopw [20, 21] (fun xv yv wr => ∃ x y : Nat, st0 ≤ x ∧ x ≤ y ∧ y ≤ mid ∧ xv = .int .i64 x ∧ yv = .int .i64 y ∧ Hid (x = st0 ∨ (st0 < x ∧ R (f (x - 1)) (f (N - x)))) ∧ Hid (y = mid ∨ (y < mid ∧ R (f (N - 1 - y)) (f y))) ∧ Hid (IntS wr b (b + 1) (.slice (some ⟨b, o, none⟩) n c) (lst n f)) ∧ Hid (w.grownBy wr (some b))) (fun xv yv _ => (intOf yv).toNat - (intOf xv).toNat)
        case atStart => exact ⟨st0, mid, Nat.le_refl _, by omega, Nat.le_refl _, rfl, rfl, Lib.hid (.inl rfl), Lib.hid (.inl rfl), H0, Lib.hid (World.grownBy.refl _ _)⟩
        case round =>
          obtain ⟨x, y, hsx, hxy0, hyr, rfl, rfl, HLO, HUP, HI, HG⟩ := hrel
          have hsr := HG.out.size
          obtain ⟨ws, rfl⟩ : ∃ ws : World, ws = wr := ⟨_, rfl⟩
          by_cases hxy : x < y
          case neg =>
            obtain rfl : x = y := by omega
            have hxyi : ¬ (x : Int) < (x : Int) := by omega
            obtain ⟨e, HE⟩ : ∃ k, Hid (mid + M - x = k) := ⟨_, Lib.hid rfl⟩
            have hNe : x + e = N := by have := HE.out; have := HN.out; omega
            have hem : e + x = mid + M := by have := HNN.out; omega
            have hwe : IntKind.i64.wrap ((N : Int) - (x : Int)) = (e : Int) := by rw [IntWalk.i64_in _ (by omega)]; omega
            have hAx : A ≤ x := by omega
            have hxM : x ≤ M := by omega
            have hxmid : x ≤ mid := by omega
            have hMe : M ≤ e := by have := HN.out; omega
            have heB : e ≤ B := by have := HN.out; omega
            have hAm : A ≤ mid ∧ mid < B := by have := HMD.out; have := HS0.out; omega
            have hAmid : A ≤ mid := hAm.1
            have hmidB : mid < B := hAm.2
            clear hAm
            have HSL := Lib.hid (sym_left HL.out HRT.out hAx hxM hxmid (by rw [HE.out]; exact hMe) (by rw [HE.out]; exact heB))
            have HSR := Lib.hid (sym_right HL.out HRT.out hAx hxM hxmid (by rw [HE.out]; exact hMe) (by rw [HE.out]; exact heB))
            have HLW := Lib.hid (show x = A ∨ mid + M - x = B ∨ (A < x ∧ mid + M - x < B ∧ R (f (x - 1)) (f (mid + M - x))) by
              rw [HE.out]
              rcases HLO.out with h1 | ⟨h1, h2⟩
              · exact .inr (.inl (by omega))
              · by_cases h3 : A < x
                · by_cases h4 : e < B
                  · refine .inr (.inr ⟨h3, h4, ?_⟩)
                    rw [show e = N - x by omega]; exact h2
                  · exact .inr (.inl (by omega))
                · exact .inl (by omega))
            have HUW := Lib.hid (show x = M ∨ x = mid ∨ (x < M ∧ x < mid ∧ R (f (mid + M - x - 1)) (f x)) by
              rw [HE.out]
              rcases HUP.out with h1 | ⟨h1, h2⟩
              · exact .inr (.inl h1)
              · refine .inr (.inr ⟨by omega, by omega, ?_⟩)
                rw [show e - 1 = N - 1 - x by omega]; exact h2)
            have HFIN := Lib.hid (fun g1 g a1 a2 => merge_mid (g1 := g1) (g := g) HO.out hAM hMB hAmid (by omega) HL.out HRT.out hAx hxM hxmid (by rw [HE.out]; exact hMe) (by rw [HE.out]; exact heB) HLW.out HUW.out a1 a2)
            rw [HE.out] at HSL HSR HFIN
            obtain ⟨H, HH⟩ : ∃ H, Hid (rot f x M e = H) := ⟨_, Lib.hid rfl⟩
            have HHN := Lib.hid (show ∀ i, i < n → H i < n from by rw [← HH.out]; exact rot_lt_n HF.out hxM hMe (by omega))
            have HRID := Lib.hid (fun h : ¬ (x < M ∧ M < e) => show H = f by
              rw [← HH.out]
              by_cases h1 : x < M
              · rw [show e = M by omega]; exact rot_id_right f x M
              · rw [show x = M by omega]; exact rot_id_left f M e)
            rw [HH.out] at HSL HSR HFIN
            have HKL := Lib.hid (show ∀ u v, A ≤ u → u < x → x ≤ v → v < mid → ((zf (H v) (H u) < 0 ↔ R (H v) (H u)) ∧ H v ≠ H u) from fun u v a1 a2 a3 a4 => by
              obtain ⟨v', b1, b2, b3, b4⟩ := HSL.out.2.2 u v a1 a2 a3 a4
              rw [b3, b4]; exact HK.out u v' a1 (by omega) b1 b2)
            have HKR := Lib.hid (show ∀ u v, mid ≤ u → u < e → e ≤ v → v < B → ((zf (H v) (H u) < 0 ↔ R (H v) (H u)) ∧ H v ≠ H u) from fun u v a1 a2 a3 a4 => by
              obtain ⟨u', b1, b2, b3, b4⟩ := HSR.out.2.2 u v a1 a2 a3 a4
              rw [b3, b4]; exact HK.out u' v b1 b2 (by omega) a4)
            have HSL1 := Lib.hid HSL.out.1
            have HSL2 := Lib.hid HSL.out.2.1
            have HSR1 := Lib.hid HSR.out.1
            have HSR2 := Lib.hid HSR.out.2.1
            clear HSL HSR HLW HUW HLO HUP
            by_cases hx1 : x < M ∧ M < e
            case pos =>
              have hx1a : (x : Int) < (M : Int) := by omega
              have hx1b : (M : Int) < (e : Int) := by omega
              have hx1d : decide ((x : Int) < (M : Int)) = true := decide_eq_true hx1a
              have hxlt : x < mid := by omega
              have hmlt : mid < e := by omega
              go_wp2_with fail
              refine (rotate_any b o n c f x M e _ _ HI.out (by omega) hx1.1 hx1.2 (by omega) hn).mono ?_
              rintro e9 w1 ⟨rfl, h1, hg1⟩
              rw [HH.out] at h1
              have HI1 := Lib.hid h1; clear h1
              have HG1 := Lib.hid (grownBy_trans HG.out hg1); clear hg1 HRID
              have hsz1 := HG1.out.size
              by_cases hy : A < x
              case pos =>
                have hy1a : (A : Int) < (x : Int) := by omega
                have hy1b : (x : Int) < (mid : Int) := by omega
                have hy1d : decide ((A : Int) < (x : Int)) = true := decide_eq_true hy1a
                go_wp2_with fail
                refine (IH.out H A x mid _ (by omega) HI1.out (by omega) (by omega) (by omega) (by omega) HHN.out (HC.out.far HG1.out) HSL1.out HSL2.out HKL.out).mono ?_
                rintro e9 w2 ⟨G1, rfl, hm1, h1, hg1⟩
                have HM1 := Lib.hid hm1; clear hm1
                have HI2 := Lib.hid h1; clear h1
                have HG2 := Lib.hid (grownBy_trans HG1.out hg1); clear hg1
                have hsz2 := HG2.out.size
                have HEQ := Lib.hid (show ∀ i, mid ≤ i → G1 i = H i from fun i hi => HM1.out.out i (.inr hi))
                have HZN := Lib.hid (show ∀ i, i < n → G1 i < n from HM1.out.lt HHN.out (by omega))
                by_cases hz : e < B
                case pos =>
                  have hz1a : (mid : Int) < (e : Int) := by omega
                  have hz1b : (e : Int) < (B : Int) := by omega
                  have hz1d : decide ((mid : Int) < (e : Int)) = true := decide_eq_true hz1a
                  go_wp2_with fail
                  refine (IH.out G1 mid e B _ (by omega) HI2.out (by omega) (by omega) (by omega) hB HZN.out (HC.out.far HG2.out) (HSR1.out.congr fun i a1 _ => HEQ.out i a1) (HSR2.out.congr fun i a1 _ => HEQ.out i (by omega)) (fun u v a1 a2 a3 a4 => by rw [HEQ.out u a1, HEQ.out v (by omega)]; exact HKR.out u v a1 a2 a3 a4)).mono ?_
                  rintro e9 w3 ⟨G2, rfl, hm2, h2, hg2⟩
                  have HM2 := Lib.hid (HFIN.out G1 G2 HM1.out hm2); clear hm2
                  have HI3 := Lib.hid h2; clear h2
                  have HG3 := Lib.hid (grownBy_trans HG2.out hg2); clear hg2
                  go_wp2_with fail
                  all_goals (first | go_end0 | ((try simp only [Exit.inBlock, Exit.then]); first | done | refine bodyPost_ret (results_none rfl _ _ _) rfl ?_))
                  all_goals first | exact ⟨rfl, _, HM2.out, HI3.out, HG3.out⟩ | exact ⟨_, rfl, HM2.out, HI3.out, HG3.out⟩
                have HM2 := Lib.hid (HFIN.out G1 G1 HM1.out (Mrg.refl (by rw [show B = e by omega]; exact (HSR1.out.congr fun i a1 _ => HEQ.out i a1))))
                have hz1a : (mid : Int) < (e : Int) := by omega
                have hz1b : ¬ (e : Int) < (B : Int) := by omega
                have hz1d : decide ((mid : Int) < (e : Int)) = true := decide_eq_true hz1a
                go_wp2_with fail
                all_goals (first | go_end0 | ((try simp only [Exit.inBlock, Exit.then]); first | done | refine bodyPost_ret (results_none rfl _ _ _) rfl ?_))
                all_goals first | exact ⟨rfl, _, HM2.out, HI2.out, HG2.out⟩ | exact ⟨_, rfl, HM2.out, HI2.out, HG2.out⟩
              have HM1 := Lib.hid (show Mrg R H H A mid from Mrg.refl (by rw [show A = x by omega]; exact HSL2.out))
              have hy1a : ¬ (A : Int) < (x : Int) := by omega
              have hy1d : decide ((A : Int) < (x : Int)) = false := decide_eq_false hy1a
              have HZN := Lib.hid (show ∀ i, i < n → H i < n from HHN.out)
              by_cases hz : e < B
              case pos =>
                have hz1a : (mid : Int) < (e : Int) := by omega
                have hz1b : (e : Int) < (B : Int) := by omega
                have hz1d : decide ((mid : Int) < (e : Int)) = true := decide_eq_true hz1a
                go_wp2_with fail
                refine (IH.out H mid e B _ (by omega) HI1.out (by omega) (by omega) (by omega) hB HZN.out (HC.out.far HG1.out) HSR1.out HSR2.out HKR.out).mono ?_
                rintro e9 w3 ⟨G2, rfl, hm2, h2, hg2⟩
                have HM2 := Lib.hid (HFIN.out H G2 HM1.out hm2); clear hm2
                have HI3 := Lib.hid h2; clear h2
                have HG3 := Lib.hid (grownBy_trans HG1.out hg2); clear hg2
                go_wp2_with fail
                all_goals (first | go_end0 | ((try simp only [Exit.inBlock, Exit.then]); first | done | refine bodyPost_ret (results_none rfl _ _ _) rfl ?_))
                all_goals first | exact ⟨rfl, _, HM2.out, HI3.out, HG3.out⟩ | exact ⟨_, rfl, HM2.out, HI3.out, HG3.out⟩
              have HM2 := Lib.hid (HFIN.out H H HM1.out (Mrg.refl (by rw [show B = e by omega]; exact HSR1.out)))
              have hz1a : (mid : Int) < (e : Int) := by omega
              have hz1b : ¬ (e : Int) < (B : Int) := by omega
              have hz1d : decide ((mid : Int) < (e : Int)) = true := decide_eq_true hz1a
              go_wp2_with fail
              all_goals (first | go_end0 | ((try simp only [Exit.inBlock, Exit.then]); first | done | refine bodyPost_ret (results_none rfl _ _ _) rfl ?_))
              all_goals first | exact ⟨rfl, _, HM2.out, HI1.out, HG1.out⟩ | exact ⟨_, rfl, HM2.out, HI1.out, HG1.out⟩
            have HI1 := Lib.hid (show IntS ws b (b + 1) (.slice (some ⟨b, o, none⟩) n c) (lst n H) by rw [HRID.out hx1]; exact HI.out)
            have HG1 := Lib.hid HG.out
            clear HRID
            have hsz1 := HG1.out.size
            have hxe : x = mid ∧ e = M := by omega
            have hxe1 : x = mid := hxe.1
            have hxe2 : e = M := hxe.2
            clear hxe
            have hx1a : (x : Int) < (M : Int) := by omega
            have hx1b : ¬ (M : Int) < (e : Int) := by omega
            have hx1d : decide ((x : Int) < (M : Int)) = true := decide_eq_true hx1a
            have HXE1 := Lib.hid hxe1; have HXE2 := Lib.hid hxe2
            have hxle : mid ≤ x := by omega
            have hele : e ≤ M := by omega
            clear hxe1 hxe2
            have HM1 := Lib.hid (show Mrg R H H A mid from Mrg.refl (by rw [show mid = x by omega]; exact HSL1.out))
            have hy1a : (A : Int) < (x : Int) := by omega
            have hy1b : ¬ (x : Int) < (mid : Int) := by omega
            have hy1d : decide ((A : Int) < (x : Int)) = true := decide_eq_true hy1a
            have HZN := Lib.hid (show ∀ i, i < n → H i < n from HHN.out)
            have hz1a : (mid : Int) < (e : Int) := by omega
            have hz1b : (e : Int) < (B : Int) := by omega
            have hz1d : decide ((mid : Int) < (e : Int)) = true := decide_eq_true hz1a
            go_wp2_with fail
            refine (IH.out H mid e B _ (by omega) HI1.out (by omega) (by omega) (by omega) hB HZN.out (HC.out.far HG1.out) HSR1.out HSR2.out HKR.out).mono ?_
            rintro e9 w3 ⟨G2, rfl, hm2, h2, hg2⟩
            have HM2 := Lib.hid (HFIN.out H G2 HM1.out hm2); clear hm2
            have HI3 := Lib.hid h2; clear h2
            have HG3 := Lib.hid (grownBy_trans HG1.out hg2); clear hg2
            go_wp2_with fail
            all_goals (first | go_end0 | ((try simp only [Exit.inBlock, Exit.then]); first | done | refine bodyPost_ret (results_none rfl _ _ _) rfl ?_))
            all_goals first | exact ⟨rfl, _, HM2.out, HI3.out, HG3.out⟩ | exact ⟨_, rfl, HM2.out, HI3.out, HG3.out⟩
          have hxyi : (x : Int) < (y : Int) := by omega
          obtain ⟨s, HS⟩ : ∃ s, Hid (x + y = s) := ⟨_, Lib.hid rfl⟩
          have hws : IntKind.i64.wrap ((x : Int) + (y : Int)) = (s : Int) := by rw [IntWalk.i64_in _ (by omega)]; have := HS.out; omega
          have hs2 : s ≤ 4000000 := by have := HS.out; omega
          obtain ⟨h, HH⟩ : ∃ h, Hid (s / 2 = h) := ⟨_, Lib.hid rfl⟩
          have hsh : (s : Int) / 2 = (h : Int) := by have := HH.out; omega
          have hih : x ≤ h ∧ h < y := by have := HH.out; have := HS.out; omega
          have hh1 : x ≤ h := hih.1
          have hh2 : h < y := hih.2
          clear hih
          obtain ⟨v, HV⟩ : ∃ v, Hid (N - 1 - h = v) := ⟨_, Lib.hid rfl⟩
          have hv : M ≤ v ∧ v < B ∧ v + h + 1 = N := by have := HV.out; have := HN.out; omega
          have hv1 : M ≤ v := hv.1
          have hv2 : v < B := hv.2.1
          have hv3 : v + h + 1 = N := hv.2.2
          clear hv
          have hAh : A ≤ h := by omega
          have hhM : h < M := by omega
          have hwv : IntKind.i64.wrap ((P : Int) - (h : Int)) = (v : Int) := by rw [IntWalk.i64_in _ (by omega)]; omega
          have HKK := Lib.hid (HK.out h v (by omega) (by omega) (by omega) (by omega))
          have HCW := Lib.hid (fun pp => HCMP.out ws HG.out h v (by omega) (by omega) (by omega) (by omega) pp)
          obtain ⟨z, HZ⟩ : ∃ z, Hid (zf (f v) (f h) = z) := ⟨_, Lib.hid rfl⟩
          obtain ⟨q, HQ⟩ : ∃ q : Nat, Hid (f v = q) := ⟨_, Lib.hid rfl⟩
          obtain ⟨p, HP⟩ : ∃ p : Nat, Hid (f h = p) := ⟨_, Lib.hid rfl⟩
          rw [HZ.out] at HKK HCW
          rw [HQ.out, HP.out] at HKK HCW
          have y1 := (IntS.at_ HI.out (j := v) (by rw [lst_length]; omega)).1
          have x1 := (IntS.at_ HI.out (j := h) (by rw [lst_length]; omega)).1
          rw [lst_nth _ (by omega), HQ.out] at y1
          rw [lst_nth _ (by omega), HP.out] at x1
          have ey : ∀ pp, (ext ws pp).cell? ⟨b, o + v, none⟩ = some (.int .i64 (q : Nat)) := ext_cell ws (a := ⟨b, o + v, none⟩) (by show b < _; omega) y1
          have ex : ∀ pp, (ext ws pp).cell? ⟨b, o + h, none⟩ = some (.int .i64 (p : Nat)) := ext_cell ws (a := ⟨b, o + h, none⟩) (by show b < _; omega) x1
          clear y1 x1
          have hvn : ((v : Nat) : Int) < (n : Int) := by omega
          have hun : ((h : Nat) : Int) < (n : Int) := by omega
          have hwh : IntKind.i64.wrap ((h : Int) + 1) = ((h + 1 : Nat) : Int) := by rw [IntWalk.i64_in _ (by omega)]; omega
          obtain ⟨h', HH1⟩ : ∃ k, Hid (h + 1 = k) := ⟨_, Lib.hid rfl⟩
          rw [HH1.out] at hwh
          have hne : z < 0 → R q p := HKK.out.1.1
          have hge : ¬ z < 0 → R p q := fun hz => by
            have h3 : ¬ R q p := fun h => hz (HKK.out.1.2 h)
            by_cases h4 : R p q
            · exact h4
            · exact absurd (HO.out.tri h3 h4) HKK.out.2
          have HNE := Lib.hid hne; clear hne
          have HGE := Lib.hid hge; clear hge
          by_cases hz : z < 0
          · have hzd : decide (z < 0) = true := decide_eq_true hz
            have HUN := Lib.hid (show h = mid ∨ (h < mid ∧ R (f (N - 1 - h)) (f h)) from .inr ⟨by omega, by rw [HV.out, HQ.out, HP.out]; exact HNE.out hz⟩)
            go_wp2_with fail
            refine wp_region_ext (by kernel_rfl) (by kernel_rfl) ?_
            repeat (go_big_quiet_step ((first | (go_at_fn fid; exact ext_call (HCW.out _)))))
            refine wpQuiet_nil ?_
            rintro w9 ⟨pp, rfl⟩
            clear ey ex
            obtain ⟨W2, HW2⟩ : ∃ W, Hid (W = ext ws pp) := ⟨_, Lib.hid rfl⟩
            rw [← HW2.out]
            have hg2 : ws.grownBy W2 none := by rw [HW2.out]; exact grown_below (ext_below _ _)
            clear HW2
            have HIN := Lib.hid (IntS.still HI.out hg2 (by omega))
            have HGN2 := Lib.hid (grownBy_trans HG.out (grown_any hg2))
            go_wp2_with fail
            go_roundw
            case rel => exact ⟨x, h, hsx, hh1, by omega, rfl, by go_num, HLO, HUN, HIN, HGN2⟩
            case measure => simp [intOf]; have := HH1.out; omega
          · have hzd : decide (z < 0) = false := decide_eq_false hz
            have HLN := Lib.hid (show h' = st0 ∨ (st0 < h' ∧ R (f (h' - 1)) (f (N - h'))) from .inr ⟨by have := HH1.out; omega, by rw [show h' - 1 = h by have := HH1.out; omega, show N - h' = v by have := HH1.out; omega, HQ.out, HP.out]; exact HGE.out hz⟩)
            go_wp2_with fail
            refine wp_region_ext (by kernel_rfl) (by kernel_rfl) ?_
            repeat (go_big_quiet_step ((first | (go_at_fn fid; exact ext_call (HCW.out _)))))
            refine wpQuiet_nil ?_
            rintro w9 ⟨pp, rfl⟩
            clear ey ex
            obtain ⟨W2, HW2⟩ : ∃ W, Hid (W = ext ws pp) := ⟨_, Lib.hid rfl⟩
            rw [← HW2.out]
            have hg2 : ws.grownBy W2 none := by rw [HW2.out]; exact grown_below (ext_below _ _)
            clear HW2
            have HIN := Lib.hid (IntS.still HI.out hg2 (by omega))
            have HGN2 := Lib.hid (grownBy_trans HG.out (grown_any hg2))
            go_wp2_with fail
            go_roundw
            case rel => exact ⟨h', y, by have := HH1.out; omega, by have := HH1.out; omega, hyr, by go_num, rfl, HLN, HUP, HIN, HGN2⟩
            case measure => simp [intOf]; have := HH1.out; omega
      · have hmMi : ¬ (mid : Int) < (M : Int) := by omega
        go_enter Tryz.func113, Tryz.ntmps113
        go_wp2_with fail
        go_loopw [20, 21] (fun xv yv wr => ∃ x y : Nat, A ≤ x ∧ x ≤ y ∧ y ≤ M ∧ xv = .int .i64 x ∧ yv = .int .i64 y ∧ Hid (x = A ∨ (A < x ∧ R (f (x - 1)) (f (N - x)))) ∧ Hid (y = M ∨ (y < M ∧ R (f (N - 1 - y)) (f y))) ∧ Hid (IntS wr b (b + 1) (.slice (some ⟨b, o, none⟩) n c) (lst n f)) ∧ Hid (w.grownBy wr (some b))) (fun xv yv _ => (intOf yv).toNat - (intOf xv).toNat)
        case atStart => exact ⟨A, M, Nat.le_refl _, by omega, Nat.le_refl _, rfl, rfl, Lib.hid (.inl rfl), Lib.hid (.inl rfl), H0, Lib.hid (World.grownBy.refl _ _)⟩
        case round =>
          obtain ⟨x, y, hsx, hxy0, hyr, rfl, rfl, HLO, HUP, HI, HG⟩ := hrel
          have hsr := HG.out.size
          obtain ⟨ws, rfl⟩ : ∃ ws : World, ws = wr := ⟨_, rfl⟩
          by_cases hxy : x < y
          case neg =>
            obtain rfl : x = y := by omega
            have hxyi : ¬ (x : Int) < (x : Int) := by omega
            obtain ⟨e, HE⟩ : ∃ k, Hid (mid + M - x = k) := ⟨_, Lib.hid rfl⟩
            have hNe : x + e = N := by have := HE.out; have := HN.out; omega
            have hem : e + x = mid + M := by have := HNN.out; omega
            have hwe : IntKind.i64.wrap ((N : Int) - (x : Int)) = (e : Int) := by rw [IntWalk.i64_in _ (by omega)]; omega
            have hAx : A ≤ x := by omega
            have hxM : x ≤ M := by omega
            have hxmid : x ≤ mid := by omega
            have hMe : M ≤ e := by have := HN.out; omega
            have heB : e ≤ B := by have := HN.out; omega
            have hAm : A ≤ mid ∧ mid < B := by have := HMD.out; have := HS0.out; omega
            have hAmid : A ≤ mid := hAm.1
            have hmidB : mid < B := hAm.2
            clear hAm
            have HSL := Lib.hid (sym_left HL.out HRT.out hAx hxM hxmid (by rw [HE.out]; exact hMe) (by rw [HE.out]; exact heB))
            have HSR := Lib.hid (sym_right HL.out HRT.out hAx hxM hxmid (by rw [HE.out]; exact hMe) (by rw [HE.out]; exact heB))
            have HLW := Lib.hid (show x = A ∨ mid + M - x = B ∨ (A < x ∧ mid + M - x < B ∧ R (f (x - 1)) (f (mid + M - x))) by
              rw [HE.out]
              rcases HLO.out with h1 | ⟨h1, h2⟩
              · exact .inl h1
              · by_cases h3 : A < x
                · by_cases h4 : e < B
                  · refine .inr (.inr ⟨h3, h4, ?_⟩)
                    rw [show e = N - x by omega]; exact h2
                  · exact .inr (.inl (by omega))
                · exact .inl (by omega))
            have HUW := Lib.hid (show x = M ∨ x = mid ∨ (x < M ∧ x < mid ∧ R (f (mid + M - x - 1)) (f x)) by
              rw [HE.out]
              rcases HUP.out with h1 | ⟨h1, h2⟩
              · exact .inl h1
              · refine .inr (.inr ⟨by omega, by omega, ?_⟩)
                rw [show e - 1 = N - 1 - x by omega]; exact h2)
            have HFIN := Lib.hid (fun g1 g a1 a2 => merge_mid (g1 := g1) (g := g) HO.out hAM hMB hAmid (by omega) HL.out HRT.out hAx hxM hxmid (by rw [HE.out]; exact hMe) (by rw [HE.out]; exact heB) HLW.out HUW.out a1 a2)
            rw [HE.out] at HSL HSR HFIN
            obtain ⟨H, HH⟩ : ∃ H, Hid (rot f x M e = H) := ⟨_, Lib.hid rfl⟩
            have HHN := Lib.hid (show ∀ i, i < n → H i < n from by rw [← HH.out]; exact rot_lt_n HF.out hxM hMe (by omega))
            have HRID := Lib.hid (fun h : ¬ (x < M ∧ M < e) => show H = f by
              rw [← HH.out]
              by_cases h1 : x < M
              · rw [show e = M by omega]; exact rot_id_right f x M
              · rw [show x = M by omega]; exact rot_id_left f M e)
            rw [HH.out] at HSL HSR HFIN
            have HKL := Lib.hid (show ∀ u v, A ≤ u → u < x → x ≤ v → v < mid → ((zf (H v) (H u) < 0 ↔ R (H v) (H u)) ∧ H v ≠ H u) from fun u v a1 a2 a3 a4 => by
              obtain ⟨v', b1, b2, b3, b4⟩ := HSL.out.2.2 u v a1 a2 a3 a4
              rw [b3, b4]; exact HK.out u v' a1 (by omega) b1 b2)
            have HKR := Lib.hid (show ∀ u v, mid ≤ u → u < e → e ≤ v → v < B → ((zf (H v) (H u) < 0 ↔ R (H v) (H u)) ∧ H v ≠ H u) from fun u v a1 a2 a3 a4 => by
              obtain ⟨u', b1, b2, b3, b4⟩ := HSR.out.2.2 u v a1 a2 a3 a4
              rw [b3, b4]; exact HK.out u' v b1 b2 (by omega) a4)
            have HSL1 := Lib.hid HSL.out.1
            have HSL2 := Lib.hid HSL.out.2.1
            have HSR1 := Lib.hid HSR.out.1
            have HSR2 := Lib.hid HSR.out.2.1
            clear HSL HSR HLW HUW HLO HUP
            by_cases hx1 : x < M ∧ M < e
            case pos =>
              have hx1a : (x : Int) < (M : Int) := by omega
              have hx1b : (M : Int) < (e : Int) := by omega
              have hx1d : decide ((x : Int) < (M : Int)) = true := decide_eq_true hx1a
              have hxlt : x < mid := by omega
              have hmlt : mid < e := by omega
              go_wp2_with fail
              refine (rotate_any b o n c f x M e _ _ HI.out (by omega) hx1.1 hx1.2 (by omega) hn).mono ?_
              rintro e9 w1 ⟨rfl, h1, hg1⟩
              rw [HH.out] at h1
              have HI1 := Lib.hid h1; clear h1
              have HG1 := Lib.hid (grownBy_trans HG.out hg1); clear hg1 HRID
              have hsz1 := HG1.out.size
              by_cases hy : A < x
              case pos =>
                have hy1a : (A : Int) < (x : Int) := by omega
                have hy1b : (x : Int) < (mid : Int) := by omega
                have hy1d : decide ((A : Int) < (x : Int)) = true := decide_eq_true hy1a
                go_wp2_with fail
                refine (IH.out H A x mid _ (by omega) HI1.out (by omega) (by omega) (by omega) (by omega) HHN.out (HC.out.far HG1.out) HSL1.out HSL2.out HKL.out).mono ?_
                rintro e9 w2 ⟨G1, rfl, hm1, h1, hg1⟩
                have HM1 := Lib.hid hm1; clear hm1
                have HI2 := Lib.hid h1; clear h1
                have HG2 := Lib.hid (grownBy_trans HG1.out hg1); clear hg1
                have hsz2 := HG2.out.size
                have HEQ := Lib.hid (show ∀ i, mid ≤ i → G1 i = H i from fun i hi => HM1.out.out i (.inr hi))
                have HZN := Lib.hid (show ∀ i, i < n → G1 i < n from HM1.out.lt HHN.out (by omega))
                by_cases hz : e < B
                case pos =>
                  have hz1a : (mid : Int) < (e : Int) := by omega
                  have hz1b : (e : Int) < (B : Int) := by omega
                  have hz1d : decide ((mid : Int) < (e : Int)) = true := decide_eq_true hz1a
                  go_wp2_with fail
                  refine (IH.out G1 mid e B _ (by omega) HI2.out (by omega) (by omega) (by omega) hB HZN.out (HC.out.far HG2.out) (HSR1.out.congr fun i a1 _ => HEQ.out i a1) (HSR2.out.congr fun i a1 _ => HEQ.out i (by omega)) (fun u v a1 a2 a3 a4 => by rw [HEQ.out u a1, HEQ.out v (by omega)]; exact HKR.out u v a1 a2 a3 a4)).mono ?_
                  rintro e9 w3 ⟨G2, rfl, hm2, h2, hg2⟩
                  have HM2 := Lib.hid (HFIN.out G1 G2 HM1.out hm2); clear hm2
                  have HI3 := Lib.hid h2; clear h2
                  have HG3 := Lib.hid (grownBy_trans HG2.out hg2); clear hg2
                  go_wp2_with fail
                  all_goals (first | go_end0 | ((try simp only [Exit.inBlock, Exit.then]); first | done | refine bodyPost_ret (results_none rfl _ _ _) rfl ?_))
                  all_goals first | exact ⟨rfl, _, HM2.out, HI3.out, HG3.out⟩ | exact ⟨_, rfl, HM2.out, HI3.out, HG3.out⟩
                have HM2 := Lib.hid (HFIN.out G1 G1 HM1.out (Mrg.refl (by rw [show B = e by omega]; exact (HSR1.out.congr fun i a1 _ => HEQ.out i a1))))
                have hz1a : (mid : Int) < (e : Int) := by omega
                have hz1b : ¬ (e : Int) < (B : Int) := by omega
                have hz1d : decide ((mid : Int) < (e : Int)) = true := decide_eq_true hz1a
                go_wp2_with fail
                all_goals (first | go_end0 | ((try simp only [Exit.inBlock, Exit.then]); first | done | refine bodyPost_ret (results_none rfl _ _ _) rfl ?_))
                all_goals first | exact ⟨rfl, _, HM2.out, HI2.out, HG2.out⟩ | exact ⟨_, rfl, HM2.out, HI2.out, HG2.out⟩
              have HM1 := Lib.hid (show Mrg R H H A mid from Mrg.refl (by rw [show A = x by omega]; exact HSL2.out))
              have hy1a : ¬ (A : Int) < (x : Int) := by omega
              have hy1d : decide ((A : Int) < (x : Int)) = false := decide_eq_false hy1a
              have HZN := Lib.hid (show ∀ i, i < n → H i < n from HHN.out)
              by_cases hz : e < B
              case pos =>
                have hz1a : (mid : Int) < (e : Int) := by omega
                have hz1b : (e : Int) < (B : Int) := by omega
                have hz1d : decide ((mid : Int) < (e : Int)) = true := decide_eq_true hz1a
                go_wp2_with fail
                refine (IH.out H mid e B _ (by omega) HI1.out (by omega) (by omega) (by omega) hB HZN.out (HC.out.far HG1.out) HSR1.out HSR2.out HKR.out).mono ?_
                rintro e9 w3 ⟨G2, rfl, hm2, h2, hg2⟩
                have HM2 := Lib.hid (HFIN.out H G2 HM1.out hm2); clear hm2
                have HI3 := Lib.hid h2; clear h2
                have HG3 := Lib.hid (grownBy_trans HG1.out hg2); clear hg2
                go_wp2_with fail
                all_goals (first | go_end0 | ((try simp only [Exit.inBlock, Exit.then]); first | done | refine bodyPost_ret (results_none rfl _ _ _) rfl ?_))
                all_goals first | exact ⟨rfl, _, HM2.out, HI3.out, HG3.out⟩ | exact ⟨_, rfl, HM2.out, HI3.out, HG3.out⟩
              have HM2 := Lib.hid (HFIN.out H H HM1.out (Mrg.refl (by rw [show B = e by omega]; exact HSR1.out)))
              have hz1a : (mid : Int) < (e : Int) := by omega
              have hz1b : ¬ (e : Int) < (B : Int) := by omega
              have hz1d : decide ((mid : Int) < (e : Int)) = true := decide_eq_true hz1a
              go_wp2_with fail
              all_goals (first | go_end0 | ((try simp only [Exit.inBlock, Exit.then]); first | done | refine bodyPost_ret (results_none rfl _ _ _) rfl ?_))
              all_goals first | exact ⟨rfl, _, HM2.out, HI1.out, HG1.out⟩ | exact ⟨_, rfl, HM2.out, HI1.out, HG1.out⟩
            have HI1 := Lib.hid (show IntS ws b (b + 1) (.slice (some ⟨b, o, none⟩) n c) (lst n H) by rw [HRID.out hx1]; exact HI.out)
            have HG1 := Lib.hid HG.out
            clear HRID
            have hsz1 := HG1.out.size
            have hxle : M ≤ x := by omega
            have hele : e ≤ mid := by omega
            have hx1a : ¬ (x : Int) < (M : Int) := by omega
            have hx1d : decide ((x : Int) < (M : Int)) = false := decide_eq_false hx1a
            by_cases hy : x < mid
            case pos =>
              have hy1a : (A : Int) < (x : Int) := by omega
              have hy1b : (x : Int) < (mid : Int) := by omega
              have hy1d : decide ((A : Int) < (x : Int)) = true := decide_eq_true hy1a
              go_wp2_with fail
              refine (IH.out H A x mid _ (by omega) HI1.out (by omega) (by omega) (by omega) (by omega) HHN.out (HC.out.far HG1.out) HSL1.out HSL2.out HKL.out).mono ?_
              rintro e9 w2 ⟨G1, rfl, hm1, h1, hg1⟩
              have HM1 := Lib.hid hm1; clear hm1
              have HI2 := Lib.hid h1; clear h1
              have HG2 := Lib.hid (grownBy_trans HG1.out hg1); clear hg1
              have hsz2 := HG2.out.size
              have HEQ := Lib.hid (show ∀ i, mid ≤ i → G1 i = H i from fun i hi => HM1.out.out i (.inr hi))
              have HZN := Lib.hid (show ∀ i, i < n → G1 i < n from HM1.out.lt HHN.out (by omega))
              have HM2 := Lib.hid (HFIN.out G1 G1 HM1.out (Mrg.refl (by rw [show mid = e by omega]; exact (HSR2.out.congr fun i a1 _ => HEQ.out i (by omega)))))
              have hz1a : ¬ (mid : Int) < (e : Int) := by omega
              have hz1d : decide ((mid : Int) < (e : Int)) = false := decide_eq_false hz1a
              go_wp2_with fail
              all_goals (first | go_end0 | ((try simp only [Exit.inBlock, Exit.then]); first | done | refine bodyPost_ret (results_none rfl _ _ _) rfl ?_))
              all_goals first | exact ⟨rfl, _, HM2.out, HI2.out, HG2.out⟩ | exact ⟨_, rfl, HM2.out, HI2.out, HG2.out⟩
            have HM1 := Lib.hid (show Mrg R H H A mid from Mrg.refl (by rw [show mid = x by omega]; exact HSL1.out))
            have hy1a : (A : Int) < (x : Int) := by omega
            have hy1b : ¬ (x : Int) < (mid : Int) := by omega
            have hy1d : decide ((A : Int) < (x : Int)) = true := decide_eq_true hy1a
            have HZN := Lib.hid (show ∀ i, i < n → H i < n from HHN.out)
            have HM2 := Lib.hid (HFIN.out H H HM1.out (Mrg.refl (by rw [show mid = e by omega]; exact HSR2.out)))
            have hz1a : ¬ (mid : Int) < (e : Int) := by omega
            have hz1d : decide ((mid : Int) < (e : Int)) = false := decide_eq_false hz1a
            go_wp2_with fail
            all_goals (first | go_end0 | ((try simp only [Exit.inBlock, Exit.then]); first | done | refine bodyPost_ret (results_none rfl _ _ _) rfl ?_))
            all_goals first | exact ⟨rfl, _, HM2.out, HI1.out, HG1.out⟩ | exact ⟨_, rfl, HM2.out, HI1.out, HG1.out⟩
          have hxyi : (x : Int) < (y : Int) := by omega
          obtain ⟨s, HS⟩ : ∃ s, Hid (x + y = s) := ⟨_, Lib.hid rfl⟩
          have hws : IntKind.i64.wrap ((x : Int) + (y : Int)) = (s : Int) := by rw [IntWalk.i64_in _ (by omega)]; have := HS.out; omega
          have hs2 : s ≤ 4000000 := by have := HS.out; omega
          obtain ⟨h, HH⟩ : ∃ h, Hid (s / 2 = h) := ⟨_, Lib.hid rfl⟩
          have hsh : (s : Int) / 2 = (h : Int) := by have := HH.out; omega
          have hih : x ≤ h ∧ h < y := by have := HH.out; have := HS.out; omega
          have hh1 : x ≤ h := hih.1
          have hh2 : h < y := hih.2
          clear hih
          obtain ⟨v, HV⟩ : ∃ v, Hid (N - 1 - h = v) := ⟨_, Lib.hid rfl⟩
          have hv : M ≤ v ∧ v < B ∧ v + h + 1 = N := by have := HV.out; have := HN.out; omega
          have hv1 : M ≤ v := hv.1
          have hv2 : v < B := hv.2.1
          have hv3 : v + h + 1 = N := hv.2.2
          clear hv
          have hAh : A ≤ h := by omega
          have hhM : h < M := by omega
          have hwv : IntKind.i64.wrap ((P : Int) - (h : Int)) = (v : Int) := by rw [IntWalk.i64_in _ (by omega)]; omega
          have HKK := Lib.hid (HK.out h v (by omega) (by omega) (by omega) (by omega))
          have HCW := Lib.hid (fun pp => HCMP.out ws HG.out h v (by omega) (by omega) (by omega) (by omega) pp)
          obtain ⟨z, HZ⟩ : ∃ z, Hid (zf (f v) (f h) = z) := ⟨_, Lib.hid rfl⟩
          obtain ⟨q, HQ⟩ : ∃ q : Nat, Hid (f v = q) := ⟨_, Lib.hid rfl⟩
          obtain ⟨p, HP⟩ : ∃ p : Nat, Hid (f h = p) := ⟨_, Lib.hid rfl⟩
          rw [HZ.out] at HKK HCW
          rw [HQ.out, HP.out] at HKK HCW
          have y1 := (IntS.at_ HI.out (j := v) (by rw [lst_length]; omega)).1
          have x1 := (IntS.at_ HI.out (j := h) (by rw [lst_length]; omega)).1
          rw [lst_nth _ (by omega), HQ.out] at y1
          rw [lst_nth _ (by omega), HP.out] at x1
          have ey : ∀ pp, (ext ws pp).cell? ⟨b, o + v, none⟩ = some (.int .i64 (q : Nat)) := ext_cell ws (a := ⟨b, o + v, none⟩) (by show b < _; omega) y1
          have ex : ∀ pp, (ext ws pp).cell? ⟨b, o + h, none⟩ = some (.int .i64 (p : Nat)) := ext_cell ws (a := ⟨b, o + h, none⟩) (by show b < _; omega) x1
          clear y1 x1
          have hvn : ((v : Nat) : Int) < (n : Int) := by omega
          have hun : ((h : Nat) : Int) < (n : Int) := by omega
          have hwh : IntKind.i64.wrap ((h : Int) + 1) = ((h + 1 : Nat) : Int) := by rw [IntWalk.i64_in _ (by omega)]; omega
          obtain ⟨h', HH1⟩ : ∃ k, Hid (h + 1 = k) := ⟨_, Lib.hid rfl⟩
          rw [HH1.out] at hwh
          have hne : z < 0 → R q p := HKK.out.1.1
          have hge : ¬ z < 0 → R p q := fun hz => by
            have h3 : ¬ R q p := fun h => hz (HKK.out.1.2 h)
            by_cases h4 : R p q
            · exact h4
            · exact absurd (HO.out.tri h3 h4) HKK.out.2
          have HNE := Lib.hid hne; clear hne
          have HGE := Lib.hid hge; clear hge
          by_cases hz : z < 0
          · have hzd : decide (z < 0) = true := decide_eq_true hz
            have HUN := Lib.hid (show h = M ∨ (h < M ∧ R (f (N - 1 - h)) (f h)) from .inr ⟨by omega, by rw [HV.out, HQ.out, HP.out]; exact HNE.out hz⟩)
            go_wp2_with fail
            refine wp_region_ext (by kernel_rfl) (by kernel_rfl) ?_
            repeat (go_big_quiet_step ((first | (go_at_fn fid; exact ext_call (HCW.out _)))))
            refine wpQuiet_nil ?_
            rintro w9 ⟨pp, rfl⟩
            clear ey ex
            obtain ⟨W2, HW2⟩ : ∃ W, Hid (W = ext ws pp) := ⟨_, Lib.hid rfl⟩
            rw [← HW2.out]
            have hg2 : ws.grownBy W2 none := by rw [HW2.out]; exact grown_below (ext_below _ _)
            clear HW2
            have HIN := Lib.hid (IntS.still HI.out hg2 (by omega))
            have HGN2 := Lib.hid (grownBy_trans HG.out (grown_any hg2))
            go_wp2_with fail
            go_roundw
            case rel => exact ⟨x, h, hsx, hh1, by omega, rfl, by go_num, HLO, HUN, HIN, HGN2⟩
            case measure => simp [intOf]; have := HH1.out; omega
          · have hzd : decide (z < 0) = false := decide_eq_false hz
            have HLN := Lib.hid (show h' = A ∨ (A < h' ∧ R (f (h' - 1)) (f (N - h'))) from .inr ⟨by have := HH1.out; omega, by rw [show h' - 1 = h by have := HH1.out; omega, show N - h' = v by have := HH1.out; omega, HQ.out, HP.out]; exact HGE.out hz⟩)
            go_wp2_with fail
            refine wp_region_ext (by kernel_rfl) (by kernel_rfl) ?_
            repeat (go_big_quiet_step ((first | (go_at_fn fid; exact ext_call (HCW.out _)))))
            refine wpQuiet_nil ?_
            rintro w9 ⟨pp, rfl⟩
            clear ey ex
            obtain ⟨W2, HW2⟩ : ∃ W, Hid (W = ext ws pp) := ⟨_, Lib.hid rfl⟩
            rw [← HW2.out]
            have hg2 : ws.grownBy W2 none := by rw [HW2.out]; exact grown_below (ext_below _ _)
            clear HW2
            have HIN := Lib.hid (IntS.still HI.out hg2 (by omega))
            have HGN2 := Lib.hid (grownBy_trans HG.out (grown_any hg2))
            go_wp2_with fail
            go_roundw
            case rel => exact ⟨h', y, by have := HH1.out; omega, by have := HH1.out; omega, hyr, by go_num, rfl, HLN, HUP, HIN, HGN2⟩
            case measure => simp [intOf]; have := HH1.out; omega

end Go.Proofs.YtakcjdlliejldaaGreat

/- Contract: slices.SortStableFunc at []int, on the numbers from 0 to n-1 in order (n at most 40). -/
namespace Go.Proofs.YtakcjdlliejldaaGreat
open Go.ChangeShapes Go.WideShapes Go.ChangeAt Go.RowKit
set_option linter.unusedVariables false

/-- the places' own numbers -/
def idN : Nat → Nat := fun i => i
theorem Mrg.none {R : Nat → Nat → Prop} {f g : Nat → Nat} {a : Nat} (h : Mrg R f g a a) : g = f := funext fun x => h.out x (by omega)
/-- the first block is in order, and what lies behind it -/
def Blk (R : Nat → Nat → Prop) (n : Nat) (g : Nat → Nat) : Prop := (n ≤ 20 ∧ Mrg R idN g 0 n) ∨ (20 ≤ n ∧ ∃ g1, Mrg R idN g1 0 20 ∧ Mrg R g1 g 20 n)
theorem Blk.low {R : Nat → Nat → Prop} {n : Nat} {g : Nat → Nat} (h : Blk R n g) (hn : n ≤ 20) : Mrg R idN g 0 n := by
  rcases h with h | ⟨h1, g1, h2, h3⟩
  · exact h.2
  · obtain rfl : n = 20 := by omega
    rw [h3.none]; exact h2
structure Two (R : Nat → Nat → Prop) (n : Nat) (g : Nat → Nat) : Prop where
  lt : ∀ i, i < n → g i < n
  fst : Srt R g 0 20
  snd : Srt R g 20 n
  ord : ∀ u v, u < 20 → 20 ≤ v → v < n → g u < g v
  all : ∀ g', Mrg R g g' 0 n → Mrg R idN g' 0 n
theorem Blk.two {R : Nat → Nat → Prop} {n : Nat} {g : Nat → Nat} (h : Blk R n g) (hn : 20 < n) : Two R n g := by
  rcases h with h | ⟨h1, g1, h2, h3⟩
  · omega
  have e1 : ∀ i, i < 20 → g i = g1 i := fun i hi => h3.out i (.inl hi)
  have e2 : ∀ i, 20 ≤ i → g1 i = i := fun i hi => h2.out i (.inr hi)
  have l1 : ∀ i, i < 20 → g i < 20 := fun i hi => by
    obtain ⟨y, a1, a2, a3⟩ := h2.mem (x := i) (by omega) hi
    rw [e1 i hi, a3]; exact a2
  have l2 : ∀ i, 20 ≤ i → i < n → 20 ≤ g i ∧ g i < n := fun i hi hi2 => by
    obtain ⟨y, a1, a2, a3⟩ := h3.mem (x := i) hi hi2
    rw [a3, e2 y a1]; omega
  refine ⟨fun i hi => ?_, h2.srt.congr fun i _ hi => e1 i hi, h3.srt, fun u v a1 a2 a3 => by have := l1 u a1; have := l2 v a2 a3; omega, fun g' hm => ⟨fun x hx => ?_, ?_, hm.srt⟩⟩
  · rcases Nat.lt_or_ge i 20 with h | h
    · have := l1 i h; omega
    · exact (l2 i h hi).2
  · rw [hm.out x hx, h3.out x (by omega), h2.out x (by omega)]
  · refine hm.perm.trans ?_
    rw [seg_split g (show 0 ≤ 20 by omega) (show 20 ≤ n by omega), seg_split idN (show 0 ≤ 20 by omega) (show 20 ≤ n by omega)]
    refine List.Perm.append ?_ ?_
    · rw [seg_congr (f := g) (g := g1) (fun i _ hi => e1 i hi)]; exact h2.perm
    · rw [← seg_congr (f := g1) (g := idN) (fun i hi _ => e2 i hi)]; exact h3.perm
/-- where the loop over the blocks stands -/
def BlkAt (R : Nat → Nat → Prop) (a : Nat) (g : Nat → Nat) : Prop := (a = 0 ∧ g = idN) ∨ (a = 20 ∧ Mrg R idN g 0 20) ∨ (a = 40 ∧ ∃ g1, Mrg R idN g1 0 20 ∧ Mrg R g1 g 20 40)
theorem BlkAt.id {R : Nat → Nat → Prop} {a : Nat} {g : Nat → Nat} (h : BlkAt R a g) : ∀ i, a ≤ i → g i = i := fun i hi => by
  rcases h with ⟨rfl, rfl⟩ | ⟨rfl, h⟩ | ⟨rfl, g1, h1, h2⟩
  · rfl
  · exact h.out i (.inr hi)
  · rw [h2.out i (.inr hi), h1.out i (.inr (by omega))]; rfl
theorem BlkAt.next {R : Nat → Nat → Prop} {a : Nat} {g g' : Nat → Nat} (h : BlkAt R a g) (ha : a + 20 ≤ 40) (hm : Mrg R g g' a (a + 20)) : BlkAt R (a + 20) g' := by
  rcases h with ⟨rfl, rfl⟩ | ⟨rfl, h⟩ | ⟨rfl, g1, h1, h2⟩
  · exact .inr (.inl ⟨rfl, hm⟩)
  · exact .inr (.inr ⟨rfl, g, h, hm⟩)
  · omega
theorem BlkAt.end {R : Nat → Nat → Prop} {a n : Nat} {g g' : Nat → Nat} (h : BlkAt R a g) (ha : a ≤ n) (hn : n < a + 20) (h40 : n ≤ 40) (hm : Mrg R g g' a n) : Blk R n g' := by
  rcases h with ⟨rfl, rfl⟩ | ⟨rfl, h⟩ | ⟨rfl, g1, h1, h2⟩
  · exact .inl ⟨by omega, hm⟩
  · exact .inr ⟨ha, g, h, hm⟩
  · obtain rfl : n = 40 := by omega
    rw [hm.none]; exact .inr ⟨by omega, g1, h1, h2⟩

set_option maxHeartbeats 8000000 in
set_option maxRecDepth 100000 in
theorem stable_any (fid : Nat) (caps : Array Value) (eg : ∀ args w, (callFunc fid args).run Tryz.prog w = .ok (.enter fid args) w) (zf : Nat → Nat → Int) (R : Nat → Nat → Prop) (O : Ord3 R) (b o n c : Nat) (w : World) (h : IntS w b (b + 1) (.slice (some ⟨b, o, none⟩) n c) (lst n idN)) (hb : b < w.heap.size) (hn : n ≤ 40)
    (hC : CmpC fid caps w b n zf) (hK : ∀ x y, x < n → y < x → ((zf x y < 0 ↔ R x y) ∧ x ≠ y)) :
    Calls Tryz.prog 82 #[.slice (some ⟨b, o, none⟩) n c, .int .i64 (n : Nat), .func (.func fid) #[] caps] w fun e w' => ∃ g, e = .returned (.tuple #[]) ∧ Mrg R idN g 0 n ∧ IntS w' b (b + 1) (.slice (some ⟨b, o, none⟩) n c) (lst n g) ∧ w.grownBy w' (some b) := by
  have H0 := Lib.hid h; clear h
  have HC := Lib.hid hC; clear hC
  have HK := Lib.hid hK; clear hK
  have HO := Lib.hid O; clear O
  go_enter Tryz.func82, Tryz.ntmps82
  go_wp2_with fail
  go_loopw [7, 8] (fun av bv wr => ∃ (a e : Nat) (g : Nat → Nat), a ≤ n ∧ av = .int .i64 a ∧ bv = .int .i64 e ∧ Hid (e = a + 20) ∧ Hid (BlkAt R a g) ∧ Hid (IntS wr b (b + 1) (.slice (some ⟨b, o, none⟩) n c) (lst n g)) ∧ Hid (w.grownBy wr (some b))) (fun av bv _ => 100 - (intOf bv).toNat)
  case atStart => exact ⟨0, 20, idN, Nat.zero_le _, rfl, rfl, Lib.hid rfl, Lib.hid (.inl ⟨rfl, rfl⟩), H0, Lib.hid (World.grownBy.refl _ _)⟩
  case round =>
    obtain ⟨a, e, g, han, rfl, rfl, HEA, HBA, HI, HG⟩ := hrel
    have hsr := HG.out.size
    have HLT := Lib.hid (show ∀ i, i < n → g i < n from fun i hi => by
      rcases HBA.out with ⟨_, rfl⟩ | ⟨h1, h2⟩ | ⟨h1, g1, h2, h3⟩
      · exact hi
      · exact h2.lt (fun i hi => hi) (by omega) i hi
      · exact h3.lt (h2.lt (fun i hi => hi) (by omega)) (by omega) i hi)
    by_cases hen : e ≤ n
    · have heni : (e : Int) ≤ (n : Int) := by omega
      have hae : a ≤ e := by have := HEA.out; omega
      have hwe : IntKind.i64.wrap ((e : Int) + 20) = ((e + 20 : Nat) : Int) := by rw [IntWalk.i64_in _ (by omega)]; omega
      obtain ⟨e2, HE2⟩ : ∃ k, Hid (e + 20 = k) := ⟨_, Lib.hid rfl⟩
      rw [HE2.out] at hwe
      go_wp2_with fail
      refine (insertion_any fid caps eg zf R HO.out b o n c g a e _ HI.out (by omega) hae hen (by omega) HLT.out (HC.out.far HG.out) (fun i j a1 a2 a3 => by rw [HBA.out.id i (by omega), HBA.out.id j a1]; exact HK.out i j (by omega) a2)).mono ?_
      rintro e9 w1 ⟨g', rfl, hm, h1, hg1⟩
      have HBN := Lib.hid (show BlkAt R e g' by rw [HEA.out] at hm ⊢; exact HBA.out.next (by have := HEA.out; omega) hm)
      have HI1 := Lib.hid h1; clear h1 hm
      have HG1 := Lib.hid (grownBy_trans HG.out hg1); clear hg1
      go_wp2_with fail
      go_roundw
      case rel => exact ⟨e, e2, g', hen, rfl, by go_num, Lib.hid HE2.out.symm, HBN, HI1, HG1⟩
      case measure => simp [intOf]; have := HE2.out; omega
    · have heni : ¬ (e : Int) ≤ (n : Int) := by omega
      go_wp2_with fail
      refine (insertion_any fid caps eg zf R HO.out b o n c g a n _ HI.out (by omega) han (Nat.le_refl _) (by omega) HLT.out (HC.out.far HG.out) (fun i j a1 a2 a3 => by rw [HBA.out.id i (by omega), HBA.out.id j a1]; exact HK.out i j a3 a2)).mono ?_
      rintro e9 w1 ⟨g', rfl, hm, h1, hg1⟩
      have HBN := Lib.hid (show Blk R n g' from HBA.out.end han (by have := HEA.out; omega) hn hm)
      have HI1 := Lib.hid h1; clear h1 hm
      have HG1 := Lib.hid (grownBy_trans HG.out hg1); clear hg1 HBA HLT HI HG
      have hsz1 := HG1.out.size
      go_wp2_with fail
      go_loopw [6] (fun kv wr => ∃ (k : Nat) (g : Nat → Nat), kv = .int .i64 k ∧ Hid ((k = 20 ∧ Blk R n g) ∨ (k = 40 ∧ Mrg R idN g 0 n)) ∧ Hid (IntS wr b (b + 1) (.slice (some ⟨b, o, none⟩) n c) (lst n g)) ∧ Hid (w.grownBy wr (some b))) (fun kv _ => 100 - (intOf kv).toNat)
      case atStart => exact ⟨20, g', rfl, Lib.hid (.inl ⟨rfl, HBN.out⟩), HI1, HG1⟩
      case round =>
        clear HI1 HG1 HBN
        obtain ⟨k, g, rfl, HKB, HI, HG⟩ := hrel
        have hsr2 := HG.out.size
        obtain ⟨ws, rfl⟩ : ∃ ws : World, ws = wr := ⟨_, rfl⟩
        by_cases hkn : k < n
        case neg =>
          have hkni : ¬ (k : Int) < (n : Int) := by omega
          have HM := Lib.hid (show Mrg R idN g 0 n by
            rcases HKB.out with ⟨h1, h2⟩ | ⟨h1, h2⟩
            · exact h2.low (by omega)
            · exact h2)
          go_wp2_with fail
          (first | go_end0 | ((try simp only [Exit.inBlock, Exit.then]); refine bodyPost_ret (results_none rfl _ _ _) rfl ?_))
          first | exact ⟨rfl, _, HM.out, HI.out, HG.out⟩ | exact ⟨_, rfl, HM.out, HI.out, HG.out⟩
        have hkni : (k : Int) < (n : Int) := by omega
        have hk20 : k = 20 ∧ Blk R n g := by
          rcases HKB.out with h1 | ⟨h1, h2⟩
          · exact h1
          · omega
        have HBL := Lib.hid hk20.2
        have HK20 := Lib.hid hk20.1
        clear hk20 HKB
        have HTW := Lib.hid (HBL.out.two (by have := HK20.out; omega))
        have hTK : ∀ u v, 0 ≤ u → u < k → k ≤ v → v < n → ((zf (g v) (g u) < 0 ↔ R (g v) (g u)) ∧ g v ≠ g u) := fun u v a1 a2 a3 a4 => HK.out (g v) (g u) (HTW.out.lt v a4) (HTW.out.ord u v (by have := HK20.out; omega) (by have := HK20.out; omega) a4)
        have HTK := Lib.hid hTK; clear hTK
        have HS1 := Lib.hid (show Srt R g 0 k by rw [HK20.out]; exact HTW.out.fst)
        have HS2 := Lib.hid (show Srt R g k n by rw [HK20.out]; exact HTW.out.snd)
        have hw2k : IntKind.i64.wrap (2 * (k : Int)) = ((2 * k : Nat) : Int) := by rw [IntWalk.i64_in _ (by omega)]; omega
        have hwk2 : IntKind.i64.wrap ((k : Int) * 2) = ((2 * k : Nat) : Int) := by rw [IntWalk.i64_in _ (by omega)]; omega
        obtain ⟨k2, HK2⟩ : ∃ q, Hid (2 * k = q) := ⟨_, Lib.hid rfl⟩
        rw [HK2.out] at hw2k hwk2
        have hk40 : k2 = 40 := by have := HK2.out; have := HK20.out; omega
        have hk0 : 0 < k := by have := HK20.out; omega
        have HK40 := Lib.hid hk40; clear hk40
        have hw0k : IntKind.i64.wrap (0 + (k : Int)) = (k : Int) := by rw [IntWalk.i64_in _ (by omega)]; omega
        have hw0k2 : IntKind.i64.wrap (k : Int) = (k : Int) := IntWalk.i64_in _ (by omega)
        go_wp2_with fail
        go_loopw [7, 8] (fun av bv wr => ∃ (a e : Nat) (g2 : Nat → Nat), av = .int .i64 a ∧ bv = .int .i64 e ∧ Hid ((a = 0 ∧ e = k2 ∧ g2 = g) ∨ (a = 40 ∧ 80 ≤ e ∧ e ≤ 80 ∧ Mrg R idN g2 0 n)) ∧ Hid (IntS wr b (b + 1) (.slice (some ⟨b, o, none⟩) n c) (lst n g2)) ∧ Hid (w.grownBy wr (some b))) (fun av bv _ => 100 - (intOf bv).toNat)
        case atStart => exact ⟨0, k2, g, rfl, rfl, Lib.hid (.inl ⟨rfl, rfl, rfl⟩), HI, HG⟩
        case round =>
          clear HI HG
          obtain ⟨a, e, g2, rfl, rfl, HAE, HI, HG⟩ := hrel
          have hsr3 := HG.out.size
          obtain ⟨wt, rfl⟩ : ∃ wt : World, wt = wr := ⟨_, rfl⟩
          have ha40 : a ≤ 40 ∧ e ≤ 80 := by rcases HAE.out with ⟨h1, h2, _⟩ | ⟨h1, h2, h3, _⟩ <;> have := HK40.out <;> omega
          have ha41 := ha40.1
          have he41 := ha40.2
          clear ha40
          have hwak : IntKind.i64.wrap ((a : Int) + (k : Int)) = ((a + k : Nat) : Int) := by rw [IntWalk.i64_in _ (by omega)]; omega
          obtain ⟨m, HMM⟩ : ∃ q, Hid (a + k = q) := ⟨_, Lib.hid rfl⟩
          rw [HMM.out] at hwak
          have hwek : IntKind.i64.wrap ((e : Int) + (k2 : Int)) = ((e + k2 : Nat) : Int) := by rw [IntWalk.i64_in _ (by have := HK40.out; omega)]; omega
          obtain ⟨e2, HE2⟩ : ∃ q, Hid (e + k2 = q) := ⟨_, Lib.hid rfl⟩
          rw [HE2.out] at hwek
          by_cases hen : e ≤ n
          · have heni : (e : Int) ≤ (n : Int) := by omega
            have hc : a = 0 ∧ e = k2 ∧ g2 = g := by
              rcases HAE.out with h1 | ⟨h1, h2, h3, _⟩
              · exact h1
              · omega
            obtain ⟨hc1, hc2, hc3⟩ := hc
            subst hc3
            have HC1 := Lib.hid hc1; clear hc1
            have HC2 := Lib.hid hc2; clear hc2
            have HM20 := Lib.hid (show m = k by have := HMM.out; have := HC1.out; omega)
            have HEN := Lib.hid (show e = n by have := HC2.out; have := HK40.out; omega)
            go_wp2_with fail
            refine (symMerge_any fid caps eg zf R HO.out b o n c (by omega) (e - a) g2 a m e _ (Nat.le_refl _) HI.out (by omega) (by have := HM20.out; have := HC1.out; omega) (by have := HM20.out; have := HEN.out; omega) hen HTW.out.lt (HC.out.far HG.out) (by rw [HC1.out, HM20.out]; exact HS1.out) (by rw [HM20.out, HEN.out]; exact HS2.out) (fun u v a1 a2 a3 a4 => HTK.out u v (Nat.zero_le _) (by rw [← HM20.out]; exact a2) (by rw [← HM20.out]; exact a3) (by rw [← HEN.out]; exact a4))).mono ?_
            rintro e9 w1 ⟨g', rfl, hm, h1, hg1⟩
            have HMF := Lib.hid (show Mrg R idN g' 0 n from HTW.out.all g' (by rw [HC1.out, HEN.out] at hm; exact hm))
            have HI1 := Lib.hid h1; clear h1 hm
            have HG1 := Lib.hid (grownBy_trans HG.out hg1); clear hg1
            go_wp2_with fail
            go_roundw
            case rel => exact ⟨e, e2, g', rfl, by go_num, Lib.hid (.inr ⟨by have := HC2.out; have := HK40.out; omega, by have := HE2.out; have := HC2.out; have := HK40.out; omega, by have := HE2.out; have := HC2.out; have := HK40.out; omega, HMF.out⟩), HI1, HG1⟩
            case measure => simp [intOf]; have := HE2.out; have := HK40.out; omega
          · have heni : ¬ (e : Int) ≤ (n : Int) := by omega
            by_cases hmn : m < n
            · have hmni : (m : Int) < (n : Int) := by omega
              have hc : a = 0 ∧ g2 = g := by
                rcases HAE.out with ⟨h1, _, h2⟩ | ⟨h1, h2, h3, _⟩
                · exact ⟨h1, h2⟩
                · have := HMM.out; omega
              obtain ⟨hc1, hc3⟩ := hc
              subst hc3
              have HC1 := Lib.hid hc1; clear hc1
              have HM20 := Lib.hid (show m = k by have := HMM.out; have := HC1.out; omega)
              go_wp2_with fail
              refine (symMerge_any fid caps eg zf R HO.out b o n c (by omega) (n - a) g2 a m n _ (Nat.le_refl _) HI.out (by omega) (by have := HM20.out; have := HC1.out; omega) hmn (Nat.le_refl _) HTW.out.lt (HC.out.far HG.out) (by rw [HC1.out, HM20.out]; exact HS1.out) (by rw [HM20.out]; exact HS2.out) (fun u v a1 a2 a3 a4 => HTK.out u v (Nat.zero_le _) (by rw [← HM20.out]; exact a2) (by rw [← HM20.out]; exact a3) a4)).mono ?_
              rintro e9 w1 ⟨g', rfl, hm, h1, hg1⟩
              have HMF := Lib.hid (show Mrg R idN g' 0 n from HTW.out.all g' (by rw [HC1.out] at hm; exact hm))
              have HI1 := Lib.hid h1; clear h1 hm
              have HG1 := Lib.hid (grownBy_trans HG.out hg1); clear hg1
              go_wp2_with fail
              go_roundw
              case rel => exact ⟨k2, g', by go_num, Lib.hid (.inr ⟨HK40.out, HMF.out⟩), HI1, HG1⟩
              case measure => simp [intOf]; have := HK40.out; have := HK20.out; omega
            · have hmni : ¬ (m : Int) < (n : Int) := by omega
              have HMF := Lib.hid (show Mrg R idN g2 0 n by
                rcases HAE.out with ⟨h1, _, h2⟩ | ⟨h1, h2, h3, h4⟩
                · have := HMM.out; omega
                · exact h4)
              go_wp2_with fail
              go_roundw
              case rel => exact ⟨k2, g2, by go_num, Lib.hid (.inr ⟨HK40.out, HMF.out⟩), HI, HG⟩
              case measure => simp [intOf]; have := HK40.out; have := HK20.out; omega
set_option maxHeartbeats 1000000 in
set_option maxRecDepth 100000 in
theorem SortStable_any (fid : Nat) (caps : Array Value) (eg : ∀ args w, (callFunc fid args).run Tryz.prog w = .ok (.enter fid args) w) (zf : Nat → Nat → Int) (R : Nat → Nat → Prop) (O : Ord3 R) (b o n c : Nat) (w : World) (h : IntS w b (b + 1) (.slice (some ⟨b, o, none⟩) n c) (lst n idN)) (hb : b < w.heap.size) (hn : n ≤ 40)
    (hC : CmpC fid caps w b n zf) (hK : ∀ x y, x < n → y < x → ((zf x y < 0 ↔ R x y) ∧ x ≠ y)) :
    Calls Tryz.prog 50 #[.slice (some ⟨b, o, none⟩) n c, .func (.func fid) #[] caps] w fun e w' => ∃ g, e = .returned (.tuple #[]) ∧ Mrg R idN g 0 n ∧ IntS w' b (b + 1) (.slice (some ⟨b, o, none⟩) n c) (lst n g) ∧ w.grownBy w' (some b) := by
  go_enter Tryz.func50, Tryz.ntmps50
  go_wp2_with fail
  refine (stable_any fid caps eg zf R O b o n c w h hb hn hC hK).mono ?_
  rintro e w' ⟨g, rfl, h1, h2, h3⟩
  go_wp2_with fail
  (first | go_end0 | ((try simp only [Exit.inBlock, Exit.then]); refine bodyPost_ret (results_none rfl _ _ _) rfl ?_))
  first | exact ⟨rfl, _, h1, h2, h3⟩ | exact ⟨_, rfl, h1, h2, h3⟩

end Go.Proofs.YtakcjdlliejldaaGreat
