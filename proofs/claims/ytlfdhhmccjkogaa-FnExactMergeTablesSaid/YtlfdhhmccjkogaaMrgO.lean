/-
  Plain: the order of rows, and putting rows into a table. No program.
-/
import Derived.Test.YtlfdhhmccjkogaaTab
import Derived.Lib.Bytealg
namespace Go.Proofs.Ytlfdhhmccjkogaa
set_option linter.unusedVariables false

/-! ### the order of texts -/
theorem bl_irr : ∀ a : List UInt8, Op.bytesLess a a = false
  | [] => rfl
  | a :: x => by simp [Op.bytesLess, bl_irr x]
theorem bl_trans : ∀ a b c : List UInt8, Op.bytesLess a b = true → Op.bytesLess b c = true → Op.bytesLess a c = true
  | [], [], _, h, _ => by simp [Op.bytesLess] at h
  | [], _ :: _, [], _, h => by simp [Op.bytesLess] at h
  | [], _ :: _, _ :: _, _, _ => by simp [Op.bytesLess]
  | _ :: _, [], _, h, _ => by simp [Op.bytesLess] at h
  | _ :: _, _ :: _, [], _, h => by simp [Op.bytesLess] at h
  | a :: x, b :: y, c :: z, h, k => by
    simp only [Op.bytesLess, Bool.or_eq_true, decide_eq_true_eq, Bool.and_eq_true, beq_iff_eq] at h k ⊢
    rcases h with h | ⟨rfl, h⟩
    · rcases k with k | ⟨rfl, k⟩
      · exact .inl (UInt8.lt_trans h k)
      · exact .inl h
    · rcases k with k | ⟨rfl, k⟩
      · exact .inl k
      · exact .inr ⟨rfl, bl_trans x y z h k⟩
theorem bl_tri : ∀ a b : List UInt8, Op.bytesLess a b = false → Op.bytesLess b a = false → a = b
  | [], [], _, _ => rfl
  | [], _ :: _, h, _ => by simp [Op.bytesLess] at h
  | _ :: _, [], _, h => by simp [Op.bytesLess] at h
  | a :: x, b :: y, h, k => by
    simp only [Op.bytesLess, Bool.or_eq_false_iff, decide_eq_false_iff_not, Bool.and_eq_false_iff] at h k
    have e : a = b := UInt8.le_antisymm (UInt8.not_lt.1 k.1) (UInt8.not_lt.1 h.1)
    subst e
    have h2 : Op.bytesLess x y = false := by rcases h.2 with h | h; simp at h; exact h
    have k2 : Op.bytesLess y x = false := by rcases k.2 with h | h; simp at h; exact h
    rw [bl_tri x y h2 k2]
theorem cb_eq : ∀ a b : List UInt8, Lib.compareBytes a b = if Op.bytesLess a b = true then -1 else if Op.bytesLess b a = true then 1 else 0
  | [], [] => rfl
  | [], _ :: _ => rfl
  | _ :: _, [] => rfl
  | a :: x, b :: y => by
    rw [Lib.compareBytes]
    simp only [Op.bytesLess, Bool.or_eq_true, decide_eq_true_eq, Bool.and_eq_true, beq_iff_eq]
    by_cases h1 : a < b
    · simp [h1]
    · by_cases h2 : b < a
      · have : ¬ a = b := fun e => by subst e; exact h1 h2
        have e3 : ¬ b = a := fun e => this e.symm
        simp [h1, h2, this]
      · have e : a = b := UInt8.le_antisymm (UInt8.not_lt.1 h2) (UInt8.not_lt.1 h1)
        subst e
        simp only [h1, false_or, true_and, if_false]
        exact cb_eq x y
theorem toList_inj {a b : ByteArray} (h : a.toList = b.toList) : a = b := by
  rw [Lib.toList_data, Lib.toList_data] at h
  obtain ⟨⟨l⟩⟩ := a
  obtain ⟨⟨m⟩⟩ := b
  simp only at h
  rw [h]
theorem sLt_irr (a : ByteArray) : sLt a a = false := bl_irr _
theorem sLt_trans {a b c : ByteArray} (h : sLt a b = true) (k : sLt b c = true) : sLt a c = true := bl_trans _ _ _ h k
theorem sLt_tri {a b : ByteArray} (h : sLt a b = false) (k : sLt b a = false) : a = b := toList_inj (bl_tri _ _ h k)
theorem sLt_asym {a b : ByteArray} (h : sLt a b = true) : sLt b a = false := by
  cases e : sLt b a with
  | false => rfl
  | true => have := sLt_trans h e; rw [sLt_irr] at this; cases this
theorem sLt_ne {a b : ByteArray} (h : sLt a b = true) : a ≠ b := fun e => by subst e; rw [sLt_irr] at h; cases h
/-- texts compared -/
def cmpB (a b : ByteArray) : Int := Lib.compareBytes a.data.toList b.data.toList
theorem cmpB_eq (a b : ByteArray) : cmpB a b = if sLt a b = true then -1 else if sLt b a = true then 1 else 0 := by
  unfold cmpB sLt
  rw [cb_eq, Lib.toList_data, Lib.toList_data]
/-- numbers compared -/
def cmpN (a b : Int) : Int := if a < b then -1 else if b < a then 1 else 0

abbrev Rw := ByteArray × Int
/-- rows compared: by their texts, then by their numbers -/
def cfR (r s : Rw) : Int := if cmpB r.1 s.1 = 0 then cmpN r.2 s.2 else cmpB r.1 s.1
def ltR (r s : Rw) : Prop := sLt r.1 s.1 = true ∨ r.1 = s.1 ∧ r.2 < s.2
theorem ltR_irr (r : Rw) : ¬ ltR r r := by
  rintro (h | ⟨_, h⟩)
  · rw [sLt_irr] at h; cases h
  · omega
theorem ltR_trans {r s t : Rw} (h : ltR r s) (k : ltR s t) : ltR r t := by
  rcases h with h | ⟨e, h⟩ <;> rcases k with k | ⟨e', k⟩
  · exact .inl (sLt_trans h k)
  · exact .inl (e' ▸ h)
  · exact .inl (e ▸ k)
  · exact .inr ⟨e.trans e', by omega⟩
theorem ltR_tri {r s : Rw} (h : ¬ ltR r s) (k : ¬ ltR s r) : r = s := by
  unfold ltR at h k
  simp only [not_or, not_and, Bool.not_eq_true] at h k
  have e := sLt_tri h.1 k.1
  have h2 := h.2 e
  have k2 := k.2 e.symm
  exact Prod.ext e (by omega)
/-- one of each run among the first k rows -/
def cUp (S : List Rw) : Nat → List Rw
  | 0 => []
  | k + 1 => if k = 0 ∨ nthR S k ≠ nthR S (k - 1) then cUp S k ++ [nthR S k] else cUp S k
theorem cUp_len (S : List Rw) : ∀ k, (cUp S k).length ≤ k
  | 0 => Nat.le_refl _
  | k + 1 => by
    have := cUp_len S k
    unfold cUp
    split
    · simp; omega
    · omega
theorem cUp_mem (S : List Rw) (x : Rw) : ∀ k, x ∈ cUp S k ↔ ∃ j, j < k ∧ nthR S j = x
  | 0 => by simp [cUp]
  | k + 1 => by
    have ih := cUp_mem S x k
    unfold cUp
    split
    · rw [List.mem_append, ih, List.mem_singleton]
      constructor
      · rintro (⟨j, hj, e⟩ | rfl)
        · exact ⟨j, by omega, e⟩
        · exact ⟨k, by omega, rfl⟩
      · rintro ⟨j, hj, e⟩
        by_cases h : j = k
        · subst h; exact .inr e.symm
        · exact .inl ⟨j, by omega, e⟩
    · rename_i hn
      simp only [not_or, Decidable.not_not] at hn
      rw [ih]
      constructor
      · rintro ⟨j, hj, e⟩; exact ⟨j, by omega, e⟩
      · rintro ⟨j, hj, e⟩
        by_cases h : j = k
        · subst h; exact ⟨j - 1, by omega, by rw [← hn.2]; exact e⟩
        · exact ⟨j, by omega, e⟩
theorem cUp_lt (S : List Rw) (hS : S.Pairwise fun r s => ¬ ltR s r) : ∀ k, k ≤ S.length → (cUp S k).Pairwise ltR
  | 0, _ => List.Pairwise.nil
  | k + 1, h => by
    have ih := cUp_lt S hS k (by omega)
    unfold cUp
    split
    · rename_i hn
      rw [List.pairwise_append]
      refine ⟨ih, List.pairwise_singleton _ _, fun a ha b hb => ?_⟩
      rw [List.mem_singleton] at hb
      subst hb
      obtain ⟨j, hj, rfl⟩ := (cUp_mem S a k).1 ha
      rcases hn with rfl | hn
      · omega
      have le : ∀ i m, i < m → m < S.length → ¬ ltR (nthR S m) (nthR S i) := fun i m h1 h2 => by
        rw [nthR_eq h2, nthR_eq (by omega : i < S.length)]
        exact List.pairwise_iff_getElem.1 hS i m (by omega) h2 h1
      have h1 : ltR (nthR S (k - 1)) (nthR S k) := Classical.byContradiction fun hc => hn (ltR_tri (le (k - 1) k (by omega) (by omega)) hc)
      by_cases e : j = k - 1
      · subst e; exact h1
      · have h2 := le j (k - 1) (by omega) (by omega)
        by_cases h3 : ltR (nthR S j) (nthR S (k - 1))
        · exact ltR_trans h3 h1
        · rw [ltR_tri h3 h2]; exact h1
    · exact ih
/-! ### putting rows in -/
def strictR (M : List Rw) : Prop := M.Pairwise fun r s => sLt r.1 s.1 = true
theorem strictR.lt {M : List Rw} (h : strictR M) : M.Pairwise ltR := h.imp fun h => .inl h
theorem sorted_ext : ∀ {A B : List Rw}, A.Pairwise ltR → B.Pairwise ltR → (∀ x, x ∈ A ↔ x ∈ B) → A = B
  | [], [], _, _, _ => rfl
  | [], b :: l, _, _, h => by have := (h b).2 (by simp); cases this
  | a :: l, [], _, _, h => by have := (h a).1 (by simp); cases this
  | a :: l, b :: m, hA, hB, h => by
    rw [List.pairwise_cons] at hA hB
    have e : a = b := by
      have h1 := (h a).1 (by simp)
      have h2 := (h b).2 (by simp)
      rw [List.mem_cons] at h1 h2
      rcases h1 with e | h1
      · exact e
      · rcases h2 with e | h2
        · exact e.symm
        · exact absurd (ltR_trans (hA.1 b h2) (hB.1 a h1)) (ltR_irr _)
    subst e
    rw [sorted_ext hA.2 hB.2 fun x => ?_]
    have := h x
    rw [List.mem_cons, List.mem_cons] at this
    constructor
    · intro hx
      rcases this.1 (.inr hx) with e | h2
      · subst e; exact absurd (hA.1 x hx) (ltR_irr _)
      · exact h2
    · intro hx
      rcases this.2 (.inr hx) with e | h2
      · subst e; exact absurd (hB.1 x hx) (ltR_irr _)
      · exact h2
theorem rev_ind {α : Type} {P : List α → Prop} (h0 : P []) (h1 : ∀ l a, P l → P (l ++ [a])) (l : List α) : P l := by
  have : ∀ n (l : List α), l.length = n → P l := fun n => by
    induction n with
    | zero => intro l hl; rw [List.eq_nil_of_length_eq_zero hl]; exact h0
    | succ n ih =>
      intro l hl
      have hne : l ≠ [] := fun e => by subst e; simp at hl
      rw [← List.dropLast_concat_getLast hne]
      exact h1 _ _ (ih _ (by rw [List.length_dropLast, hl]; omega))
  exact this _ l rfl
/-- where a text belongs -/
def findR (M : List Rw) (v : ByteArray) : Nat := M.findIdx fun r => !sLt r.1 v
theorem findR_le (M : List Rw) (v : ByteArray) : findR M v ≤ M.length := List.findIdx_le_length
theorem findR_lt {M : List Rw} {v : ByteArray} {j : Nat} (h : j < findR M v) : sLt (nthR M j).1 v = true := by
  have hl := findR_le M v
  have := List.not_of_lt_findIdx (p := fun r : Rw => !sLt r.1 v) h
  rw [nthR_eq (by omega)]
  simpa using this
theorem findR_at {M : List Rw} {v : ByteArray} (h : findR M v < M.length) : sLt (nthR M (findR M v)).1 v = false := by
  have := List.findIdx_getElem (p := fun r : Rw => !sLt r.1 v) (w := h)
  rw [nthR_eq h]
  rw [Bool.not_eq_true'] at this
  exact this
theorem findR_eq {M : List Rw} {v : ByteArray} {k : Nat} (hk : k ≤ M.length) (h1 : ∀ j, j < k → sLt (nthR M j).1 v = true) (h2 : k < M.length → sLt (nthR M k).1 v = false) : findR M v = k := by
  rcases Nat.lt_trichotomy (findR M v) k with h | h | h
  · have := findR_at (M := M) (v := v) (by omega)
    rw [h1 _ h] at this; cases this
  · exact h
  · have := findR_le M v
    have a := findR_lt h
    rw [h2 (by omega)] at a; cases a
def putR (M : List Rw) (r : Rw) : Option (List Rw) :=
  if findR M r.1 < M.length ∧ (nthR M (findR M r.1)).1 = r.1 then (if (nthR M (findR M r.1)).2 = r.2 then some M else none)
  else some (M.take (findR M r.1) ++ [r] ++ M.drop (findR M r.1))
theorem putR_some {M M' : List Rw} {r : Rw} (hM : strictR M) (h : putR M r = some M') : strictR M' ∧ ∀ x, x ∈ M' ↔ x ∈ M ∨ x = r := by
  unfold putR at h
  split at h
  · rename_i hk
    split at h
    · rename_i h2
      injection h with h
      subst h
      refine ⟨hM, fun x => ⟨.inl, ?_⟩⟩
      rintro (h3 | rfl)
      · exact h3
      · have : nthR M (findR M x.1) = x := Prod.ext hk.2 h2
        rw [← this]; exact nthR_mem hk.1
    · cases h
  · rename_i hk
    injection h with h
    subst h
    have hl := findR_le M r.1
    refine ⟨?_, fun x => ?_⟩
    · unfold strictR at hM ⊢
      rw [List.append_assoc, List.pairwise_append]
      have hd : ∀ b ∈ M.drop (findR M r.1), sLt r.1 b.1 = true := fun b hb => by
        obtain ⟨j, hj, rfl⟩ := List.getElem_of_mem hb
        rw [List.length_drop] at hj
        rw [List.getElem_drop]
        have hk1 : findR M r.1 < M.length := by omega
        have h1 := findR_at hk1
        have h2 : sLt r.1 (nthR M (findR M r.1)).1 = true := by
          cases e : sLt r.1 (nthR M (findR M r.1)).1 with
          | true => rfl
          | false => exact absurd ⟨hk1, sLt_tri h1 e⟩ hk
        rw [nthR_eq hk1] at h2
        cases j with
        | zero => exact h2
        | succ j => exact sLt_trans h2 (List.pairwise_iff_getElem.1 hM _ _ _ _ (by omega))
      have ht : ∀ a ∈ M.take (findR M r.1), sLt a.1 r.1 = true := fun a ha => by
        obtain ⟨j, hj, rfl⟩ := List.getElem_of_mem ha
        rw [List.length_take] at hj
        rw [List.getElem_take]
        have := findR_lt (M := M) (v := r.1) (j := j) (by omega)
        rwa [nthR_eq (by omega)] at this
      refine ⟨hM.sublist (List.take_sublist _ _), ?_, fun a ha b hb => ?_⟩
      · rw [List.pairwise_append]
        exact ⟨List.pairwise_singleton _ _, hM.sublist (List.drop_sublist _ _), fun a ha b hb => by rw [List.mem_singleton] at ha; subst ha; exact hd b hb⟩
      · rw [List.mem_append, List.mem_singleton] at hb
        rcases hb with rfl | hb
        · exact ht a ha
        · exact sLt_trans (ht a ha) (hd b hb)
    · rw [List.mem_append, List.mem_append, List.mem_singleton]
      constructor
      · rintro ((h | h) | h)
        · exact .inl (List.mem_of_mem_take h)
        · exact .inr h
        · exact .inl (List.mem_of_mem_drop h)
      · rintro (h | h)
        · rw [← List.take_append_drop (findR M r.1) M, List.mem_append] at h
          rcases h with h | h
          · exact .inl (.inl h)
          · exact .inr h
        · exact .inl (.inr h)
theorem putR_none {M : List Rw} {r : Rw} (h : putR M r = none) : ∃ s ∈ M, s.1 = r.1 ∧ s ≠ r := by
  unfold putR at h
  split at h
  · rename_i hk
    split at h
    · cases h
    · rename_i h2
      exact ⟨_, nthR_mem hk.1, hk.2, fun e => h2 (by rw [e])⟩
  · cases h
def putsR (A : List Rw) (l : List Rw) : Option (List Rw) := l.foldl (fun o r => o.bind fun M => putR M r) (some A)
theorem putsR_nil (A : List Rw) : putsR A [] = some A := rfl
theorem putsR_snoc (A l : List Rw) (r : Rw) : putsR A (l ++ [r]) = (putsR A l).bind fun M => putR M r := by
  unfold putsR
  rw [List.foldl_append]
  rfl
theorem putsR_none {A l : List Rw} (h : putsR A l = none) (m : List Rw) : putsR A (l ++ m) = none := by
  refine rev_ind (P := fun m => putsR A (l ++ m) = none) (by rw [List.append_nil]; exact h) (fun m r ih => ?_) m
  show putsR A (l ++ (m ++ [r])) = none
  rw [← List.append_assoc, putsR_snoc, ih]; rfl
theorem putsR_some {A : List Rw} (hA : strictR A) (l : List Rw) : match putsR A l with
    | some M => strictR M ∧ ∀ x, x ∈ M ↔ x ∈ A ∨ x ∈ l
    | none => ∃ r s, (r ∈ A ∨ r ∈ l) ∧ (s ∈ A ∨ s ∈ l) ∧ s.1 = r.1 ∧ s ≠ r := by
  refine rev_ind (P := fun l => match putsR A l with
    | some M => strictR M ∧ ∀ x, x ∈ M ↔ x ∈ A ∨ x ∈ l
    | none => ∃ r s, (r ∈ A ∨ r ∈ l) ∧ (s ∈ A ∨ s ∈ l) ∧ s.1 = r.1 ∧ s ≠ r) ?_ ?_ l
  · exact ⟨hA, fun x => by simp⟩
  · intro l r ih
    rw [putsR_snoc]
    cases e : putsR A l with
    | none =>
      rw [e] at ih
      obtain ⟨a, b, h1, h2, h3⟩ := ih
      refine ⟨a, b, ?_, ?_, h3⟩
      · rw [List.mem_append]; rcases h1 with h | h; exact .inl h; exact .inr (.inl h)
      · rw [List.mem_append]; rcases h2 with h | h; exact .inl h; exact .inr (.inl h)
    | some M =>
      rw [e] at ih
      obtain ⟨h1, h2⟩ := ih
      simp only [Option.bind_some]
      cases e2 : putR M r with
      | none =>
        obtain ⟨s, hs, h3⟩ := putR_none e2
        refine ⟨r, s, .inr (by simp), ?_, h3⟩
        rcases (h2 s).1 hs with h | h
        · exact .inl h
        · exact .inr (by rw [List.mem_append]; exact .inl h)
      | some M' =>
        obtain ⟨h4, h5⟩ := putR_some h1 e2
        refine ⟨h4, fun x => ?_⟩
        rw [h5, h2, List.mem_append, List.mem_singleton, or_assoc]
theorem good_strict {T : TabD} (h : tabGood T = true) : strictR T.rows := by
  unfold tabGood at h
  rw [Bool.and_eq_true, List.all_eq_true] at h
  have step : ∀ j, 0 < j → j < T.rows.length → sLt (nthR T.rows (j - 1)).1 (nthR T.rows j).1 = true := fun j h0 hj => by
    have := h.2 j (List.mem_range.2 hj)
    unfold rowGood at this
    split at this
    · cases this
    · rw [Bool.and_eq_true, Bool.or_eq_true] at this
      rcases this.2 with e | e
      · simp at e; omega
      · exact e
  refine List.pairwise_iff_getElem.2 fun i j hi hj hij => ?_
  have : ∀ d, i + d + 1 < T.rows.length → sLt (nthR T.rows i).1 (nthR T.rows (i + d + 1)).1 = true := fun d => by
    induction d with
    | zero => intro hd; exact step (i + 1) (by omega) hd
    | succ d ih => intro hd; exact sLt_trans (ih (by omega)) (step (i + (d + 1) + 1) (by omega) hd)
  have := this (j - i - 1) (by omega)
  rw [show i + (j - i - 1) + 1 = j by omega, nthR_eq hi, nthR_eq hj] at this
  exact this
/-- what a merge answers -/
def tabZ : TabD := ⟨0, []⟩
def ifTab (T : TabD) : TabD × Bool := if tabGood T = true then (T, true) else (tabZ, false)
def mergeS (a b : TabD) : TabD × Bool := if (tabGood a && tabGood b && a.depth == b.depth) = true then (match putsR a.rows b.rows with | some M => ifTab ⟨a.depth, M⟩ | none => (tabZ, false)) else (tabZ, false)

end Go.Proofs.Ytlfdhhmccjkogaa
