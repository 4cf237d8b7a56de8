/-
  Plain: the components of a network with their least codes, and their order. No condition on any program.
-/
import Derived.Test.YtmdlginjblnfoaaWkP
import Derived.Test.YtmdlginjblnfoaaBase
namespace Go.Proofs.Ytmdlginjblnfoaa
set_option linter.unusedVariables false

/-- lexicographic order -/
def ltL : List Int → List Int → Bool
  | [], [] => false
  | [], _ :: _ => true
  | _ :: _, [] => false
  | a :: l, b :: m => if a = b then ltL l m else decide (a < b)
theorem ltL_irr : ∀ l, ltL l l = false
  | [] => rfl
  | a :: l => by simp only [ltL, if_pos]; exact ltL_irr l
theorem ltL_trans : ∀ {a b c : List Int}, ltL a b = true → ltL b c = true → ltL a c = true
  | [], [], _, h, _ => by cases h
  | [], _ :: _, [], _, h => by cases h
  | [], _ :: _, _ :: _, _, _ => rfl
  | _ :: _, [], _, h, _ => by cases h
  | _ :: _, _ :: _, [], _, h => by cases h
  | x :: l, y :: m, z :: n, h, k => by
    simp only [ltL] at h k ⊢
    by_cases e1 : x = y
    · rw [if_pos e1] at h
      by_cases e2 : y = z
      · rw [if_pos e2] at k
        rw [if_pos (e1.trans e2)]; exact ltL_trans h k
      · rw [if_neg e2, decide_eq_true_eq] at k
        rw [if_neg (by omega), decide_eq_true_eq]; omega
    · rw [if_neg e1, decide_eq_true_eq] at h
      by_cases e2 : y = z
      · rw [if_neg (by omega), decide_eq_true_eq]; omega
      · rw [if_neg e2, decide_eq_true_eq] at k
        rw [if_neg (by omega), decide_eq_true_eq]; omega
theorem ltL_tot : ∀ {a b : List Int}, ltL a b = false → ltL b a = false → a = b
  | [], [], _, _ => rfl
  | [], _ :: _, h, _ => by cases h
  | _ :: _, [], _, h => by cases h
  | x :: l, y :: m, h, k => by
    simp only [ltL] at h k
    by_cases e : x = y
    · rw [if_pos e] at h
      rw [if_pos e.symm] at k
      rw [e, ltL_tot h k]
    · rw [if_neg e, decide_eq_false_iff_not] at h
      rw [if_neg (fun e2 => e e2.symm), decide_eq_false_iff_not] at k
      omega
theorem ltL_asym {a b : List Int} (h : ltL a b = true) : ltL b a = false := by
  rw [Bool.eq_false_iff]; intro k
  have := ltL_trans h k
  rw [ltL_irr] at this; cases this
/-- a component: its least code, the walk that has it, its least node, and how many of its nodes have the code -/
structure CmpD where
  code : List Int
  walk : List Int
  least : Nat
  cnt : Nat
def cmpStep (N : NetD) (c : CmpD) (x : Int) : CmpD :=
  if c.cnt = 0 ∨ ltL (codeN N (walkN N x.toNat)) c.code = true then ⟨codeN N (walkN N x.toNat), walkN N x.toNat, c.least, 1⟩
  else if codeN N (walkN N x.toNat) = c.code then ⟨c.code, c.walk, c.least, c.cnt + 1⟩ else c
def nodesOf (N : NetD) (v : Nat) : List Int := sortI (walkN N v)
def cmp0 (v : Nat) : CmpD := ⟨[], [], v, 0⟩
def compTo (N : NetD) (v k : Nat) : CmpD := ((nodesOf N v).take k).foldl (cmpStep N) (cmp0 v)
def compD (N : NetD) (v : Nat) : CmpD := compTo N v (nodesOf N v).length
theorem cmpStep_least (N : NetD) (c : CmpD) (x : Int) : (cmpStep N c x).least = c.least := by
  unfold cmpStep; split
  · rfl
  · split <;> rfl
theorem compTo_succ (N : NetD) (v : Nat) {k : Nat} (h : k < (nodesOf N v).length) : compTo N v (k + 1) = cmpStep N (compTo N v k) (nth (nodesOf N v) k) := by
  unfold compTo; rw [List.take_succ_eq_append_getElem h, List.foldl_append, nth_eq h]; rfl
theorem compTo_least (N : NetD) (v : Nat) : ∀ k, k ≤ (nodesOf N v).length → (compTo N v k).least = v
  | 0, _ => rfl
  | k + 1, h => by rw [compTo_succ N v (by omega), cmpStep_least, compTo_least N v k (by omega)]
/-- the components of the nodes below k, and the nodes that they have -/
def stC (N : NetD) : Nat → List CmpD × List Int
  | 0 => ([], [])
  | k + 1 => if (k : Int) ∈ (stC N k).2 then stC N k else ((stC N k).1 ++ [compD N k], (stC N k).2 ++ nodesOf N k)
def compsN (N : NetD) : List CmpD := (stC N N.ends.length).1
theorem stC_least (N : NetD) : ∀ k, (∀ c ∈ (stC N k).1, c.least < k) ∧ (stC N k).1.Pairwise (fun a b => a.least < b.least)
  | 0 => ⟨(fun c h => by cases h), List.Pairwise.nil⟩
  | k + 1 => by
    obtain ⟨h1, h2⟩ := stC_least N k
    simp only [stC]
    split
    · exact ⟨fun c hc => by have := h1 c hc; omega, h2⟩
    · have hl : (compD N k).least = k := compTo_least N k _ (Nat.le_refl _)
      refine ⟨fun c hc => ?_, ?_⟩
      · rw [List.mem_append, List.mem_singleton] at hc
        rcases hc with hc | rfl
        · have := h1 c hc; omega
        · omega
      · rw [List.pairwise_append]
        exact ⟨h2, List.pairwise_singleton _ _, fun a ha b hb => by rw [List.mem_singleton] at hb; rw [hb, hl]; exact h1 a ha⟩
/-- the canonical order of components -/
def ltC (a b : CmpD) : Prop := ltL a.code b.code = true ∨ (a.code = b.code ∧ a.least < b.least)
theorem ltC_irr (a : CmpD) : ¬ ltC a a := by
  rintro (h | ⟨_, h⟩)
  · rw [ltL_irr] at h; cases h
  · omega
theorem ltC_trans {a b c : CmpD} (h : ltC a b) (k : ltC b c) : ltC a c := by
  rcases h with h | ⟨e, h⟩ <;> rcases k with k | ⟨e2, k⟩
  · exact .inl (ltL_trans h k)
  · exact .inl (by rw [← e2]; exact h)
  · exact .inl (by rw [e]; exact k)
  · exact .inr ⟨e.trans e2, by omega⟩
/-- the reference's insertion -/
def insC (x : CmpD) : List CmpD → List CmpD
  | [] => [x]
  | y :: l => if ltL x.code y.code = true then x :: y :: l else y :: insC x l
def insAll (cs : List CmpD) : List CmpD := cs.foldl (fun acc x => insC x acc) []
theorem insC_perm (x : CmpD) : ∀ l, (insC x l).Perm (l ++ [x])
  | [] => .refl _
  | y :: l => by
    simp only [insC]
    split
    · exact (List.perm_append_comm (l₁ := [x]) (l₂ := y :: l))
    · exact (insC_perm x l).cons y
theorem insC_mem {x y : CmpD} {l : List CmpD} : y ∈ insC x l ↔ y ∈ l ∨ y = x := by
  rw [(insC_perm x l).mem_iff, List.mem_append, List.mem_singleton]
theorem insC_sorted {x : CmpD} : ∀ {l : List CmpD}, l.Pairwise ltC → (∀ y ∈ l, y.least < x.least) → (insC x l).Pairwise ltC
  | [], _, _ => List.pairwise_singleton _ _
  | y :: l, h, hl => by
    obtain ⟨h1, h2⟩ := List.pairwise_cons.1 h
    simp only [insC]
    by_cases e : ltL x.code y.code = true
    · rw [if_pos e]
      refine List.pairwise_cons.2 ⟨fun z hz => ?_, h⟩
      rcases List.mem_cons.1 hz with rfl | hz
      · exact .inl e
      · rcases h1 z hz with k | ⟨k, _⟩
        · exact .inl (ltL_trans e k)
        · exact .inl (by rw [← k]; exact e)
    · rw [if_neg e]
      refine List.pairwise_cons.2 ⟨fun z hz => ?_, insC_sorted h2 fun z hz => hl z (List.mem_cons_of_mem _ hz)⟩
      rcases insC_mem.1 hz with hz | rfl
      · exact h1 z hz
      · by_cases e2 : ltL y.code z.code = true
        · exact .inl e2
        · exact .inr ⟨ltL_tot (by simpa using e2) (by simpa using e), hl y (by simp)⟩
theorem insAll_spec : ∀ (cs acc : List CmpD), acc.Pairwise ltC → (∀ y ∈ acc, ∀ x ∈ cs, y.least < x.least) → cs.Pairwise (fun a b => a.least < b.least) → (cs.foldl (fun acc x => insC x acc) acc).Pairwise ltC ∧ (cs.foldl (fun acc x => insC x acc) acc).Perm (acc ++ cs)
  | [], acc, h, _, _ => ⟨h, by simp⟩
  | x :: cs, acc, h, hl, hc => by
    obtain ⟨c1, c2⟩ := List.pairwise_cons.1 hc
    obtain ⟨k1, k2⟩ := insAll_spec cs (insC x acc) (insC_sorted h fun y hy => hl y hy x (by simp)) (fun y hy z hz => by
      rcases insC_mem.1 hy with hy | rfl
      · exact hl y hy z (List.mem_cons_of_mem _ hz)
      · exact c1 z hz) c2
    refine ⟨k1, k2.trans ?_⟩
    refine ((insC_perm x acc).append_right cs).trans ?_
    rw [List.append_assoc]; exact .refl _
/-- THE COMPONENTS IN ORDER -/
def sortedC (N : NetD) : List CmpD := insAll (compsN N)
theorem sortedC_spec (N : NetD) : (sortedC N).Pairwise ltC ∧ (sortedC N).Perm (compsN N) := by
  have := insAll_spec (compsN N) [] List.Pairwise.nil (fun y hy => by cases hy) (stC_least N _).2
  simpa [sortedC, insAll] using this
theorem sortedC_unique {N : NetD} {l : List CmpD} (h : l.Pairwise ltC) (hp : l.Perm (compsN N)) : l = sortedC N := by
  obtain ⟨h1, h2⟩ := sortedC_spec N
  exact (hp.trans h2.symm).eq_of_pairwise (fun a b _ _ k1 k2 => absurd (ltC_trans k1 k2) (ltC_irr a)) h h1
/-- the index of each node in the canonical order -/
def ordTo (l : List CmpD) (n : Nat) : List Int := (l.flatMap CmpD.walk).zipIdx.foldl (fun o p => o.set p.1.toNat (p.2 : Int)) (List.replicate n 0)
def canonL (N : NetD) : List Int := ordTo (sortedC N) N.ends.length
end Go.Proofs.Ytmdlginjblnfoaa
