/-
  Regions that draw their order, whose last operations store into cells that the others load: a condition on the world that need hold only behind the operations before number T; each operation from T on waits for all of these. No condition on any program.
-/
import Derived.OrdersHeld
import Derived.StillTail
import Derived.Deep.RegionHeld
import Derived.Lib.Hide
import Derived.Laws.OwnMore
namespace Go.Proofs.YtbbdhcfbdndhlaaDoor
open Go.RowKit
set_option linter.unusedVariables false

section
variable {P : Program} {md : Region.Mode} {ops : Array Oper} {Q : Exit → Act → World → Prop} {S : World → Prop} {T : List Nat}
/-- whatever order is drawn; behind each operation before number T the condition S holds -/
def anyU (P : Program) (md : Region.Mode) (ops : Array Oper) (Q : Exit → Act → World → Prop) (S : World → Prop) (T : List Nat) : Nat → Array Bool → Act → World → Prop
  | 0, listed, a, w => Region.ready md ops listed = [] ∧ Q .normal a w
  | fuel + 1, listed, a, w => (Region.ready md ops listed = [] → Q .normal a w) ∧
    ∀ i ∈ Region.ready md ops listed, wpOp P ops Q i (fun a' w' => (T.contains i = false → S w') ∧ anyU P md ops Q S T fuel (listed.setIfInBounds i true) a' w') a w
theorem any_of_U : ∀ (fuel : Nat) (listed : Array Bool) (a : Act) (w : World), anyU P md ops Q S T fuel listed a w → wpAny P md ops Q fuel listed a w
  | 0, _, _, _, h => h
  | fuel + 1, _, _, _, h => ⟨h.1, fun i hi => wpOp_mono (fun _ _ k => any_of_U fuel _ _ _ k.2) (h.2 i hi)⟩
/-- whom an operation waits for -/
def onsOf (md : Region.Mode) (ops : Array Oper) (j : Nat) : List Nat := match ops[j]? with
  | some oj => (oj.after.toList.filter fun e => Region.binds md e).map fun e => e.on
  | none => []
/-- number j waits for number i, at first or at second hand -/
def ancB (md : Region.Mode) (ops : Array Oper) : Nat → Nat → Nat → Bool
  | 0, j, i => (onsOf md ops j).contains i
  | f + 1, j, i => (onsOf md ops j).contains i || (onsOf md ops j).any fun k => ancB md ops f k i
/-- each of the operations T has come up, or waits for number i -/
def waitsB (md : Region.Mode) (ops : Array Oper) (T : List Nat) (listed : Array Bool) (i : Nat) : Bool := T.all fun t => listed.getD t false || ancB md ops 7 t i
def Closed (md : Region.Mode) (ops : Array Oper) (listed : Array Bool) : Prop := ∀ j k, listed.getD j false = true → k ∈ onsOf md ops j → listed.getD k false = true
def closedB (md : Region.Mode) (ops : Array Oper) (listed : Array Bool) : Bool := (List.range ops.size).all fun j => !listed.getD j false || (onsOf md ops j).all fun k => listed.getD k false
theorem closedB_is {listed : Array Bool} (h : closedB md ops listed = true) : Closed md ops listed := fun j k hj hk => by
  have hjl : j < ops.size := by
    unfold onsOf at hk
    split at hk
    · rename_i oj ho; exact (Array.getElem?_eq_some_iff.1 ho).1
    · cases hk
  have := List.all_eq_true.1 h j (List.mem_range.2 hjl)
  rw [hj, Bool.not_true, Bool.false_or, List.all_eq_true] at this
  exact this k hk
theorem ready_ons {listed : Array Bool} {j : Nat} (h : j ∈ Region.ready md ops listed) : ∀ k ∈ onsOf md ops j, listed.getD k false = true := fun k hk => by
  obtain ⟨_, oj, hoj, hall⟩ := mem_ready.1 h
  unfold onsOf at hk
  rw [hoj] at hk
  simp only [List.mem_map, List.mem_filter] at hk
  obtain ⟨e, ⟨he, hb⟩, rfl⟩ := hk
  exact hall e (by simpa using he) hb
theorem anc_listed {listed : Array Bool} (hc : Closed md ops listed) : ∀ {f j i : Nat}, ancB md ops f j i = true → (∀ k ∈ onsOf md ops j, listed.getD k false = true) → listed.getD i false = true
  | 0, j, i, h, hj => hj i (by simpa [ancB] using h)
  | f + 1, j, i, h, hj => by
    rw [ancB, Bool.or_eq_true] at h
    rcases h with h | h
    · exact hj i (by simpa using h)
    · obtain ⟨k, hk, h⟩ := List.any_eq_true.1 h
      exact anc_listed hc h fun m hm => hc k m (hj k hk) hm
theorem Closed.set {listed : Array Bool} {j : Nat} (hc : Closed md ops listed) (h : j ∈ Region.ready md ops listed) : Closed md ops (listed.setIfInBounds j true) := fun a k ha hk => by
  by_cases e : j = a
  · subst e; exact getD_set_true (ready_ons h k hk)
  · rw [getD_set_ne false e] at ha
    exact getD_set_true (hc a k ha hk)
theorem anyU_first {i : Nat} {oi : Oper} {v : Value} (hi : ops[i]? = some oi) (hsel : ∀ (j : Nat) (o : Oper) cs b, ops[j]? = some o → o.op ≠ .select cs b)
    (hQ : ∀ c a w, Q (.panic c) (a.put oi.dst v) w → Q (.panic c) a w) :
    ∀ (fuel : Nat) (listed : Array Bool) (a : Act) (w : World),
      (∀ j oj, ops[j]? = some oj → j ≠ i → listed.getD j true = false → (∀ e ∈ oj.after, Region.binds md e = true → e.on ≠ i) → oi.apart ops oj = true) →
      Closed md ops listed → waitsB md ops T listed i = true → i ∈ Region.ready md ops listed → YieldsIf P ops S oi v a → S w →
      anyU P md ops Q S T fuel (listed.setIfInBounds i true) (a.put oi.dst v) w → anyU P md ops Q S T (fuel + 1) listed a w := by
  -- nobody who waits for number i is ready while i is not listed
  have hno : ∀ (listed : Array Bool) (j : Nat) (oj : Oper), i ∈ Region.ready md ops listed → (∀ e ∈ oj.after, Region.binds md e = true → listed.getD e.on false = true) → ∀ e ∈ oj.after, Region.binds md e = true → e.on ≠ i := by
    intro listed j oj hr hall e he hb heq
    have h1 := hall e he hb
    have h0 := (mem_ready.1 hr).1
    rw [heq] at h1
    rcases Nat.lt_or_ge i listed.size with h' | h'
    · simp [h'] at h0 h1; rw [h0] at h1; cases h1
    · simp [Array.getElem?_eq_none h'] at h1
  have hlow : ∀ (listed : Array Bool) (j : Nat), Closed md ops listed → waitsB md ops T listed i = true → i ∈ Region.ready md ops listed → j ∈ Region.ready md ops listed → T.contains j = false := by
    intro listed j hc hw hr hj
    rw [Bool.eq_false_iff]
    intro hT
    have h2 := List.all_eq_true.1 hw j (by simpa using hT)
    have hju := (mem_ready.1 hj).1
    have hjn : listed.getD j false = false := by
      rcases Nat.lt_or_ge j listed.size with h' | h'
      · simp [h'] at hju ⊢; exact hju
      · simp [Array.getElem?_eq_none h']
    rw [hjn, Bool.false_or] at h2
    have h1 := anc_listed hc h2 (ready_ons hj)
    have h0 := (mem_ready.1 hr).1
    rcases Nat.lt_or_ge i listed.size with h' | h'
    · simp [h'] at h0 h1; rw [h0] at h1; cases h1
    · simp [Array.getElem?_eq_none h'] at h1
  intro fuel
  induction fuel with
  | zero =>
    intro listed a w _ hc hw hr hy hS H
    refine ⟨fun h => (by rw [h] at hr; cases hr), fun j hj => ?_⟩
    by_cases hji : j = i
    · subst hji; exact hy.wpOp hi hS ⟨fun _ => hS, H⟩
    · have h1 := ready_mono hj hji
      rw [H.1] at h1; cases h1
  | succ fuel ih =>
    intro listed a w hfree hc hw hr hy hS H
    refine ⟨fun h => (by rw [h] at hr; cases hr), fun j hj => ?_⟩
    by_cases hji : j = i
    · subst hji; exact hy.wpOp hi hS ⟨fun _ => hS, H⟩
    · have hjT := hlow listed j hc hw hr hj
      have h1 := H.2 j (ready_mono hj hji)
      obtain ⟨hjun, oj, hoj, hall⟩ := mem_ready.1 hj
      have h2 := wpOp_putIf hoj (hfree j oj hoj hji hjun (hno listed j oj hr hall)) (fun cs b => hsel i oi cs b hi) (fun cs b => hsel j oj cs b hoj) hQ hy h1
      refine wpOp_mono (fun a' w' h3 => ⟨h3.2.1, ih (listed.setIfInBounds j true) a' w' (fun k ok hk hki hun hn => ?_) (hc.set hj) ?_ (ready_mono hr (Ne.symm hji)) h3.1 (h3.2.1 hjT) ?_⟩) h2
      · refine hfree k ok hk hki ?_ hn
        by_cases hjk : j = k
        · rw [← hjk]; exact hjun
        · rwa [getD_set_ne true hjk] at hun
      · unfold waitsB at hw ⊢
        rw [List.all_eq_true] at hw ⊢
        intro t ht
        have h5 := hw t ht
        rw [Bool.or_eq_true] at h5 ⊢
        exact h5.imp getD_set_true id
      · rw [Array.setIfInBounds_comm _ _ hji]
        exact h3.2.2
/-- the same for an operation among T that yields whatever the world -/
theorem anyU_firstY {i : Nat} {oi : Oper} {v : Value} (hi : ops[i]? = some oi) (hsel : ∀ (j : Nat) (o : Oper) cs b, ops[j]? = some o → o.op ≠ .select cs b)
    (hQ : ∀ c a w, Q (.panic c) (a.put oi.dst v) w → Q (.panic c) a w) (hiT : T.contains i = true) :
    ∀ (fuel : Nat) (listed : Array Bool) (a : Act) (w : World),
      (∀ j oj, ops[j]? = some oj → j ≠ i → listed.getD j true = false → (∀ e ∈ oj.after, Region.binds md e = true → e.on ≠ i) → oi.apart ops oj = true) →
      i ∈ Region.ready md ops listed → YieldsIf P ops (fun _ => True) oi v a →
      anyU P md ops Q S T fuel (listed.setIfInBounds i true) (a.put oi.dst v) w → anyU P md ops Q S T (fuel + 1) listed a w := by
  have hno : ∀ (listed : Array Bool) (j : Nat) (oj : Oper), i ∈ Region.ready md ops listed → (∀ e ∈ oj.after, Region.binds md e = true → listed.getD e.on false = true) → ∀ e ∈ oj.after, Region.binds md e = true → e.on ≠ i := by
    intro listed j oj hr hall e he hb heq
    have h1 := hall e he hb
    have h0 := (mem_ready.1 hr).1
    rw [heq] at h1
    rcases Nat.lt_or_ge i listed.size with h' | h'
    · simp [h'] at h0 h1; rw [h0] at h1; cases h1
    · simp [Array.getElem?_eq_none h'] at h1
  intro fuel
  induction fuel with
  | zero =>
    intro listed a w _ hr hy H
    refine ⟨fun h => (by rw [h] at hr; cases hr), fun j hj => ?_⟩
    by_cases hji : j = i
    · subst hji; exact hy.wpOp hi trivial ⟨fun h => (by rw [hiT] at h; cases h), H⟩
    · have h1 := ready_mono hj hji
      rw [H.1] at h1; cases h1
  | succ fuel ih =>
    intro listed a w hfree hr hy H
    refine ⟨fun h => (by rw [h] at hr; cases hr), fun j hj => ?_⟩
    by_cases hji : j = i
    · subst hji; exact hy.wpOp hi trivial ⟨fun h => (by rw [hiT] at h; cases h), H⟩
    · have h1 := H.2 j (ready_mono hj hji)
      obtain ⟨hjun, oj, hoj, hall⟩ := mem_ready.1 hj
      have h2 := wpOp_putIf hoj (hfree j oj hoj hji hjun (hno listed j oj hr hall)) (fun cs b => hsel i oi cs b hi) (fun cs b => hsel j oj cs b hoj) hQ hy h1
      refine wpOp_mono (fun a' w' h3 => ⟨h3.2.1, ih (listed.setIfInBounds j true) a' w' (fun k ok hk hki hun hn => ?_) (ready_mono hr (Ne.symm hji)) h3.1 ?_⟩) h2
      · refine hfree k ok hk hki ?_ hn
        by_cases hjk : j = k
        · rw [← hjk]; exact hjun
        · rwa [getD_set_ne true hjk] at hun
      · rw [Array.setIfInBounds_comm _ _ hji]
        exact h3.2.2
theorem anyU_take {i : Nat} {oi : Oper} {v : Value} {fuel : Nat} {listed : Array Bool} {a : Act} {w : World} (hi : ops[i]? = some oi)
    (hs : (Region.noSelect ops && waitsB md ops T listed i) = true) (hf : (Region.free md ops listed i && closedB md ops listed) = true) (hr : (Region.ready md ops listed).contains i = true)
    (hQ : ∀ c a w, Q (.panic c) (a.put oi.dst v) w → Q (.panic c) a w) (hy : Region.wanted oi (yielded ops a.tmps) = true ∧ ∀ w, S w → (execOp a.eval oi).run P w = .ok (.value v) w) (hS : S w)
    (h : anyU P md ops Q S T fuel (listed.setIfInBounds i true) (a.put oi.dst v) w) : anyU P md ops Q S T (fuel + 1) listed a w := by
  rw [Bool.and_eq_true] at hs hf
  exact anyU_first hi (Region.noSelect_spec hs.1) hQ fuel listed a w (Region.free_spec hi hf.1) (closedB_is hf.2) hs.2 (by simpa using hr) (.inl hy) hS h
theorem anyU_takeY {i : Nat} {oi : Oper} {v : Value} {fuel : Nat} {listed : Array Bool} {a : Act} {w : World} (hi : ops[i]? = some oi)
    (hs : (Region.noSelect ops && T.contains i) = true) (hf : Region.free md ops listed i = true) (hr : (Region.ready md ops listed).contains i = true)
    (hQ : ∀ c a w, Q (.panic c) (a.put oi.dst v) w → Q (.panic c) a w) (hy : Region.wanted oi (yielded ops a.tmps) = true ∧ ∀ w, (execOp a.eval oi).run P w = .ok (.value v) w)
    (h : anyU P md ops Q S T fuel (listed.setIfInBounds i true) (a.put oi.dst v) w) : anyU P md ops Q S T (fuel + 1) listed a w := by
  rw [Bool.and_eq_true] at hs
  exact anyU_firstY hi (Region.noSelect_spec hs.1) hQ hs.2 fuel listed a w (Region.free_spec hi hf) (by simpa using hr) (.inl ⟨hy.1, fun w _ => hy.2 w⟩) h
/-- each of these comes up next -/
def ReadyU (P : Program) (md : Region.Mode) (ops : Array Oper) (Q : Exit → Act → World → Prop) (S : World → Prop) (T : List Nat) (fuel : Nat) (listed : Array Bool) (a : Act) (w : World) (rs : List Nat) : Prop :=
  ∀ i ∈ rs, wpOp P ops Q i (fun a' w' => (T.contains i = false → S w') ∧ anyU P md ops Q S T fuel (listed.setIfInBounds i true) a' w') a w
theorem ReadyU.nil {fuel : Nat} {listed : Array Bool} {a : Act} {w : World} : ReadyU P md ops Q S T fuel listed a w [] := fun _ h => by cases h
theorem ReadyU.cons {fuel : Nat} {listed : Array Bool} {a : Act} {w : World} {i : Nat} {o : Oper} {rs : List Nat} (ho : ops[i]? = some o)
    (h : ∀ K' : Act → World → Prop, Shut (∀ a w, ((T.contains i = false → S w) ∧ anyU P md ops Q S T fuel (listed.setIfInBounds i true) a w) → K' a w) → if Region.wanted o (yielded ops a.tmps) = true then Oper.wp P o a w K' Q else K' (a.put o.dst undef) w)
    (hs : ReadyU P md ops Q S T fuel listed a w rs) : ReadyU P md ops Q S T fuel listed a w (i :: rs) := fun j hj => by
  rcases List.mem_cons.1 hj with rfl | hj
  · exact wpOp_step ho (fun K' hK => h K' hK)
  · exact hs j hj
theorem anyU_ready {rs : List Nat} {fuel : Nat} {listed : Array Bool} {a : Act} {w : World} (hr : Region.ready md ops listed = rs) (hne : rs ≠ [])
    (h : ReadyU P md ops Q S T fuel listed a w rs) : anyU P md ops Q S T (fuel + 1) listed a w := ⟨fun h0 => absurd (hr ▸ h0) hne, hr ▸ h⟩
theorem anyU_done {listed : Array Bool} {a : Act} {w : World} (hr : Region.ready md ops listed = []) (h : Q .normal a w) : ∀ fuel, anyU P md ops Q S T fuel listed a w
  | 0 => ⟨hr, h⟩
  | _ + 1 => ⟨fun _ => h, by rw [hr]; simp⟩
theorem nameU {fuel : Nat} {listed : Array Bool} {a : Act} {w : World} (h : ∀ W, Hid (W = w) → anyU P md ops Q S T fuel listed a W) : anyU P md ops Q S T fuel listed a w := h w (Lib.hid rfl)
theorem wp_region_U {id : Nat} {a : Act} {w : World} (S : World → Prop) (T : List Nat) (hm : P.follows .mixedOrders = true)
    (h : anyU P .any ops Q S T ops.size (Array.replicate ops.size false) a w.drew) : (Code.region id ops true).wp P Q a w :=
  wp_region_any hm (any_of_U _ _ _ _ h)
end

/-- what two rows' growing leaves: blocks that are neither's row are as they were -/
structure Grown2 (w w' : World) (r1 r2 : Option Nat) : Prop where
  os : w'.os = w.os
  tape : w'.tape = w.tape
  output : w'.output = w.output
  size : w.heap.size ≤ w'.heap.size
  block : ∀ k, k < w.heap.size → some k ≠ r1 → some k ≠ r2 → w'.heap[k]? = w.heap[k]?
theorem Grown2.refl (w : World) (r1 r2 : Option Nat) : Grown2 w w r1 r2 := ⟨rfl, rfl, rfl, Nat.le_refl _, fun _ _ _ _ => rfl⟩
theorem Grown2.none {a b c : World} {r1 r2 : Option Nat} (h : Grown2 a b r1 r2) (k : b.grownBy c none) : Grown2 a c r1 r2 :=
  ⟨k.os.trans h.os, k.tape.trans h.tape, k.output.trans h.output, Nat.le_trans h.size k.size, fun i hi h1 h2 => (k.block i (Nat.lt_of_lt_of_le hi h.size) (by simp)).trans (h.block i hi h1 h2)⟩
theorem Grown2.fst {a b c : World} {r1 r2 : Option Nat} (h : Grown2 a b r1 r2) (k : b.grownBy c r1) : Grown2 a c r1 r2 :=
  ⟨k.os.trans h.os, k.tape.trans h.tape, k.output.trans h.output, Nat.le_trans h.size k.size, fun i hi h1 h2 => (k.block i (Nat.lt_of_lt_of_le hi h.size) h1).trans (h.block i hi h1 h2)⟩
theorem Grown2.snd {a b c : World} {r1 r2 : Option Nat} (h : Grown2 a b r1 r2) (k : b.grownBy c r2) : Grown2 a c r1 r2 :=
  ⟨k.os.trans h.os, k.tape.trans h.tape, k.output.trans h.output, Nat.le_trans h.size k.size, fun i hi h1 h2 => (k.block i (Nat.lt_of_lt_of_le hi h.size) h2).trans (h.block i hi h1 h2)⟩

end Go.Proofs.YtbbdhcfbdndhlaaDoor
