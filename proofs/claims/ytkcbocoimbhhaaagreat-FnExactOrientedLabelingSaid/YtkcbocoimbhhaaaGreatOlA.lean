/-
  Several texts in one: Reg, Mem, Own, Queue, SS, OwnSS, Ints, Open, Base, Ends, IntSS, Net, Plain, EndEq, Good. No condition on any program.
-/
import Derived.OrdersHeld
import Derived.StillTail
import Derived.Deep.RegionHeld
import Derived.Lib.Hide
import Derived.Laws.OwnMore
import Derived.RangeFuncNested
import Derived.RangeFuncBound
import Derived.RangeFuncCalls
import Derived.RangeFuncLeaves
import Derived.RangeFuncBox
import Derived.WalkKit
import Derived.OwnWalkIn
import Derived.TacticsInMore
import Derived.LoopNIn
import Derived.LoopIn
import Derived.Below
import Derived.Deep.Draws
import Derived.Deep.OwnRows
import Derived.Laws.Rows
import Derived.Laws.AppendOwn
import Derived.Deep.QuietTactic
import Derived.Maps.AppendAt
import Derived.Maps.OwnSet
import Derived.Maps.OwnOps
import Derived.Maps.Views
import Derived.OwnWalk
import Derived.Laws.NewBlocks
import Derived.ArgAppend
import Derived.Test.YtkcbocoimbhhaaaGreatRows
import Derived.ProofKit
import Derived.Outline
import Derived.BigQuiet
import Derived.OpenShut
import Derived.ChangeOld
import Derived.Shelf.Abstract
import Derived.Shelf.GgClosure.Gives
import Derived.Deep.RegionWith
import Derived.Laws.StructEq
import Derived.Test.YtkcbocoimbhhaaaGreatShelf
import Derived.Deep.RegionHeld3
import Derived.IntWalk

/- Regions that draw their order, whose last operations store into cells that the others load: a condition on the world that need hold only behind the operations before number T; each operation from T on waits for all of these. No condition on any program. -/
namespace Go.Proofs.YtkcbocoimbhhaaaGreat
open Go.RowKit
set_option linter.unusedVariables false

section
variable {P : Program} {md : Region.Mode} {ops : Array Oper} {Q : Exit → Act → World → Prop} {S : World → Prop} {T : List Nat}
/-- whatever order is drawn; behind each operation before number T the condition S holds -/
def anyU (P : Program) (md : Region.Mode) (ops : Array Oper) (Q : Exit → Act → World → Prop) (S : World → Prop) (T : List Nat) : Nat → Array Bool → Act → World → Prop
  | 0, listed, a, w => Region.ready md ops listed = [] ∧ Q .normal a w
  | fuel + 1, listed, a, w => (Region.ready md ops listed = [] → Q .normal a w) ∧
    ∀ i ∈ Region.ready md ops listed, wpOp P ops Q i (fun a' w' => (T.contains i = false → S w') ∧ anyU P md ops Q S T fuel (listed.setIfInBounds i true) a' w') a w
theorem any_of_U : ∀ (fuel : Nat) (listed : Array Bool) (a : Act) (w : World), anyU P md ops Q S T fuel listed a w → wpAny P md ops Q fuel listed a w
  | 0, _, _, _, h => h
  | fuel + 1, _, _, _, h => ⟨h.1, fun i hi => wpOp_mono (fun _ _ k => any_of_U fuel _ _ _ k.2) (h.2 i hi)⟩
/-- whom an operation waits for -/
def onsOf (md : Region.Mode) (ops : Array Oper) (j : Nat) : List Nat := match ops[j]? with
  | some oj => (oj.after.toList.filter fun e => Region.binds md e).map fun e => e.on
  | none => []
/-- number j waits for number i, at first or at second hand -/
def ancB (md : Region.Mode) (ops : Array Oper) : Nat → Nat → Nat → Bool
  | 0, j, i => (onsOf md ops j).contains i
  | f + 1, j, i => (onsOf md ops j).contains i || (onsOf md ops j).any fun k => ancB md ops f k i
/-- each of the operations T has come up, or waits for number i -/
def waitsB (md : Region.Mode) (ops : Array Oper) (T : List Nat) (listed : Array Bool) (i : Nat) : Bool := T.all fun t => listed.getD t false || ancB md ops 14 t i
def Closed (md : Region.Mode) (ops : Array Oper) (listed : Array Bool) : Prop := ∀ j k, listed.getD j false = true → k ∈ onsOf md ops j → listed.getD k false = true
def closedB (md : Region.Mode) (ops : Array Oper) (listed : Array Bool) : Bool := (List.range ops.size).all fun j => !listed.getD j false || (onsOf md ops j).all fun k => listed.getD k false
theorem closedB_is {listed : Array Bool} (h : closedB md ops listed = true) : Closed md ops listed := fun j k hj hk => by
  have hjl : j < ops.size := by
    unfold onsOf at hk
    split at hk
    · rename_i oj ho; exact (Array.getElem?_eq_some_iff.1 ho).1
    · cases hk
  have := List.all_eq_true.1 h j (List.mem_range.2 hjl)
  rw [hj, Bool.not_true, Bool.false_or, List.all_eq_true] at this
  exact this k hk
theorem ready_ons {listed : Array Bool} {j : Nat} (h : j ∈ Region.ready md ops listed) : ∀ k ∈ onsOf md ops j, listed.getD k false = true := fun k hk => by
  obtain ⟨_, oj, hoj, hall⟩ := mem_ready.1 h
  unfold onsOf at hk
  rw [hoj] at hk
  simp only [List.mem_map, List.mem_filter] at hk
  obtain ⟨e, ⟨he, hb⟩, rfl⟩ := hk
  exact hall e (by simpa using he) hb
theorem anc_listed {listed : Array Bool} (hc : Closed md ops listed) : ∀ {f j i : Nat}, ancB md ops f j i = true → (∀ k ∈ onsOf md ops j, listed.getD k false = true) → listed.getD i false = true
  | 0, j, i, h, hj => hj i (by simpa [ancB] using h)
  | f + 1, j, i, h, hj => by
    rw [ancB, Bool.or_eq_true] at h
    rcases h with h | h
    · exact hj i (by simpa using h)
    · obtain ⟨k, hk, h⟩ := List.any_eq_true.1 h
      exact anc_listed hc h fun m hm => hc k m (hj k hk) hm
theorem Closed.set {listed : Array Bool} {j : Nat} (hc : Closed md ops listed) (h : j ∈ Region.ready md ops listed) : Closed md ops (listed.setIfInBounds j true) := fun a k ha hk => by
  by_cases e : j = a
  · subst e; exact getD_set_true (ready_ons h k hk)
  · rw [getD_set_ne false e] at ha
    exact getD_set_true (hc a k ha hk)
theorem anyU_first {i : Nat} {oi : Oper} {v : Value} (hi : ops[i]? = some oi) (hsel : ∀ (j : Nat) (o : Oper) cs b, ops[j]? = some o → o.op ≠ .select cs b)
    (hQ : ∀ c a w, Q (.panic c) (a.put oi.dst v) w → Q (.panic c) a w) :
    ∀ (fuel : Nat) (listed : Array Bool) (a : Act) (w : World),
      (∀ j oj, ops[j]? = some oj → j ≠ i → listed.getD j true = false → (∀ e ∈ oj.after, Region.binds md e = true → e.on ≠ i) → oi.apart ops oj = true) →
      Closed md ops listed → waitsB md ops T listed i = true → i ∈ Region.ready md ops listed → YieldsIf P ops S oi v a → S w →
      anyU P md ops Q S T fuel (listed.setIfInBounds i true) (a.put oi.dst v) w → anyU P md ops Q S T (fuel + 1) listed a w := by
  -- nobody who waits for number i is ready while i is not listed
  have hno : ∀ (listed : Array Bool) (j : Nat) (oj : Oper), i ∈ Region.ready md ops listed → (∀ e ∈ oj.after, Region.binds md e = true → listed.getD e.on false = true) → ∀ e ∈ oj.after, Region.binds md e = true → e.on ≠ i := by
    intro listed j oj hr hall e he hb heq
    have h1 := hall e he hb
    have h0 := (mem_ready.1 hr).1
    rw [heq] at h1
    rcases Nat.lt_or_ge i listed.size with h' | h'
    · simp [h'] at h0 h1; rw [h0] at h1; cases h1
    · simp [Array.getElem?_eq_none h'] at h1
  have hlow : ∀ (listed : Array Bool) (j : Nat), Closed md ops listed → waitsB md ops T listed i = true → i ∈ Region.ready md ops listed → j ∈ Region.ready md ops listed → T.contains j = false := by
    intro listed j hc hw hr hj
    rw [Bool.eq_false_iff]
    intro hT
    have h2 := List.all_eq_true.1 hw j (by simpa using hT)
    have hju := (mem_ready.1 hj).1
    have hjn : listed.getD j false = false := by
      rcases Nat.lt_or_ge j listed.size with h' | h'
      · simp [h'] at hju ⊢; exact hju
      · simp [Array.getElem?_eq_none h']
    rw [hjn, Bool.false_or] at h2
    have h1 := anc_listed hc h2 (ready_ons hj)
    have h0 := (mem_ready.1 hr).1
    rcases Nat.lt_or_ge i listed.size with h' | h'
    · simp [h'] at h0 h1; rw [h0] at h1; cases h1
    · simp [Array.getElem?_eq_none h'] at h1
  intro fuel
  induction fuel with
  | zero =>
    intro listed a w _ hc hw hr hy hS H
    refine ⟨fun h => (by rw [h] at hr; cases hr), fun j hj => ?_⟩
    by_cases hji : j = i
    · subst hji; exact hy.wpOp hi hS ⟨fun _ => hS, H⟩
    · have h1 := ready_mono hj hji
      rw [H.1] at h1; cases h1
  | succ fuel ih =>
    intro listed a w hfree hc hw hr hy hS H
    refine ⟨fun h => (by rw [h] at hr; cases hr), fun j hj => ?_⟩
    by_cases hji : j = i
    · subst hji; exact hy.wpOp hi hS ⟨fun _ => hS, H⟩
    · have hjT := hlow listed j hc hw hr hj
      have h1 := H.2 j (ready_mono hj hji)
      obtain ⟨hjun, oj, hoj, hall⟩ := mem_ready.1 hj
      have h2 := wpOp_putIf hoj (hfree j oj hoj hji hjun (hno listed j oj hr hall)) (fun cs b => hsel i oi cs b hi) (fun cs b => hsel j oj cs b hoj) hQ hy h1
      refine wpOp_mono (fun a' w' h3 => ⟨h3.2.1, ih (listed.setIfInBounds j true) a' w' (fun k ok hk hki hun hn => ?_) (hc.set hj) ?_ (ready_mono hr (Ne.symm hji)) h3.1 (h3.2.1 hjT) ?_⟩) h2
      · refine hfree k ok hk hki ?_ hn
        by_cases hjk : j = k
        · rw [← hjk]; exact hjun
        · rwa [getD_set_ne true hjk] at hun
      · unfold waitsB at hw ⊢
        rw [List.all_eq_true] at hw ⊢
        intro t ht
        have h5 := hw t ht
        rw [Bool.or_eq_true] at h5 ⊢
        exact h5.imp getD_set_true id
      · rw [Array.setIfInBounds_comm _ _ hji]
        exact h3.2.2
theorem anyU_take {i : Nat} {oi : Oper} {v : Value} {fuel : Nat} {listed : Array Bool} {a : Act} {w : World} (hi : ops[i]? = some oi)
    (hs : (Region.noSelect ops && waitsB md ops T listed i) = true) (hf : (Region.free md ops listed i && closedB md ops listed) = true) (hr : (Region.ready md ops listed).contains i = true)
    (hQ : ∀ c a w, Q (.panic c) (a.put oi.dst v) w → Q (.panic c) a w) (hy : Region.wanted oi (yielded ops a.tmps) = true ∧ ∀ w, S w → (execOp a.eval oi).run P w = .ok (.value v) w) (hS : S w)
    (h : anyU P md ops Q S T fuel (listed.setIfInBounds i true) (a.put oi.dst v) w) : anyU P md ops Q S T (fuel + 1) listed a w := by
  rw [Bool.and_eq_true] at hs hf
  exact anyU_first hi (Region.noSelect_spec hs.1) hQ fuel listed a w (Region.free_spec hi hf.1) (closedB_is hf.2) hs.2 (by simpa using hr) (.inl hy) hS h
/-- each of these comes up next -/
def ReadyU (P : Program) (md : Region.Mode) (ops : Array Oper) (Q : Exit → Act → World → Prop) (S : World → Prop) (T : List Nat) (fuel : Nat) (listed : Array Bool) (a : Act) (w : World) (rs : List Nat) : Prop :=
  ∀ i ∈ rs, wpOp P ops Q i (fun a' w' => (T.contains i = false → S w') ∧ anyU P md ops Q S T fuel (listed.setIfInBounds i true) a' w') a w
theorem ReadyU.nil {fuel : Nat} {listed : Array Bool} {a : Act} {w : World} : ReadyU P md ops Q S T fuel listed a w [] := fun _ h => by cases h
theorem ReadyU.cons {fuel : Nat} {listed : Array Bool} {a : Act} {w : World} {i : Nat} {o : Oper} {rs : List Nat} (ho : ops[i]? = some o)
    (h : ∀ K' : Act → World → Prop, Shut (∀ a w, ((T.contains i = false → S w) ∧ anyU P md ops Q S T fuel (listed.setIfInBounds i true) a w) → K' a w) → if Region.wanted o (yielded ops a.tmps) = true then Oper.wp P o a w K' Q else K' (a.put o.dst undef) w)
    (hs : ReadyU P md ops Q S T fuel listed a w rs) : ReadyU P md ops Q S T fuel listed a w (i :: rs) := fun j hj => by
  rcases List.mem_cons.1 hj with rfl | hj
  · exact wpOp_step ho (fun K' hK => h K' hK)
  · exact hs j hj
theorem anyU_ready {rs : List Nat} {fuel : Nat} {listed : Array Bool} {a : Act} {w : World} (hr : Region.ready md ops listed = rs) (hne : rs ≠ [])
    (h : ReadyU P md ops Q S T fuel listed a w rs) : anyU P md ops Q S T (fuel + 1) listed a w := ⟨fun h0 => absurd (hr ▸ h0) hne, hr ▸ h⟩
theorem anyU_done {listed : Array Bool} {a : Act} {w : World} (hr : Region.ready md ops listed = []) (h : Q .normal a w) : ∀ fuel, anyU P md ops Q S T fuel listed a w
  | 0 => ⟨hr, h⟩
  | _ + 1 => ⟨fun _ => h, by rw [hr]; simp⟩
theorem nameU {fuel : Nat} {listed : Array Bool} {a : Act} {w : World} (h : ∀ W, Hid (W = w) → anyU P md ops Q S T fuel listed a W) : anyU P md ops Q S T fuel listed a w := h w (Lib.hid rfl)
theorem wp_region_U {id : Nat} {a : Act} {w : World} (S : World → Prop) (T : List Nat) (hm : P.follows .mixedOrders = true)
    (h : anyU P .any ops Q S T ops.size (Array.replicate ops.size false) a w.drew) : (Code.region id ops true).wp P Q a w :=
  wp_region_any hm (any_of_U _ _ _ _ h)
end

/-- what two rows' growing leaves: blocks that are neither's row are as they were -/
structure Grown2 (w w' : World) (r1 r2 : Option Nat) : Prop where
  os : w'.os = w.os
  tape : w'.tape = w.tape
  output : w'.output = w.output
  size : w.heap.size ≤ w'.heap.size
  block : ∀ k, k < w.heap.size → some k ≠ r1 → some k ≠ r2 → w'.heap[k]? = w.heap[k]?
theorem Grown2.refl (w : World) (r1 r2 : Option Nat) : Grown2 w w r1 r2 := ⟨rfl, rfl, rfl, Nat.le_refl _, fun _ _ _ _ => rfl⟩
theorem Grown2.none {a b c : World} {r1 r2 : Option Nat} (h : Grown2 a b r1 r2) (k : b.grownBy c none) : Grown2 a c r1 r2 :=
  ⟨k.os.trans h.os, k.tape.trans h.tape, k.output.trans h.output, Nat.le_trans h.size k.size, fun i hi h1 h2 => (k.block i (Nat.lt_of_lt_of_le hi h.size) (by simp)).trans (h.block i hi h1 h2)⟩
theorem Grown2.fst {a b c : World} {r1 r2 : Option Nat} (h : Grown2 a b r1 r2) (k : b.grownBy c r1) : Grown2 a c r1 r2 :=
  ⟨k.os.trans h.os, k.tape.trans h.tape, k.output.trans h.output, Nat.le_trans h.size k.size, fun i hi h1 h2 => (k.block i (Nat.lt_of_lt_of_le hi h.size) h1).trans (h.block i hi h1 h2)⟩
end Go.Proofs.YtkcbocoimbhhaaaGreat

/- Words for memory, and lemmas on them: slices of integers that read as lists. No condition on any program; used by all proofs of this seat. -/
namespace Go.Proofs.YtkcbocoimbhhaaaGreat
open Go.RowKit

theorem ret_int {k : IntKind} {a b : Int} (h : a = b) : Ending.returned (.int k a) = .returned (.int k b) := by rw [h]
theorem ret_bool {a b : Bool} (h : a = b) : Ending.returned (.bool a) = .returned (.bool b) := by rw [h]

/-- element i of a list of numbers; 0 past its end -/
def nth (zs : List Int) (i : Nat) : Int := zs.getD i 0
theorem nth_eq {zs : List Int} {i : Nat} (h : i < zs.length) : nth zs i = zs[i] := by simp [nth, h]
theorem nth_get? {zs : List Int} {i : Nat} (h : i < zs.length) : zs[i]? = some (nth zs i) := by simp [nth, h]
theorem nth_mem {zs : List Int} {i : Nat} (h : i < zs.length) : nth zs i ∈ zs := by rw [nth_eq h]; exact List.getElem_mem h
theorem nth_cons_zero (x : Int) (l : List Int) : nth (x :: l) 0 = x := rfl
theorem nth_cons_succ (x : Int) (l : List Int) (i : Nat) : nth (x :: l) (i + 1) = nth l i := rfl
theorem ext_nth {a b : List Int} (hl : a.length = b.length) (h : ∀ i, i < a.length → nth a i = nth b i) : a = b := by
  apply List.ext_getElem hl
  intro i h1 h2
  have := h i h1
  rwa [nth_eq h1, nth_eq h2] at this

/-- the world w' is w but for blocks from lo on that lie below hi, and for new blocks -/
structure Turned (lo hi : Nat) (w w' : World) : Prop where
  os : w'.os = w.os
  tape : w'.tape = w.tape
  output : w'.output = w.output
  size : w.heap.size ≤ w'.heap.size
  block : ∀ k, k < w.heap.size → (k < lo ∨ hi ≤ k) → w'.heap[k]? = w.heap[k]?

theorem Turned.refl (lo hi : Nat) (w : World) : Turned lo hi w w := ⟨rfl, rfl, rfl, Nat.le_refl _, fun _ _ _ => rfl⟩
theorem Turned.trans {lo hi : Nat} {a b c : World} (h : Turned lo hi a b) (k : Turned lo hi b c) : Turned lo hi a c :=
  ⟨k.os.trans h.os, k.tape.trans h.tape, k.output.trans h.output, Nat.le_trans h.size k.size, fun i hi ho => (k.block i (Nat.lt_of_lt_of_le hi h.size) ho).trans (h.block i hi ho)⟩
theorem Turned.mono {lo hi lo' hi' : Nat} {w w' : World} (h : Turned lo hi w w') (h1 : lo' ≤ lo) (h2 : hi ≤ hi') : Turned lo' hi' w w' :=
  ⟨h.os, h.tape, h.output, h.size, fun i hi ho => h.block i hi (by omega)⟩
theorem Turned.of_below {B lo hi : Nat} {w w' : World} (h : Below B w w') (hB : w.heap.size ≤ B) : Turned lo hi w w' :=
  ⟨h.os, h.tape, h.output, h.size, fun i hi _ => h.block i (by omega)⟩
theorem Turned.below {lo hi : Nat} {w w' : World} (h : Turned lo hi w w') (h2 : lo ≤ w.heap.size) : Below lo w w' :=
  ⟨h.os, h.tape, h.output, h.size, fun i hi => h.block i (by omega) (.inl hi)⟩
theorem Turned.setCell {lo hi : Nat} {a w : World} (h : Turned lo hi a w) {p : Addr} (h1 : lo ≤ p.block) (h2 : p.block < hi) (u : Value) : Turned lo hi a (w.setCell p u) :=
  h.trans ⟨rfl, rfl, rfl, by simp [World.setCell], fun k hk ho => Below.heap_setCell _ _ _ _ (by omega)⟩
theorem Turned.drewN {lo hi : Nat} {a w : World} (h : Turned lo hi a w) (n : Nat) : Turned lo hi a (w.drewN n) := ⟨h.os, h.tape, h.output, h.size, h.block⟩
theorem below_drewN {B : Nat} {a w : World} (h : Below B a w) (n : Nat) : Below B a (w.drewN n) := ⟨h.os, h.tape, h.output, h.size, h.block⟩
theorem quiet_left {P : Program} {f : FuncId} {args : Array Value} {w : World} {n : Nat} {v : Value}
    (h : Calls P f args (w.drewN n) fun e w' => e = .returned v ∧ w.drewN n = w') : Calls P f args (w.drewN n) fun e w'' => e = .returned v ∧ ∃ m, w'' = w.drewN m :=
  h.mono fun _ _ ⟨he, hm⟩ => ⟨he, n, hm.symm⟩

/-- v is a slice of n elements of sz cells each; cell j holds f j and is not frozen; the cells lie in a block from lo on and below hi -/
def Sl (w : World) (lo hi sz : Nat) (v : Value) (n : Nat) (f : Nat → Value) : Prop :=
  ∃ A c, v = .slice A n c ∧ n ≤ c ∧ c ≤ maxLen ∧
    (0 < n → ∃ b off, A = some ⟨b, off, none⟩ ∧ lo ≤ b ∧ b < hi ∧ ∀ j, j < n * sz → w.cell? ⟨b, off + j, none⟩ = some (f j) ∧ w.frozen? ⟨b, off + j, none⟩ = false)

section
variable {w w' : World} {lo hi lo' hi' sz n : Nat} {v : Value} {f g : Nat → Value}
theorem Sl.keep (h : Sl w lo hi sz v n f) (hk : ∀ k, lo ≤ k → k < hi → w'.heap[k]? = w.heap[k]?) : Sl w' lo hi sz v n f := by
  obtain ⟨A, c, e, h1, h2, h3⟩ := h
  refine ⟨A, c, e, h1, h2, fun hn => ?_⟩
  obtain ⟨b, off, e2, h4, h5, h6⟩ := h3 hn
  refine ⟨b, off, e2, h4, h5, fun j hj => ?_⟩
  have hb := hk b h4 h5
  rw [World.cell?_of_block (w := w) (w' := w') (a := ⟨b, off + j, none⟩) hb, World.frozen?_of_block (w := w) (w' := w') (a := ⟨b, off + j, none⟩) hb]
  exact h6 j hj
theorem Sl.mono (h : Sl w lo hi sz v n f) (h1 : lo' ≤ lo) (h2 : hi ≤ hi') : Sl w lo' hi' sz v n f := by
  obtain ⟨A, c, e, h1', h2', h3⟩ := h
  refine ⟨A, c, e, h1', h2', fun hn => ?_⟩
  obtain ⟨b, off, e2, h4, h5, h6⟩ := h3 hn
  exact ⟨b, off, e2, by omega, by omega, h6⟩
theorem Sl.congr (h : Sl w lo hi sz v n f) (e : ∀ j, j < n * sz → f j = g j) : Sl w lo hi sz v n g := by
  obtain ⟨A, c, e1, h1, h2, h3⟩ := h
  refine ⟨A, c, e1, h1, h2, fun hn => ?_⟩
  obtain ⟨b, off, e2, h4, h5, h6⟩ := h3 hn
  exact ⟨b, off, e2, h4, h5, fun j hj => by rw [← e j hj]; exact h6 j hj⟩
theorem Sl.below {B : Nat} (h : Sl w lo hi sz v n f) (hb : Below B w w') (hB : hi ≤ B) : Sl w' lo hi sz v n f := h.keep fun k _ hk => hb.block k (by omega)
theorem Sl.turned {l2 h2 : Nat} (h : Sl w lo hi sz v n f) (hb : Turned l2 h2 w w') (hB : hi ≤ w.heap.size) (hd : hi ≤ l2 ∨ h2 ≤ lo) : Sl w' lo hi sz v n f :=
  h.keep fun k h1 h2 => hb.block k (by omega) (by omega)
theorem Sl.drewN (h : Sl w lo hi sz v n f) (k : Nat) : Sl (w.drewN k) lo hi sz v n f := h
theorem Sl.drew (h : Sl w lo hi sz v n f) : Sl w.drew lo hi sz v n f := h
theorem Sl.alloc (h : Sl w lo hi sz v n f) (hB : hi ≤ w.heap.size) (o : Obj) : Sl (w.alloc o) lo hi sz v n f := h.keep fun k _ hk => Below.heap_alloc _ _ _ (by omega)
theorem Sl.setCell (h : Sl w lo hi sz v n f) {p : Addr} (hp : p.block < lo ∨ hi ≤ p.block) (u : Value) : Sl (w.setCell p u) lo hi sz v n f := h.keep fun k h1 h2 => Below.heap_setCell _ _ _ _ (by omega)
theorem Sl.nil (w : World) (lo hi sz : Nat) (f : Nat → Value) : Sl w lo hi sz (.slice none 0 0) 0 f := ⟨none, 0, rfl, Nat.le_refl _, by simp, fun h => absurd h (by omega)⟩
theorem Sl.at_ {b off c j : Nat} (h : Sl w lo hi sz (.slice (some ⟨b, off, none⟩) n c) n f) (hj : j < n * sz) : w.cell? ⟨b, off + j, none⟩ = some (f j) ∧ w.frozen? ⟨b, off + j, none⟩ = false := by
  obtain ⟨A, c', e, h1, h2, h3⟩ := h
  obtain ⟨b', off', e2, h4, h5, h6⟩ := h3 (by rcases Nat.eq_zero_or_pos n with h0 | h0 <;> simp_all)
  subst e2
  injection e with e _ _
  injection e with e
  injection e with e1 e2
  subst e1 e2
  exact h6 j hj
theorem Sl.set {b off c j : Nat} (h : Sl w lo hi sz (.slice (some ⟨b, off, none⟩) n c) n f) (hj : j < n * sz) (u : Value) :
    Sl (w.setCell ⟨b, off + j, none⟩ u) lo hi sz (.slice (some ⟨b, off, none⟩) n c) n (fun i => if i = j then u else f i) := by
  have hat := h.at_ hj
  obtain ⟨A, c', e, h1, h2, h3⟩ := h
  refine ⟨A, c', e, h1, h2, fun hn => ?_⟩
  obtain ⟨b', off', e2, h4, h5, h6⟩ := h3 hn
  subst e2
  injection e with e _ _
  injection e with e
  injection e with e1 e2
  subst e1 e2
  refine ⟨b, off, rfl, h4, h5, fun i hi => ?_⟩
  obtain ⟨hc, hf⟩ := h6 i hi
  show _ = some (if i = j then u else f i) ∧ _
  by_cases hij : i = j
  · subst hij
    rw [if_pos rfl]
    exact ⟨World.cell?_setCell_same _ _ _ hc, by rw [World.frozen?_setCell]; exact hf⟩
  · rw [if_neg hij]
    refine ⟨?_, by rw [World.frozen?_setCell]; exact hf⟩
    rw [World.cell?_setCell_other _ _ _ _ (by intro e; injection e with _ e _; omega)]
    exact hc
/-- a row that the call owns -/
theorem Sl.of_own {base : Nat} {e : TypeId} {xs : List Value} (h : w.ownsRow base e sz v n xs) (hf : ∀ j, j < n * sz → xs[j]? = some (f j)) : Sl w base w.heap.size sz v n f := by
  obtain ⟨h1, h2⟩ := h
  rcases h2 with ⟨rfl, rfl⟩ | ⟨g, cap, cur, rfl, hg, hh, hn, hm, hs, ht⟩
  · exact Sl.nil _ _ _ _ _
  · refine ⟨_, _, rfl, hn, hm, fun hpos => ⟨g, 0, rfl, hg, ?_, fun j hj => ?_⟩⟩
    · obtain ⟨hlt, _⟩ := Array.getElem?_eq_some_iff.1 hh
      exact hlt
    · have h3 : xs[j]? = some (f j) := hf j hj
      rw [← ht, List.getElem?_take_of_lt hj] at h3
      rw [Nat.zero_add]
      refine ⟨?_, by simp [World.frozen?, hh]⟩
      rw [cell_of_row w g j cur e (0, 0) hh]
      simpa using h3
/-- a row known whole -/
theorem Sl.of_row {b : Nat} {t : TypeId} {m c : Nat} (h : w.rowIs b t m f) (hlo : lo ≤ b) (hn : n * sz ≤ m) (hc : n ≤ c) (hm : c ≤ maxLen) : Sl w lo w.heap.size sz (.slice (some ⟨b, 0, none⟩) n c) n f := by
  refine ⟨_, _, rfl, hc, hm, fun hpos => ⟨b, 0, rfl, hlo, h.lt, fun j hj => ?_⟩⟩
  rw [Nat.zero_add]
  exact ⟨h.cell (by omega), h.frozen j⟩
end

/-- the block that a slice's elements lie in, if it has any -/
def rowOf (n : Nat) (v : Value) : Option Nat := if n = 0 then none else v.ownBlock
theorem Sl.row {w : World} {lo hi sz n : Nat} {v : Value} {f : Nat → Value} (h : Sl w lo hi sz v n f) : rowOf n v = none ∨ ∃ b, rowOf n v = some b ∧ lo ≤ b ∧ b < hi := by
  obtain ⟨A, c, rfl, h1, h2, h3⟩ := h
  unfold rowOf
  by_cases hn : n = 0
  · exact .inl (if_pos hn)
  · obtain ⟨b, off, rfl, h4, h5, _⟩ := h3 (by omega)
    exact .inr ⟨b, by rw [if_neg hn]; rfl, h4, h5⟩
/-- a reading stays where another row is written -/
theorem Sl.grown {w w' : World} {lo hi sz n : Nat} {v : Value} {f : Nat → Value} {row : Option Nat} (h : Sl w lo hi sz v n f) (hg : w.grownBy w' row) (hB : hi ≤ w.heap.size) (hne : rowOf n v = none ∨ rowOf n v ≠ row) : Sl w' lo hi sz v n f := by
  obtain ⟨A, c, rfl, h1, h2, h3⟩ := h
  refine ⟨A, c, rfl, h1, h2, fun hn => ?_⟩
  obtain ⟨b, off, rfl, h4, h5, h6⟩ := h3 hn
  refine ⟨b, off, rfl, h4, h5, fun j hj => ?_⟩
  have hr : rowOf n (.slice (some ⟨b, off, none⟩) n c) = some b := by unfold rowOf; rw [if_neg (by omega)]; rfl
  have hb := hg.block b (by omega) (by rw [hr] at hne; rcases hne with h | h; · cases h
                                       · exact h)
  rw [World.cell?_of_block (w := w) (w' := w') (a := ⟨b, off + j, none⟩) hb, World.frozen?_of_block (w := w) (w' := w') (a := ⟨b, off + j, none⟩) hb]
  exact h6 j hj

theorem rowOf_some {b off n c : Nat} (hn : 0 < n) : rowOf n (.slice (some ⟨b, off, none⟩) n c) = some b := by unfold rowOf; rw [if_neg (by omega)]; rfl
theorem Turned.of_row {w w' : World} {lo hi sz n : Nat} {v : Value} {f : Nat → Value} (h : Sl w lo hi sz v n f) (hg : w.grownBy w' (rowOf n v)) : Turned lo hi w w' := by
  refine ⟨hg.os, hg.tape, hg.output, hg.size, fun k hk ho => hg.block k hk ?_⟩
  rcases h.row with e | ⟨b, e, h1, h2⟩
  · rw [e]; simp
  · rw [e]; intro e2; injection e2; omega
theorem grownBy_setCell {a w : World} {g : Nat} (h : a.grownBy w (some g)) {p : Addr} (hp : p.block = g) (u : Value) : a.grownBy (w.setCell p u) (some g) :=
  ⟨h.os, h.tape, h.output, by simpa [World.setCell] using h.size, fun i hi hne => (Below.heap_setCell w p u i (by rintro rfl; exact hne (by rw [hp]))).trans (h.block i hi hne)⟩
theorem grownBy_trans {a b c : World} {row : Option Nat} (h : a.grownBy b row) (k : b.grownBy c row) : a.grownBy c row :=
  ⟨k.os.trans h.os, k.tape.trans h.tape, k.output.trans h.output, Nat.le_trans h.size k.size, fun i hi ho => (k.block i (Nat.lt_of_lt_of_le hi h.size) ho).trans (h.block i hi ho)⟩

/-- v reads as the list of integers zs -/
def IntS (w : World) (lo hi : Nat) (v : Value) (zs : List Int) : Prop := Sl w lo hi 1 v zs.length fun j => .int .i64 (nth zs j)

section
variable {w w' : World} {lo hi lo' hi' : Nat} {v : Value} {zs : List Int}
theorem IntS.form (h : IntS w lo hi v zs) : ∃ A c, v = .slice A zs.length c ∧ zs.length ≤ c ∧ c ≤ maxLen ∧
    (0 < zs.length → ∃ b off, A = some ⟨b, off, none⟩ ∧ lo ≤ b ∧ b < hi ∧ ∀ j, j < zs.length → w.cell? ⟨b, off + j, none⟩ = some (.int .i64 (nth zs j)) ∧ w.frozen? ⟨b, off + j, none⟩ = false) := by
  obtain ⟨A, c, e, h1, h2, h3⟩ := h
  simp only [Nat.mul_one] at h3
  exact ⟨A, c, e, h1, h2, h3⟩
theorem IntS.mono (h : IntS w lo hi v zs) (h1 : lo' ≤ lo) (h2 : hi ≤ hi') : IntS w lo' hi' v zs := Sl.mono h h1 h2
theorem IntS.below {B : Nat} (h : IntS w lo hi v zs) (hb : Below B w w') (hB : hi ≤ B) : IntS w' lo hi v zs := Sl.below h hb hB
theorem IntS.turned {l2 h2 : Nat} (h : IntS w lo hi v zs) (hb : Turned l2 h2 w w') (hB : hi ≤ w.heap.size) (hd : hi ≤ l2 ∨ h2 ≤ lo) : IntS w' lo hi v zs := Sl.turned h hb hB hd
theorem IntS.alloc (h : IntS w lo hi v zs) (hB : hi ≤ w.heap.size) (o : Obj) : IntS (w.alloc o) lo hi v zs := Sl.alloc h hB o
theorem IntS.setCell (h : IntS w lo hi v zs) {p : Addr} (hp : p.block < lo ∨ hi ≤ p.block) (u : Value) : IntS (w.setCell p u) lo hi v zs := Sl.setCell h hp u
theorem IntS.nil (w : World) (lo hi : Nat) : IntS w lo hi (.slice none 0 0) [] := Sl.nil _ _ _ _ _
theorem IntS.of_own {base : Nat} {e : TypeId} (h : w.ownsRow base e 1 v zs.length (zs.map (Value.int .i64))) : IntS w base w.heap.size v zs :=
  Sl.of_own h fun j hj => by rw [List.getElem?_map, nth_get? (by omega)]; rfl
end

end Go.Proofs.YtkcbocoimbhhaaaGreat

/- Rows that a call owns and appends to, one cell an element; the law of an append of one element at the operation. No condition on any program; used by the walks of this seat. -/
namespace Go.Proofs.YtkcbocoimbhhaaaGreat
open Go.RowKit

/-- v is a slice whose row the call owns, from block base on; it holds the one-cell values xs -/
def Own (w : World) (base : Nat) (e : TypeId) (v : Value) (xs : List Value) : Prop := w.ownsRow base e 1 v xs.length xs

theorem Own.nil (w : World) (base : Nat) (e : TypeId) : Own w base e (.slice none 0 0) [] := World.ownsRow_nil w base e 1
section
variable {w w' : World} {base : Nat} {e : TypeId} {v : Value} {xs : List Value}
theorem Own.kept {row : Option Nat} (h : Own w base e v xs) (hg : w.grownBy w' row) (hne : v.ownBlock = none ∨ v.ownBlock ≠ row) : Own w' base e v xs := World.ownsRow.kept h hg hne
theorem Own.alloc (h : Own w base e v xs) (o : Obj) : Own (w.alloc o) base e v xs := World.ownsRow.alloc h o
theorem Own.lt (h : Own w base e v xs) : ∀ k, v.ownBlock = some k → base ≤ k ∧ k < w.heap.size := World.ownsRow.lt h
theorem Own.form (h : Own w base e v xs) : ∃ A c, v = .slice A xs.length c ∧ xs.length ≤ c ∧ c ≤ maxLen ∧
    (0 < xs.length → ∃ b, A = some ⟨b, 0, none⟩ ∧ base ≤ b ∧ b < w.heap.size ∧ ∀ j u, xs[j]? = some u → w.cell? ⟨b, j, none⟩ = some u ∧ w.frozen? ⟨b, j, none⟩ = false) := by
  obtain ⟨h1, h2⟩ := h
  rcases h2 with ⟨rfl, hn⟩ | ⟨g, cap, cur, rfl, hg, hh, hn, hm, hs, ht⟩
  · rw [hn]
    exact ⟨_, _, rfl, Nat.le_refl _, by simp, fun h => absurd h (by omega)⟩
  · refine ⟨_, _, rfl, hn, hm, fun hpos => ⟨g, rfl, hg, (Array.getElem?_eq_some_iff.1 hh).1, fun j u hu => ?_⟩⟩
    have hj : j < xs.length := (List.getElem?_eq_some_iff.1 hu).1
    refine ⟨?_, by simp [World.frozen?, hh]⟩
    rw [cell_of_row w g j cur e (0, 0) hh]
    rw [← ht, List.getElem?_take_of_lt (by omega)] at hu
    simpa using hu
theorem Own.block (h : Own w base e v xs) : v.ownBlock = none ∨ ∃ g, v.ownBlock = some g ∧ base ≤ g ∧ g < w.heap.size := by
  cases hv : v.ownBlock with
  | none => exact .inl rfl
  | some g => exact .inr ⟨g, rfl, h.lt g hv⟩
end

/-- append of one element onto a row of the call's own, the element just laid in a block of its own -/
theorem append1 {P : Program} {ops : Array Oper} {rest : List Oper} {o : Oper} {a : Act} {Q : Exit → Act → World → Prop} {t e : TypeId} {z : Value} {bytes : Nat}
    (ht : P.underlying t = some (.slice e)) (hinfo : (P.info? e).map (fun i => (i.zero, i.size, i.bytes)) = some (some z, 1, bytes)) (hz1 : z.cells.size = 1) (hby : bytes ≤ 64)
    (w : World) (hgd : o.guard = none) {s : Operand} (x : Operand) (ho : o.op = .call { callee := .builtin .append, args := #[s, x], argTypes := #[t, t] })
    {base : Nat} {v : Value} {xs : List Value} (hown : Own w base e v xs) (u : Value) (te : TypeId) (hs : a.eval s = v) (hx : a.eval x = .slice (some ⟨w.heap.size, 0, none⟩) 1 1)
    (hu : u.oneCell' = true) (hlen : xs.length < 1099511627776) (hbase : base ≤ w.heap.size)
    (h : ∀ v' w', Own w' base e v' (xs ++ [u]) → w.grownBy w' v.ownBlock → (v'.ownBlock = v.ownBlock ∨ v'.ownBlock = some (w.heap.size + 1)) → wpList P ops Q rest (a.put o.dst v') w') :
    wpList P ops Q (o :: rest) a (w.alloc (.cells #[u] te)) := by
  obtain ⟨i, hi, hzz⟩ := Option.map_eq_some_iff.1 hinfo
  simp only [Prod.mk.injEq] at hzz
  obtain ⟨hz, hsz, hb⟩ := hzz
  refine wpList_append_own_at (w.alloc (.cells #[u] te)) hgd s x t ho base e i z 1 bytes ht hi hz hsz hb hz1 (by omega) v xs.length xs hs (World.ownsRow.alloc hown _) ⟨w.heap.size, 0, none⟩ 1 1 [u] hx rfl ?_ ?_ ?_ ?_ ?_ ?_
  · intro j u' hj
    match j, hj with
    | 0, hj =>
      simp only [List.getElem?_cons_zero, Option.some.injEq] at hj
      subst hj
      rw [show (⟨w.heap.size, 0, none⟩ : Addr).add 0 = ⟨w.heap.size, 0, none⟩ from rfl, World.cell?_alloc_at _ _ _ _ rfl]
      rfl
  · intro u' hu'
    simp only [List.mem_singleton] at hu'
    subst hu'
    exact hu
  · unfold maxLen; omega
  · have : (xs.length + 1) * bytes ≤ 1099511627776 * 64 := Nat.mul_le_mul (by omega) hby
    omega
  · simp; omega
  · intro v' w' h1 h2 _ h4
    refine h v' w' (by simpa [Own] using h1) ?_ (by simpa using h4)
    exact ⟨h2.os, h2.tape, h2.output, Nat.le_trans (by simp) h2.size, fun k hk hne => (h2.block k (by simp; omega) hne).trans (Below.heap_alloc _ _ _ hk)⟩

/-- rows of integers -/
def OwnI (w : World) (base : Nat) (e : TypeId) (v : Value) (zs : List Int) : Prop := Own w base e v (zs.map (Value.int .i64))
section
variable {w w' : World} {base : Nat} {e : TypeId} {v : Value} {zs : List Int}
theorem OwnI.nil (w : World) (base : Nat) (e : TypeId) : OwnI w base e (.slice none 0 0) [] := Own.nil w base e
theorem OwnI.kept {row : Option Nat} (h : OwnI w base e v zs) (hg : w.grownBy w' row) (hne : v.ownBlock = none ∨ v.ownBlock ≠ row) : OwnI w' base e v zs := Own.kept h hg hne
theorem OwnI.block (h : OwnI w base e v zs) : v.ownBlock = none ∨ ∃ g, v.ownBlock = some g ∧ base ≤ g ∧ g < w.heap.size := Own.block h
theorem OwnI.ints (h : OwnI w base e v zs) : IntS w base w.heap.size v zs := IntS.of_own (by simpa [OwnI, Own] using h)
theorem OwnI.lt (h : OwnI w base e v zs) : ∀ k, v.ownBlock = some k → base ≤ k ∧ k < w.heap.size := World.ownsRow.lt h
theorem OwnI.drewN (h : OwnI w base e v zs) (k : Nat) : OwnI (w.drewN k) base e v zs := h
end

theorem append_int {P : Program} {ops : Array Oper} {rest : List Oper} {o : Oper} {a : Act} {Q : Exit → Act → World → Prop} {t e : TypeId} {bytes : Nat}
    (ht : P.underlying t = some (.slice e)) (hinfo : (P.info? e).map (fun i => (i.zero, i.size, i.bytes)) = some (some (.int .i64 0), 1, bytes)) (hby : bytes ≤ 64)
    (w : World) (hgd : o.guard = none) {s : Operand} (x : Operand) (ho : o.op = .call { callee := .builtin .append, args := #[s, x], argTypes := #[t, t] })
    {base : Nat} {v : Value} {zs : List Int} (hown : OwnI w base e v zs) (z : Int) (te : TypeId) (hs : a.eval s = v) (hx : a.eval x = .slice (some ⟨w.heap.size, 0, none⟩) 1 1)
    (hlen : zs.length < 1099511627776) (hbase : base ≤ w.heap.size)
    (h : ∀ v' w', OwnI w' base e v' (zs ++ [z]) → w.grownBy w' v.ownBlock → (v'.ownBlock = v.ownBlock ∨ v'.ownBlock = some (w.heap.size + 1)) → wpList P ops Q rest (a.put o.dst v') w') :
    wpList P ops Q (o :: rest) a (w.alloc (.cells #[.int .i64 z] te)) :=
  append1 ht hinfo rfl hby w hgd x ho hown (.int .i64 z) te hs hx rfl (by simpa using hlen) hbase fun v' w' h1 h2 h3 => h v' w' (by unfold OwnI; simpa using h1) h2 h3

/-- two slices whose rows do not share a block -/
def Apart (v1 v2 : Value) : Prop := v1.ownBlock = none ∨ v2.ownBlock = none ∨ v1.ownBlock ≠ v2.ownBlock
theorem Apart.symm {v1 v2 : Value} (h : Apart v1 v2) : Apart v2 v1 := by
  rcases h with h | h | h
  · exact .inr (.inl h)
  · exact .inl h
  · exact .inr (.inr fun e => h e.symm)
theorem Apart.nil_left (v : Value) : Apart (.slice none 0 0) v := .inl rfl
theorem Apart.keeps {v1 v2 : Value} (h : Apart v1 v2) : v1.ownBlock = none ∨ v1.ownBlock ≠ v2.ownBlock := by
  rcases h with h | h | h
  · exact .inl h
  · cases hv : v1.ownBlock with
    | none => exact .inl rfl
    | some g => right; rw [h]; simp
  · exact .inr h
/-- the second row has grown: its block is the old one or a new one -/
theorem Apart.grow {w : World} {base : Nat} {e : TypeId} {v1 v2 v2' : Value} {xs : List Value} (h : Apart v1 v2) (ho : Own w base e v1 xs) {g : Nat} (hg : w.heap.size ≤ g) (hat : v2'.ownBlock = v2.ownBlock ∨ v2'.ownBlock = some g) : Apart v1 v2' := by
  rcases hat with e | e
  · unfold Apart; rw [e]; exact h
  · right; right; rw [e]; intro h3; have := (ho.lt _ h3).2; omega

/-- a map whose reading answers as the function f does, with n keys -/
structure LMap (D : DataW Unit) (f : Lit → Option Int) (n : Nat) : Prop where
  tidy : Maps.Tidy D
  size : Maps.size D = n
  has : ∀ k, WideAt.IsKeyLit k → Maps.has D k = (f k).isSome
  at_ : ∀ k, WideAt.IsKeyLit k → D.atKey k (.lit (.int .i64 0)) = .lit (.int .i64 ((f k).getD 0))

theorem LMap.empty : LMap (.map []) (fun _ => none) 0 := ⟨Maps.tidy_empty, rfl, fun _ _ => rfl, fun _ _ => rfl⟩
theorem LMap.put {D : DataW Unit} {f g : Lit → Option Int} {n m : Nat} (h : LMap D f n) {k : Lit} (hk : WideAt.IsKeyLit k) (v : Int) (h1 : g k = some v) (h2 : ∀ x, x ≠ k → g x = f x) (hm : m = if (f k).isSome then n else n + 1) :
    LMap (D.put k (.lit (.int .i64 v))) g m := by
  subst hm
  refine ⟨h.tidy.put hk _, ?_, fun x hx => ?_, fun x hx => ?_⟩
  · rw [Maps.size_put h.tidy, h.has k hk, h.size]
  · by_cases e : x = k
    · subst e; rw [Maps.has_put_same h.tidy.isMap hk, h1]; rfl
    · rw [Maps.has_put_other e, h.has x hx, h2 x e]
  · by_cases e : x = k
    · subst e; rw [Maps.atKey_put_same h.tidy.isMap hk, h1]; rfl
    · rw [Maps.atKey_put_other e, h.at_ x hx, h2 x e]
theorem LMap.congr {D : DataW Unit} {f g : Lit → Option Int} {n m : Nat} (h : LMap D f n) (e : ∀ k, f k = g k) (hn : n = m) : LMap D g m := by
  obtain rfl : f = g := funext e
  subst hn
  exact h

end Go.Proofs.YtkcbocoimbhhaaaGreat

/- A queue of numbers that the call owns: it is cut at its head and appended to at its end. No condition on any program. -/
namespace Go.Proofs.YtkcbocoimbhhaaaGreat
open Go.RowKit

theorem nth_set (zs : List Int) (j i : Nat) (z : Int) (hj : j < zs.length) : nth (zs.set j z) i = if i = j then z else nth zs i := by
  unfold nth
  simp only [List.getD_eq_getElem?_getD, List.getElem?_set]
  by_cases e : j = i
  · subst e; simp [hj]
  · rw [if_neg e, if_neg (fun h => e h.symm)]
theorem nth_drop (zs : List Int) (a i : Nat) : nth (zs.drop a) i = nth zs (a + i) := by simp [nth]
theorem nth_replicate (n : Nat) (x : Int) {i : Nat} (h : i < n) : nth (List.replicate n x) i = x := by rw [nth_eq (by simpa using h)]; simp
/-- a store into a row of numbers -/
theorem IntS.set {w : World} {lo hi b off n c : Nat} {zs : List Int} (h : IntS w lo hi (.slice (some ⟨b, off, none⟩) n c) zs) {j : Nat} (hj : j < zs.length) (z : Int) :
    IntS (w.setCell ⟨b, off + j, none⟩ (.int .i64 z)) lo hi (.slice (some ⟨b, off, none⟩) n c) (zs.set j z) := by
  obtain ⟨A, c', e, _⟩ := h.form
  injection e with e1 e2 e3
  subst e2
  have := Sl.set h (j := j) (by omega) (.int .i64 z)
  unfold IntS
  rw [List.length_set]
  exact this.congr fun i hi => by
    rw [nth_set _ _ _ _ hj]
    by_cases e : i = j <;> simp [e]
theorem IntS.at_ {w : World} {lo hi b off n c : Nat} {zs : List Int} (h : IntS w lo hi (.slice (some ⟨b, off, none⟩) n c) zs) {j : Nat} (hj : j < zs.length) :
    w.cell? ⟨b, off + j, none⟩ = some (.int .i64 (nth zs j)) ∧ w.frozen? ⟨b, off + j, none⟩ = false := by
  obtain ⟨A, c', e, _⟩ := h.form
  injection e with e1 e2 e3
  subst e2
  exact Sl.at_ h (by omega)

theorem IntS.set0 {w : World} {lo hi b n c : Nat} {zs : List Int} (h : IntS w lo hi (.slice (some ⟨b, 0, none⟩) n c) zs) {j : Nat} (hj : j < zs.length) (z : Int) :
    IntS (w.setCell ⟨b, j, none⟩ (.int .i64 z)) lo hi (.slice (some ⟨b, 0, none⟩) n c) (zs.set j z) := by
  have := h.set hj z
  rwa [Nat.zero_add] at this
theorem IntS.at0 {w : World} {lo hi b n c : Nat} {zs : List Int} (h : IntS w lo hi (.slice (some ⟨b, 0, none⟩) n c) zs) {j : Nat} (hj : j < zs.length) :
    w.cell? ⟨b, j, none⟩ = some (.int .i64 (nth zs j)) ∧ w.frozen? ⟨b, j, none⟩ = false := by
  have := h.at_ hj
  rwa [Nat.zero_add] at this

/-- rows elsewhere stay where one row grows -/
theorem IntS.far {w w' : World} {lo hi : Nat} {v : Value} {zs : List Int} {row : Option Nat} (h : IntS w lo hi v zs) (hg : w.grownBy w' row) (hB : hi ≤ w.heap.size) (hr : ∀ g, row = some g → g < lo ∨ hi ≤ g) : IntS w' lo hi v zs :=
  Sl.keep h fun k h1 h2 => hg.block k (by omega) (fun e => by have := hr k e.symm; omega)

/-- v is a queue that reads as zs; all cells up to its capacity are there and can be written; it lies in a block from base on -/
def OwnQ (w : World) (base : Nat) (v : Value) (zs : List Int) : Prop :=
  ∃ g off c, v = .slice (some ⟨g, off, none⟩) zs.length c ∧ zs.length ≤ c ∧ c ≤ maxLen ∧ base ≤ g ∧ g < w.heap.size ∧
    (∀ j, j < zs.length → w.cell? ⟨g, off + j, none⟩ = some (.int .i64 (nth zs j))) ∧ ∀ j, j < c → (w.cell? ⟨g, off + j, none⟩).isSome = true ∧ w.frozen? ⟨g, off + j, none⟩ = false

section
variable {w w' : World} {base : Nat} {v : Value} {zs : List Int}
theorem OwnQ.keep (h : OwnQ w base v zs) (hk : ∀ k, base ≤ k → k < w.heap.size → w'.heap[k]? = w.heap[k]?) (hs : w.heap.size ≤ w'.heap.size) : OwnQ w' base v zs := by
  obtain ⟨g, off, c, rfl, h1, h2, h3, h4, h5, h6⟩ := h
  have e := hk g h3 h4
  refine ⟨g, off, c, rfl, h1, h2, h3, by omega, fun j hj => (World.cell?_of_block (a := ⟨g, off + j, none⟩) e).trans (h5 j hj), fun j hj => ?_⟩
  rw [World.cell?_of_block (w := w) (w' := w') (a := ⟨g, off + j, none⟩) e, World.frozen?_of_block (w := w) (w' := w') (a := ⟨g, off + j, none⟩) e]
  exact h6 j hj
theorem OwnQ.alloc (h : OwnQ w base v zs) (o : Obj) : OwnQ (w.alloc o) base v zs := h.keep (fun k _ hk => Below.heap_alloc _ _ _ hk) (by simp)
theorem OwnQ.below {B : Nat} (h : OwnQ w base v zs) (hb : Below B w w') (hB : w.heap.size ≤ B) : OwnQ w' base v zs := h.keep (fun k _ hk => hb.block k (by omega)) hb.size
theorem OwnQ.setCell (h : OwnQ w base v zs) {p : Addr} (hp : p.block < base) (u : Value) : OwnQ (w.setCell p u) base v zs := h.keep (fun k hk _ => Below.heap_setCell _ _ _ _ (by omega)) (by simp [World.setCell])
theorem OwnQ.drewN (h : OwnQ w base v zs) (k : Nat) : OwnQ (w.drewN k) base v zs := h
theorem OwnQ.drew (h : OwnQ w base v zs) : OwnQ w.drew base v zs := h
theorem OwnQ.ints (h : OwnQ w base v zs) : IntS w base w.heap.size v zs := by
  obtain ⟨g, off, c, rfl, h1, h2, h3, h4, h5, h6⟩ := h
  refine ⟨_, c, rfl, h1, h2, fun _ => ⟨g, off, rfl, h3, h4, fun j hj => ⟨h5 j (by omega), (h6 j (by omega)).2⟩⟩⟩
theorem OwnQ.lt (h : OwnQ w base v zs) : ∀ k, v.ownBlock = some k → base ≤ k ∧ k < w.heap.size := by
  obtain ⟨g, off, c, rfl, h1, h2, h3, h4, h5, h6⟩ := h
  intro k hk
  obtain rfl : g = k := by simpa [Value.ownBlock] using hk
  exact ⟨h3, h4⟩
end

end Go.Proofs.YtkcbocoimbhhaaaGreat

/- Words for memory, continued: slices of pairs (ends), slices of slices, networks; kept over new blocks and over writes elsewhere. No condition on any program. -/
namespace Go.Proofs.YtkcbocoimbhhaaaGreat
open Go.RowKit

/-- element i of a list of lists; the empty list past its end -/
def nthL {α : Type} (l : List (List α)) (i : Nat) : List α := l.getD i []
theorem nthL_eq {α : Type} {l : List (List α)} {i : Nat} (h : i < l.length) : nthL l i = l[i] := by simp [nthL, h]
theorem nthL_mem {α : Type} {l : List (List α)} {i : Nat} (h : i < l.length) : nthL l i ∈ l := by rw [nthL_eq h]; exact List.getElem_mem h
/-- element i of a list of pairs -/
def nthE (l : List (Int × Int)) (i : Nat) : Int × Int := l.getD i (0, 0)
theorem nthE_eq {l : List (Int × Int)} {i : Nat} (h : i < l.length) : nthE l i = l[i] := by simp [nthE, h]
theorem nthE_cons_zero (x : Int × Int) (l : List (Int × Int)) : nthE (x :: l) 0 = x := rfl
theorem nthE_cons_succ (x : Int × Int) (l : List (Int × Int)) (i : Nat) : nthE (x :: l) (i + 1) = nthE l i := rfl
/-- the cells of a row of pairs -/
def endCell (es : List (Int × Int)) (j : Nat) : Value := .int .i64 (if j % 2 = 0 then (nthE es (j / 2)).1 else (nthE es (j / 2)).2)
theorem endCell_fst (es : List (Int × Int)) (k : Nat) : endCell es (k * 2) = .int .i64 (nthE es k).1 := by
  unfold endCell; rw [if_pos (by omega), show k * 2 / 2 = k by omega]
theorem endCell_snd (es : List (Int × Int)) (k : Nat) : endCell es (k * 2 + 1) = .int .i64 (nthE es k).2 := by
  unfold endCell; rw [if_neg (by omega), show (k * 2 + 1) / 2 = k by omega]

/-- make of a row of pairs -/
theorem make_pairs {P : Program} (t e : TypeId) (ht : P.underlying t = some (.slice e)) (hinfo : (P.info? e).map (fun i => (i.zero, i.size, i.bytes)) = some (some (.agg #[.int .i64 0, .int .i64 0]), 2, 16))
    (n : Nat) (hn : n ≤ 1099511627776) (w : World) :
    (Instr.makeSlice t (.int .i64 (n : Int)) (.int .i64 (n : Int))).run P w = .ok (.slice (some ⟨w.heap.size, 0, none⟩) n n) (w.alloc (.cells (madeCells #[.int .i64 0, .int .i64 0] (n * 2)) e)) := by
  obtain ⟨i, hi, hzz⟩ := Option.map_eq_some_iff.1 hinfo
  simp only [Prod.mk.injEq] at hzz
  obtain ⟨hz, hsz, hb⟩ := hzz
  have hr := run_make (P := P) w t e i _ ht hi hz .i64 .i64 n n (by omega) (by omega) (by rw [hb]; omega) (by omega)
  simp only [Int.toNat_natCast, hsz] at hr
  exact hr
theorem rowIs_pairs (w : World) (n : Nat) (t : TypeId) : (w.alloc (.cells (madeCells #[.int .i64 0, .int .i64 0] (n * 2)) t)).rowIs w.heap.size t (n * 2) (fun _ => .int .i64 0) := by
  refine ⟨_, (World.rowIs_made w (.int .i64 0) 0 t).lt |> fun _ => heap_alloc_new w _, size_madeCells _ _, fun i hi => ?_⟩
  have h2 : i % 2 = 0 ∨ i % 2 = 1 := by omega
  rcases h2 with h2 | h2 <;> simp [madeCells, hi, h2]

/-- v reads as the list of pairs es -/
def EndS (w : World) (lo hi : Nat) (v : Value) (es : List (Int × Int)) : Prop := Sl w lo hi 2 v es.length (endCell es)

section
variable {w w' : World} {lo hi lo' hi' : Nat} {v : Value} {es : List (Int × Int)}
theorem EndS.form (h : EndS w lo hi v es) : ∃ A c, v = .slice A es.length c ∧ es.length ≤ c ∧ c ≤ maxLen ∧
    (0 < es.length → ∃ b off, A = some ⟨b, off, none⟩ ∧ lo ≤ b ∧ b < hi ∧ ∀ k, k < es.length → w.cell? ⟨b, off + k * 2, none⟩ = some (.int .i64 (nthE es k).1) ∧ w.cell? ⟨b, off + k * 2 + 1, none⟩ = some (.int .i64 (nthE es k).2)) := by
  obtain ⟨A, c, e, h1, h2, h3⟩ := h
  refine ⟨A, c, e, h1, h2, fun hn => ?_⟩
  obtain ⟨b, off, e2, h4, h5, h6⟩ := h3 hn
  refine ⟨b, off, e2, h4, h5, fun k hk => ⟨?_, ?_⟩⟩
  · rw [← endCell_fst]; exact (h6 (k * 2) (by omega)).1
  · rw [← endCell_snd, Nat.add_assoc]; exact (h6 (k * 2 + 1) (by omega)).1
theorem EndS.mono (h : EndS w lo hi v es) (h1 : lo' ≤ lo) (h2 : hi ≤ hi') : EndS w lo' hi' v es := Sl.mono h h1 h2
theorem EndS.below {B : Nat} (h : EndS w lo hi v es) (hb : Below B w w') (hB : hi ≤ B) : EndS w' lo hi v es := Sl.below h hb hB
theorem EndS.keep (h : EndS w lo hi v es) (hk : ∀ k, lo ≤ k → k < hi → w'.heap[k]? = w.heap[k]?) : EndS w' lo hi v es := Sl.keep h hk
theorem EndS.turned {l2 h2 : Nat} (h : EndS w lo hi v es) (hb : Turned l2 h2 w w') (hB : hi ≤ w.heap.size) (hd : hi ≤ l2 ∨ h2 ≤ lo) : EndS w' lo hi v es := Sl.turned h hb hB hd
theorem EndS.setCell (h : EndS w lo hi v es) {p : Addr} (hp : p.block < lo ∨ hi ≤ p.block) (u : Value) : EndS (w.setCell p u) lo hi v es := Sl.setCell h hp u
theorem EndS.nil (w : World) (lo hi : Nat) : EndS w lo hi (.slice none 0 0) [] := Sl.nil _ _ _ _ _
end

/-- a slice of slices: element i is the slice vs i, which reads (by R) as xss i -/
def SS {α : Type} (R : World → Nat → Nat → Value → List α → Prop) (w : World) (lo hi : Nat) (v : Value) (xss : List (List α)) : Prop :=
  ∃ vs : Nat → Value, Sl w lo hi 1 v xss.length vs ∧ ∀ i, i < xss.length → R w lo hi (vs i) (nthL xss i)
/-- the same, and no two of its rows share a block -/
def SSx {α : Type} (R : World → Nat → Nat → Value → List α → Prop) (w : World) (lo hi : Nat) (v : Value) (xss : List (List α)) : Prop :=
  ∃ vs : Nat → Value, Sl w lo hi 1 v xss.length vs ∧ (∀ i, i < xss.length → R w lo hi (vs i) (nthL xss i)) ∧
    (∀ i j, i < j → j < xss.length → rowOf (nthL xss i).length (vs i) = none ∨ rowOf (nthL xss i).length (vs i) ≠ rowOf (nthL xss j).length (vs j)) ∧
    (∀ i, i < xss.length → rowOf (nthL xss i).length (vs i) = none ∨ rowOf (nthL xss i).length (vs i) ≠ rowOf xss.length v)
theorem SSx.ss {α : Type} {R : World → Nat → Nat → Value → List α → Prop} {w : World} {lo hi : Nat} {v : Value} {xss : List (List α)} (h : SSx R w lo hi v xss) : SS R w lo hi v xss :=
  let ⟨vs, h1, h2, _, _⟩ := h; ⟨vs, h1, h2⟩

section
variable {α : Type} {R : World → Nat → Nat → Value → List α → Prop} {w w' : World} {lo hi lo' hi' : Nat} {v : Value} {xss : List (List α)}
theorem SS.keep (hR : ∀ {v xs}, R w lo hi v xs → R w' lo hi v xs) (h : SS R w lo hi v xss) (hk : ∀ k, lo ≤ k → k < hi → w'.heap[k]? = w.heap[k]?) : SS R w' lo hi v xss := by
  obtain ⟨vs, h1, h2⟩ := h
  exact ⟨vs, h1.keep hk, fun i hi => hR (h2 i hi)⟩
theorem SSx.keep (hR : ∀ {v xs}, R w lo hi v xs → R w' lo hi v xs) (h : SSx R w lo hi v xss) (hk : ∀ k, lo ≤ k → k < hi → w'.heap[k]? = w.heap[k]?) : SSx R w' lo hi v xss := by
  obtain ⟨vs, h1, h2, h3, h4⟩ := h
  exact ⟨vs, h1.keep hk, fun i hi => hR (h2 i hi), h3, h4⟩
theorem SS.mono (hR : ∀ {v xs}, R w lo hi v xs → R w lo' hi' v xs) (h : SS R w lo hi v xss) (h1 : lo' ≤ lo) (h2 : hi ≤ hi') : SS R w lo' hi' v xss := by
  obtain ⟨vs, h3, h4⟩ := h
  exact ⟨vs, h3.mono h1 h2, fun i hi => hR (h4 i hi)⟩
theorem SSx.mono (hR : ∀ {v xs}, R w lo hi v xs → R w lo' hi' v xs) (h : SSx R w lo hi v xss) (h1 : lo' ≤ lo) (h2 : hi ≤ hi') : SSx R w lo' hi' v xss := by
  obtain ⟨vs, h3, h4, h5, h6⟩ := h
  exact ⟨vs, h3.mono h1 h2, fun i hi => hR (h4 i hi), h5, h6⟩
theorem SS.form (h : SS R w lo hi v xss) : ∃ A c, v = .slice A xss.length c ∧ xss.length ≤ c ∧ c ≤ maxLen ∧
    (0 < xss.length → ∃ b off, A = some ⟨b, off, none⟩ ∧ lo ≤ b ∧ b < hi ∧ ∀ k, k < xss.length → ∃ u, w.cell? ⟨b, off + k, none⟩ = some u ∧ R w lo hi u (nthL xss k)) := by
  obtain ⟨vs, ⟨A, c, e, h1, h2, h3⟩, h4⟩ := h
  refine ⟨A, c, e, h1, h2, fun hn => ?_⟩
  obtain ⟨b, off, e2, h5, h6, h7⟩ := h3 hn
  exact ⟨b, off, e2, h5, h6, fun k hk => ⟨vs k, (h7 k (by omega)).1, h4 k hk⟩⟩
theorem SS.nil (w : World) (lo hi : Nat) : SS R w lo hi (.slice none 0 0) [] := ⟨fun _ => undef, Sl.nil _ _ _ _ _, fun i hi => absurd hi (by simp)⟩
theorem SSx.nil (w : World) (lo hi : Nat) : SSx R w lo hi (.slice none 0 0) [] := ⟨fun _ => undef, Sl.nil _ _ _ _ _, fun i hi => absurd hi (by simp), fun i j _ hj => absurd hj (by simp), fun i hi => absurd hi (by simp)⟩
end

abbrev IntSS := SS IntS
abbrev IntSSx := SSx IntS
abbrev EndSS := SS EndS
abbrev EndSSx := SSx EndS
section
variable {w w' : World} {lo hi lo' hi' B l2 h2 : Nat} {v : Value} {xss : List (List Int)} {ess : List (List (Int × Int))}
theorem IntS.keep {zs : List Int} (h : IntS w lo hi v zs) (hk : ∀ k, lo ≤ k → k < hi → w'.heap[k]? = w.heap[k]?) : IntS w' lo hi v zs := Sl.keep h hk
theorem ISS.below (h : IntSS w lo hi v xss) (hb : Below B w w') (hB : hi ≤ B) : IntSS w' lo hi v xss := SS.keep (fun h => IntS.below h hb hB) h fun k _ hk => hb.block k (by omega)
theorem ISSx.below (h : IntSSx w lo hi v xss) (hb : Below B w w') (hB : hi ≤ B) : IntSSx w' lo hi v xss := SSx.keep (fun h => IntS.below h hb hB) h fun k _ hk => hb.block k (by omega)
theorem ESS.below (h : EndSS w lo hi v ess) (hb : Below B w w') (hB : hi ≤ B) : EndSS w' lo hi v ess := SS.keep (fun h => EndS.below h hb hB) h fun k _ hk => hb.block k (by omega)
theorem ESSx.below (h : EndSSx w lo hi v ess) (hb : Below B w w') (hB : hi ≤ B) : EndSSx w' lo hi v ess := SSx.keep (fun h => EndS.below h hb hB) h fun k _ hk => hb.block k (by omega)
theorem ISS.turned (h : IntSS w lo hi v xss) (hb : Turned l2 h2 w w') (hB : hi ≤ w.heap.size) (hd : hi ≤ l2 ∨ h2 ≤ lo) : IntSS w' lo hi v xss := SS.keep (fun h => IntS.turned h hb hB hd) h fun k h1 hk => hb.block k (by omega) (by omega)
theorem ISSx.turned (h : IntSSx w lo hi v xss) (hb : Turned l2 h2 w w') (hB : hi ≤ w.heap.size) (hd : hi ≤ l2 ∨ h2 ≤ lo) : IntSSx w' lo hi v xss := SSx.keep (fun h => IntS.turned h hb hB hd) h fun k h1 hk => hb.block k (by omega) (by omega)
theorem ESS.turned (h : EndSS w lo hi v ess) (hb : Turned l2 h2 w w') (hB : hi ≤ w.heap.size) (hd : hi ≤ l2 ∨ h2 ≤ lo) : EndSS w' lo hi v ess := SS.keep (fun h => EndS.turned h hb hB hd) h fun k h1 hk => hb.block k (by omega) (by omega)
theorem ESSx.turned (h : EndSSx w lo hi v ess) (hb : Turned l2 h2 w w') (hB : hi ≤ w.heap.size) (hd : hi ≤ l2 ∨ h2 ≤ lo) : EndSSx w' lo hi v ess := SSx.keep (fun h => EndS.turned h hb hB hd) h fun k h1 hk => hb.block k (by omega) (by omega)
theorem ISS.setCell (h : IntSS w lo hi v xss) {p : Addr} (hp : p.block < lo ∨ hi ≤ p.block) (u : Value) : IntSS (w.setCell p u) lo hi v xss := SS.keep (fun h => IntS.setCell h hp u) h fun k h1 h2 => Below.heap_setCell _ _ _ _ (by omega)
theorem ISSx.setCell (h : IntSSx w lo hi v xss) {p : Addr} (hp : p.block < lo ∨ hi ≤ p.block) (u : Value) : IntSSx (w.setCell p u) lo hi v xss := SSx.keep (fun h => IntS.setCell h hp u) h fun k h1 h2 => Below.heap_setCell _ _ _ _ (by omega)
theorem ESS.setCell (h : EndSS w lo hi v ess) {p : Addr} (hp : p.block < lo ∨ hi ≤ p.block) (u : Value) : EndSS (w.setCell p u) lo hi v ess := SS.keep (fun h => EndS.setCell h hp u) h fun k h1 h2 => Below.heap_setCell _ _ _ _ (by omega)
theorem ESSx.setCell (h : EndSSx w lo hi v ess) {p : Addr} (hp : p.block < lo ∨ hi ≤ p.block) (u : Value) : EndSSx (w.setCell p u) lo hi v ess := SSx.keep (fun h => EndS.setCell h hp u) h fun k h1 h2 => Below.heap_setCell _ _ _ _ (by omega)
theorem ISS.mono (h : IntSS w lo hi v xss) (h1 : lo' ≤ lo) (h2 : hi ≤ hi') : IntSS w lo' hi' v xss := SS.mono (fun h => IntS.mono h h1 h2) h h1 h2
theorem ISSx.mono (h : IntSSx w lo hi v xss) (h1 : lo' ≤ lo) (h2 : hi ≤ hi') : IntSSx w lo' hi' v xss := SSx.mono (fun h => IntS.mono h h1 h2) h h1 h2
theorem ESS.mono (h : EndSS w lo hi v ess) (h1 : lo' ≤ lo) (h2 : hi ≤ hi') : EndSS w lo' hi' v ess := SS.mono (fun h => EndS.mono h h1 h2) h h1 h2
theorem ESSx.mono (h : EndSSx w lo hi v ess) (h1 : lo' ≤ lo) (h2 : hi ≤ hi') : EndSSx w lo' hi' v ess := SSx.mono (fun h => EndS.mono h h1 h2) h h1 h2
end

theorem IntS.shape {w : World} {lo hi : Nat} {v : Value} {zs : List Int} (h : IntS w lo hi v zs) : ∃ A c, v = .slice A zs.length c := let ⟨A, c, e, _⟩ := h; ⟨A, c, e⟩
theorem EndS.shape {w : World} {lo hi : Nat} {v : Value} {es : List (Int × Int)} (h : EndS w lo hi v es) : ∃ A c, v = .slice A es.length c := let ⟨A, c, e, _⟩ := h; ⟨A, c, e⟩
theorem SS.shape {α : Type} {R : World → Nat → Nat → Value → List α → Prop} {w : World} {lo hi : Nat} {v : Value} {xss : List (List α)} (h : SS R w lo hi v xss) : ∃ A c, v = .slice A xss.length c := let ⟨_, ⟨A, c, e, _⟩, _⟩ := h; ⟨A, c, e⟩
/-- a block of three cells, known whole -/
def Box3 (w : World) (g : Nat) (t : TypeId) (a b c : Value) : Prop := w.heap[g]? = some (.cells #[a, b, c] t (0, 0))
section
variable {w w' : World} {g : Nat} {t : TypeId} {a b c : Value}
theorem Box3.lt (h : Box3 w g t a b c) : g < w.heap.size := (Array.getElem?_eq_some_iff.1 h).1
theorem Box3.cells (h : Box3 w g t a b c) : w.cell? ⟨g, 0, none⟩ = some a ∧ w.cell? ⟨g, 1, none⟩ = some b ∧ w.cell? ⟨g, 2, none⟩ = some c := by
  refine ⟨?_, ?_, ?_⟩ <;> rw [cell_of_row w g _ _ t (0, 0) h] <;> rfl
theorem Box3.frozen (h : Box3 w g t a b c) (i : Nat) : w.frozen? ⟨g, i, none⟩ = false := by
  have h' : w.heap[g]? = some (.cells #[a, b, c] t (0, 0)) := h
  simp [World.frozen?, h']
theorem Box3.new (w : World) (t : TypeId) (a b c : Value) : Box3 (w.alloc (.cells #[a, b, c] t)) w.heap.size t a b c := heap_alloc_new w _
theorem Box3.alloc (h : Box3 w g t a b c) (o : Obj) : Box3 (w.alloc o) g t a b c := (Below.heap_alloc w o g h.lt).trans h
theorem Box3.below {B : Nat} (h : Box3 w g t a b c) (hb : Below B w w') (hg : g < B) : Box3 w' g t a b c := (hb.block g hg).trans h
theorem Box3.far (h : Box3 w g t a b c) {p : Addr} (hp : g ≠ p.block) (u : Value) : Box3 (w.setCell p u) g t a b c := (Below.heap_setCell w p u g hp).trans h
theorem Box3.set0 (h : Box3 w g t a b c) (u : Value) : Box3 (w.setCell ⟨g, 0, none⟩ u) g t u b c := by
  have h' : w.heap[g]? = some (.cells #[a, b, c] t (0, 0)) := h
  simp [Box3, World.setCell, Array.getElem?_modify, h']
theorem Box3.set1 (h : Box3 w g t a b c) (u : Value) : Box3 (w.setCell ⟨g, 1, none⟩ u) g t a u c := by
  have h' : w.heap[g]? = some (.cells #[a, b, c] t (0, 0)) := h
  simp [Box3, World.setCell, Array.getElem?_modify, h']
theorem Box3.set2 (h : Box3 w g t a b c) (u : Value) : Box3 (w.setCell ⟨g, 2, none⟩ u) g t a b u := by
  have h' : w.heap[g]? = some (.cells #[a, b, c] t (0, 0)) := h
  simp [Box3, World.setCell, Array.getElem?_modify, h']
end
theorem size_setCell (w : World) (p : Addr) (u : Value) : (w.setCell p u).heap.size = w.heap.size := by simp [World.setCell]

/-- a network as data -/
structure NetD where
  ends : List (List (Int × Int))
  ids : List Int
  inputs : List Int

/-- v is a network in memory -/
def Net (w : World) (lo hi : Nat) (v : Value) (N : NetD) : Prop :=
  ∃ ve vi vn, v = .agg #[ve, vi, vn] ∧ EndSS w lo hi ve N.ends ∧ IntS w lo hi vi N.ids ∧ IntS w lo hi vn N.inputs
/-- the same, its parts one behind the other, no two rows in one block -/
def NetX (w : World) (lo hi : Nat) (v : Value) (N : NetD) : Prop :=
  ∃ ve vi vn m1 m2, v = .agg #[ve, vi, vn] ∧ lo ≤ m1 ∧ m1 ≤ m2 ∧ m2 ≤ hi ∧ EndSSx w lo m1 ve N.ends ∧ IntS w m1 m2 vi N.ids ∧ IntS w m2 hi vn N.inputs
section
variable {w w' : World} {lo hi lo' hi' B l2 h2 : Nat} {v : Value} {N : NetD}
theorem NetX.net (h : NetX w lo hi v N) : Net w lo hi v N := by
  obtain ⟨ve, vi, vn, m1, m2, rfl, a1, a2, a3, h1, h2, h3⟩ := h
  exact ⟨ve, vi, vn, rfl, ESS.mono h1.ss (Nat.le_refl _) (by omega), h2.mono (by omega) a3, h3.mono (by omega) (Nat.le_refl _)⟩
theorem Net.below (h : Net w lo hi v N) (hb : Below B w w') (hB : hi ≤ B) : Net w' lo hi v N := by
  obtain ⟨ve, vi, vn, rfl, h1, h2, h3⟩ := h
  exact ⟨ve, vi, vn, rfl, ESS.below h1 hb hB, h2.below hb hB, h3.below hb hB⟩
theorem Net.turned (h : Net w lo hi v N) (hb : Turned l2 h2 w w') (hB : hi ≤ w.heap.size) (hd : hi ≤ l2 ∨ h2 ≤ lo) : Net w' lo hi v N := by
  obtain ⟨ve, vi, vn, rfl, h1, h2, h3⟩ := h
  exact ⟨ve, vi, vn, rfl, ESS.turned h1 hb hB hd, h2.turned hb hB hd, h3.turned hb hB hd⟩
theorem Net.mono (h : Net w lo hi v N) (h1 : lo' ≤ lo) (h2 : hi ≤ hi') : Net w lo' hi' v N := by
  obtain ⟨ve, vi, vn, rfl, a, b, c⟩ := h
  exact ⟨ve, vi, vn, rfl, ESS.mono a h1 h2, b.mono h1 h2, c.mono h1 h2⟩
theorem NetX.below (h : NetX w lo hi v N) (hb : Below B w w') (hB : hi ≤ B) : NetX w' lo hi v N := by
  obtain ⟨ve, vi, vn, m1, m2, rfl, a1, a2, a3, h1, h2, h3⟩ := h
  exact ⟨ve, vi, vn, m1, m2, rfl, a1, a2, a3, ESSx.below h1 hb (by omega), h2.below hb (by omega), h3.below hb hB⟩
theorem NetX.turned (h : NetX w lo hi v N) (hb : Turned l2 h2 w w') (hB : hi ≤ w.heap.size) (hd : hi ≤ l2 ∨ h2 ≤ lo) : NetX w' lo hi v N := by
  obtain ⟨ve, vi, vn, m1, m2, rfl, a1, a2, a3, h1, h2, h3⟩ := h
  exact ⟨ve, vi, vn, m1, m2, rfl, a1, a2, a3, ESSx.turned h1 hb (by omega) (by omega), h2.turned hb (by omega) (by omega), h3.turned hb hB (by omega)⟩
end

end Go.Proofs.YtkcbocoimbhhaaaGreat

/- A slice of slices of numbers that the call owns and appends rows to. No condition on any program. -/
namespace Go.Proofs.YtkcbocoimbhhaaaGreat
open Go.RowKit

/-- v is a slice of slices that reads as xss; its own row lies from block base on; its rows lie one behind the other, from base on and below top -/
def OwnSS (w : World) (base top : Nat) (e : TypeId) (v : Value) (xss : List (List Int)) : Prop :=
  ∃ (vs : List Value) (lo hi : Nat → Nat), vs.length = xss.length ∧ Own w base e v vs ∧ base ≤ top ∧ top ≤ w.heap.size ∧
    (∀ j, j < xss.length → ∃ u, vs[j]? = some u ∧ base ≤ lo j ∧ hi j ≤ top ∧ IntS w (lo j) (hi j) u (nthL xss j) ∧ ∀ g, v.ownBlock = some g → g < lo j ∨ hi j ≤ g) ∧
    ∀ i j, i < j → j < xss.length → hi i ≤ lo j

theorem nthL_append_left {α : Type} {a b : List (List α)} {i : Nat} (h : i < a.length) : nthL (a ++ b) i = nthL a i := by simp [nthL, List.getElem?_append_left h]
theorem nthL_append_at {α : Type} (a : List (List α)) (x : List α) : nthL (a ++ [x]) a.length = x := by simp [nthL]

section
variable {w w' : World} {base top : Nat} {e : TypeId} {v : Value} {xss : List (List Int)}
theorem OwnSS.nil (w : World) (base top : Nat) (e : TypeId) (h1 : base ≤ top) (h2 : top ≤ w.heap.size) : OwnSS w base top e (.slice none 0 0) [] :=
  ⟨[], fun _ => 0, fun _ => 0, rfl, Own.nil _ _ _, h1, h2, fun j hj => absurd hj (by simp), fun i j _ hj => absurd hj (by simp)⟩
theorem OwnSS.below (h : OwnSS w base top e v xss) (hb : Below w.heap.size w w') : OwnSS w' base top e v xss := by
  obtain ⟨vs, lo, hi, h1, h2, h3, h4, h5, h6⟩ := h
  refine ⟨vs, lo, hi, h1, h2.kept (row := none) ⟨hb.os, hb.tape, hb.output, hb.size, fun k hk _ => hb.block k hk⟩ (by cases hv : v.ownBlock with
    | none => exact .inl rfl
    | some g => right; simp), h3, Nat.le_trans h4 hb.size, fun j hj => ?_, h6⟩
  obtain ⟨u, a1, a2, a3, a4, a5⟩ := h5 j hj
  exact ⟨u, a1, a2, a3, a4.below hb (by omega), a5⟩
theorem OwnSS.alloc (h : OwnSS w base top e v xss) (o : Obj) : OwnSS (w.alloc o) base top e v xss := h.below ((Below.refl _ _).alloc (Nat.le_refl _) o)
theorem OwnSS.drew (h : OwnSS w base top e v xss) : OwnSS w.drew base top e v xss := h
theorem OwnSS.drewN (h : OwnSS w base top e v xss) (k : Nat) : OwnSS (w.drewN k) base top e v xss := h
theorem OwnSS.len (h : OwnSS w base top e v xss) : ∃ A c, v = .slice A xss.length c ∧ xss.length ≤ c ∧ c ≤ maxLen := by
  obtain ⟨vs, lo, hi, h1, h2, _⟩ := h
  obtain ⟨A, c, e, a1, a2, _⟩ := h2.form
  exact ⟨A, c, by rw [e, h1], by omega, a2⟩
theorem OwnSS.lt (h : OwnSS w base top e v xss) : ∀ k, v.ownBlock = some k → base ≤ k ∧ k < w.heap.size := by
  obtain ⟨vs, lo, hi, h1, h2, _⟩ := h
  exact h2.lt
theorem OwnSS.mono (h : OwnSS w base top e v xss) {top' : Nat} (h1 : top ≤ top') (h2 : top' ≤ w.heap.size) : OwnSS w base top' e v xss := by
  obtain ⟨vs, lo, hi, a1, a2, a3, a4, a5, a6⟩ := h
  refine ⟨vs, lo, hi, a1, a2, by omega, h2, fun j hj => ?_, a6⟩
  obtain ⟨u, b1, b2, b3, b4, b5⟩ := a5 j hj
  exact ⟨u, b1, b2, by omega, b4, b5⟩
theorem OwnSS.ssx (h : OwnSS w base top e v xss) : IntSSx w base w.heap.size v xss := by
  obtain ⟨vs, lo, hi, h1, h2, h3, h4, h5, h6⟩ := h
  have hsl : Sl w base w.heap.size 1 v xss.length (fun j => vs.getD j undef) := by
    have := Sl.of_own (f := fun j => vs.getD j undef) h2 (fun j hj => by simp at hj; simp [hj])
    rwa [h1] at this
  have hr : ∀ j, j < xss.length → IntS w (lo j) (hi j) (vs.getD j undef) (nthL xss j) ∧ base ≤ lo j ∧ hi j ≤ top ∧ ∀ g, v.ownBlock = some g → g < lo j ∨ hi j ≤ g := fun j hj => by
    obtain ⟨u, a1, a2, a3, a4, a5⟩ := h5 j hj
    have : vs.getD j undef = u := by simp [a1]
    rw [this]
    exact ⟨a4, a2, a3, a5⟩
  refine ⟨fun j => vs.getD j undef, hsl, fun i hi' => (hr i hi').1.mono (hr i hi').2.1 (by have := (hr i hi').2.2.1; omega), fun i j hij hj => ?_, fun i hi' => ?_⟩
  · obtain ⟨a1, _⟩ := hr i (by omega)
    obtain ⟨b1, _⟩ := hr j hj
    rcases Sl.row a1 with e1 | ⟨g1, e1, c1, c2⟩
    · exact .inl e1
    · right
      rw [e1]
      rcases Sl.row b1 with e2 | ⟨g2, e2, d1, d2⟩
      · rw [e2]; simp
      · rw [e2]; intro e3; injection e3 with e3; have := h6 i j hij hj; omega
  · obtain ⟨a1, _, _, a2⟩ := hr i hi'
    rcases Sl.row a1 with e1 | ⟨g1, e1, c1, c2⟩
    · exact .inl e1
    · right
      rw [e1]
      unfold rowOf
      rw [if_neg (by omega)]
      intro e3
      have := a2 g1 e3.symm
      omega
end

/-- append of one row onto a slice of slices of the call's own, the row's slice just laid in a block of its own -/
theorem append_ss {P : Program} {ops : Array Oper} {rest : List Oper} {o : Oper} {a : Act} {Q : Exit → Act → World → Prop} {t e : TypeId} {bytes : Nat}
    (ht : P.underlying t = some (.slice e)) (hinfo : (P.info? e).map (fun i => (i.zero, i.size, i.bytes)) = some (some (.slice none 0 0), 1, bytes)) (hby : bytes ≤ 64)
    (w : World) (hgd : o.guard = none) {s : Operand} (x : Operand) (ho : o.op = .call { callee := .builtin .append, args := #[s, x], argTypes := #[t, t] })
    {base top : Nat} {v : Value} {xss : List (List Int)} (hown : OwnSS w base top e v xss) {u : Value} {xs : List Int} {lo hi : Nat} (hu : IntS w lo hi u xs) (hlo : top ≤ lo) (hhi : hi ≤ w.heap.size) (hlh : lo ≤ hi) (hfar : ∀ g, v.ownBlock = some g → g < lo ∨ hi ≤ g)
    (te : TypeId) (hs : a.eval s = v) (hx : a.eval x = .slice (some ⟨w.heap.size, 0, none⟩) 1 1) (hlen : xss.length < 1099511627776)
    (h : ∀ v' w', OwnSS w' base hi e v' (xss ++ [xs]) → w.grownBy w' v.ownBlock → (v'.ownBlock = v.ownBlock ∨ v'.ownBlock = some (w.heap.size + 1)) → wpList P ops Q rest (a.put o.dst v') w') :
    wpList P ops Q (o :: rest) a (w.alloc (.cells #[u] te)) := by
  obtain ⟨vs, los, his, h1, h2, h3, h4, h5, h6⟩ := hown
  obtain ⟨A, c, rfl⟩ := (show ∃ A c, u = .slice A xs.length c from let ⟨A, c, e, _⟩ := hu; ⟨A, c, e⟩)
  refine append1 ht hinfo rfl hby w hgd x ho h2 _ te hs hx rfl (by omega) (by omega) fun v' w' ho' hg' hat' => h v' w' ?_ hg' hat'
  have hgs := hg'.size
  have hold : ∀ j, j < xss.length → ∃ u, vs[j]? = some u ∧ base ≤ los j ∧ his j ≤ top ∧ IntS w' (los j) (his j) u (nthL xss j) ∧ ∀ g, v'.ownBlock = some g → g < los j ∨ his j ≤ g := fun j hj => by
    obtain ⟨u, a1, a2, a3, a4, a5⟩ := h5 j hj
    refine ⟨u, a1, a2, a3, a4.far hg' (by omega) a5, fun g hg => ?_⟩
    rcases hat' with e1 | e1
    · exact a5 g (by rw [← e1]; exact hg)
    · rw [e1] at hg; injection hg with hg; omega
  refine ⟨vs ++ [.slice A xs.length c], fun j => if j < xss.length then los j else lo, fun j => if j < xss.length then his j else hi, by simp [h1], ho', by omega, by omega, fun j hj => ?_, fun i j hij hj => ?_⟩
  · dsimp only
    by_cases e1 : j < xss.length
    · obtain ⟨u, a1, a2, a3, a4, a5⟩ := hold j e1
      rw [if_pos e1, if_pos e1, nthL_append_left e1]
      exact ⟨u, by rw [List.getElem?_append_left (by omega)]; exact a1, a2, by omega, a4, a5⟩
    · obtain rfl : j = xss.length := by simp at hj; omega
      rw [if_neg e1, if_neg e1, nthL_append_at]
      refine ⟨.slice A xs.length c, by rw [← h1]; simp, by omega, Nat.le_refl _, hu.far hg' hhi hfar, fun g hg => ?_⟩
      rcases hat' with e2 | e2
      · exact hfar g (by rw [← e2]; exact hg)
      · rw [e2] at hg; injection hg with hg; omega
  · dsimp only
    rw [if_pos (by simp at hj; omega)]
    by_cases e1 : j < xss.length
    · rw [if_pos e1]; exact h6 i j hij e1
    · rw [if_neg e1]
      obtain ⟨u, _, _, a3, _⟩ := h5 i (by simp at hj; omega)
      omega

end Go.Proofs.YtkcbocoimbhhaaaGreat

/- Contracts of the laws' helpers on slices of integers: toIntS copies, eqIntS compares, markIntS writes running numbers, heldIntS finds them again. -/
namespace Go.Proofs.YtkcbocoimbhhaaaGreat
open Go.ChangeShapes Go.WideShapes Go.ChangeAt Go.RowKit
set_option linter.unusedVariables false

theorem Tryz.info3 : (Tryz.prog.info? 3).map (fun i => (i.zero, i.size, i.bytes)) = some (some (.int .i64 0), 1, 8) := by kernel_rfl

set_option maxHeartbeats 400000 in
theorem toIntS_any (v : Value) (zs : List Int) (lo hi : Nat) (w : World) (h : IntS w lo hi v zs) (hhi : hi ≤ w.heap.size) (hn : zs.length ≤ 16777216) :
    Calls Tryz.prog 27 #[v] w fun e w' => ∃ r, e = .returned r ∧ IntS w' w.heap.size w'.heap.size r zs ∧ Below w.heap.size w w' := by
  obtain ⟨A, c, rfl, hc1, hc2, hcell⟩ := h.form
  have hmk := fun W => run_make_row' (P := Tryz.prog) 26 3 (.int .i64 0) 8 Tryz.underlying26 Tryz.info3 rfl .i64 .i64 zs.length (by omega) (by omega) W
  go_enter Tryz.func27, Tryz.ntmps27
  go_wp2
  go_loopw [4] (fun i wr => ∃ k : Nat, k ≤ zs.length ∧ i = .int .i64 k ∧ wr.rowIs w.heap.size 3 zs.length (fun j => .int .i64 (if j < k then nth zs j else 0)) ∧ Below w.heap.size w wr) (fun i _ => zs.length - (intOf i).toNat)
  case atStart => exact ⟨0, Nat.zero_le _, rfl, (World.rowIs_made w (.int .i64 0) zs.length 3).congr (fun i _ => by simp), (Below.refl _ _).alloc (Nat.le_refl _) _⟩
  case round =>
    obtain ⟨k, hk, rfl, hrow, hb⟩ := hrel
    by_cases hlt : k < zs.length
    · obtain ⟨b, off, rfl, hb1, hb2, hcs⟩ := hcell (by omega)
      have hck : wr.cell? ⟨b, off + k, none⟩ = some (.int .i64 (nth zs k)) := (hb.cell (p := ⟨b, off + k, none⟩) (by show b < _; omega)).trans (hcs k hlt).1
      have hoc := hrow.cell hlt
      have hof := hrow.frozen k
      clear hcs hmk
      go_wp2
      go_roundw
      case rel =>
        refine ⟨k + 1, by omega, by go_num, ?_, hb.setCell (by simp) _⟩
        refine (hrow.set k (.int .i64 (nth zs k))).congr fun j hj => ?_
        by_cases e : j = k
        · subst e; simp
        · simp only [if_neg e]
          by_cases e2 : j < k
          · rw [if_pos e2, if_pos (by omega)]
          · rw [if_neg e2, if_neg (by omega)]
      case measure => simp [intOf]; omega
    · obtain rfl : k = zs.length := by omega
      clear hmk
      go_wp2
      go_ret
      refine ⟨_, rfl, ?_, hb⟩
      exact (Sl.of_row hrow (Nat.le_refl _) (by omega) (Nat.le_refl _) (by unfold maxLen; omega)).congr fun j hj => by simp only [Nat.mul_one] at hj; rw [if_pos hj]

/-- eqIntS compares two lists -/
def eqI (xs ys : List Int) : Bool := decide (xs = ys)

set_option maxHeartbeats 400000 in
theorem eqIntS_any (v1 v2 : Value) (xs ys : List Int) (lo1 hi1 lo2 hi2 : Nat) (w : World) (h1 : IntS w lo1 hi1 v1 xs) (h2 : IntS w lo2 hi2 v2 ys) :
    Calls Tryz.prog 34 #[v1, v2] w fun e w' => e = .returned (.bool (eqI xs ys)) ∧ ∃ n, w' = w.drewN n := by
  obtain ⟨A, c, rfl, hc1, hc2, hcell⟩ := h1.form
  obtain ⟨A2, c2, rfl, hd1, hd2, hcell2⟩ := h2.form
  unfold maxLen at hc2 hd2
  by_cases hl : xs.length = ys.length
  · have hl' : ((xs.length : Int) != (ys.length : Int)) = false := by simp [hl]
    have HL := Lib.hid hl
    have hl1 : xs.length ≤ ys.length := by omega
    clear hl
    go_enter Tryz.func34, Tryz.ntmps34
    go_wp2
    go_loopw [5] (fun i wr => ∃ k n : Nat, k ≤ xs.length ∧ i = .int .i64 k ∧ wr = w.drewN n ∧ Hid (∀ j, j < k → nth xs j = nth ys j)) (fun i _ => xs.length - (intOf i).toNat)
    case atStart => exact ⟨0, 0, Nat.zero_le _, rfl, rfl, Lib.hid fun j hj => absurd hj (by omega)⟩
    case round =>
      obtain ⟨k, n, hk, rfl, rfl, HE⟩ := hrel
      by_cases hlt : k < xs.length
      · obtain ⟨b, off, rfl, hb1, hb2, hcs⟩ := hcell (by omega)
        obtain ⟨b', off', rfl, hb1', hb2', hcs'⟩ := hcell2 (by omega)
        have hck := (hcs k hlt).1
        have hck' := (hcs' k (by omega)).1
        have hlt2 : k < ys.length := by omega
        clear hcs hcs' hcell hcell2
        by_cases he : nth xs k = nth ys k
        · have he' : (nth xs k != nth ys k) = false := by simp [he]
          have HE2 := Lib.hid he
          clear he
          go_wp2
          go_quiet (fail)
          go_wp2
          go_roundw
          case rel =>
            refine ⟨k + 1, _, by omega, by go_num, rfl, Lib.hid fun j hj => ?_⟩
            by_cases e : j = k
            · subst e; exact HE2.out
            · exact HE.out j (by omega)
          case measure => simp [intOf]; omega
        · have he' : (nth xs k != nth ys k) = true := by simp [he]
          have HE2 := Lib.hid he
          clear he
          go_wp2
          go_quiet (fail)
          go_wp2
          go_ret
          exact ⟨ret_bool (by simp only [eqI]; symm; rw [decide_eq_false_iff_not]; rintro rfl; exact HE2.out rfl), n + nq, World.drewN_drewN _ _ _⟩
      · obtain rfl : k = xs.length := by omega
        go_wp2
        go_ret
        exact ⟨ret_bool (by simp only [eqI]; symm; rw [decide_eq_true_iff]; exact ext_nth HL.out HE.out), _, rfl⟩
  · have hl' : ((xs.length : Int) != (ys.length : Int)) = true := by simp; omega
    go_enter Tryz.func34, Tryz.ntmps34
    go_wp2
    go_ret
    exact ⟨ret_bool (by simp [eqI]; rintro rfl; exact hl rfl), 0, rfl⟩

theorem eqIntS_same (v1 v2 : Value) (xs : List Int) (lo1 hi1 lo2 hi2 : Nat) (w : World) (h1 : IntS w lo1 hi1 v1 xs) (h2 : IntS w lo2 hi2 v2 xs) (hh1 : hi1 ≤ w.heap.size) (hh2 : hi2 ≤ w.heap.size) :
    Calls Tryz.prog 34 #[v1, v2] w fun e w' => e = .returned (.bool true) ∧ Below w.heap.size w w' :=
  (eqIntS_any v1 v2 xs xs lo1 hi1 lo2 hi2 w h1 h2).mono fun e w' ⟨h, n, h'⟩ => ⟨by rw [h]; simp [eqI], by rw [h']; exact below_drewN (Below.refl _ _) _⟩

/-- the numbers that mark leaves: k, k+1, .. -/
def run (k : Int) : Nat → List Int
  | 0 => []
  | n + 1 => k :: run (k + 1) n
theorem run_length (k : Int) (n : Nat) : (run k n).length = n := by induction n generalizing k with | zero => rfl | succ n ih => simp [run, ih]
theorem nth_run (k : Int) (n j : Nat) (h : j < n) : nth (run k n) j = k + j := by
  induction n generalizing k j with
  | zero => omega
  | succ n ih =>
    cases j with
    | zero => simp [run, nth_cons_zero]
    | succ j => rw [run, nth_cons_succ, ih (k + 1) j (by omega)]; omega

set_option maxHeartbeats 400000 in
theorem markIntS_any (v : Value) (zs : List Int) (k : Int) (lo hi : Nat) (w : World) (h : IntS w lo hi v zs) (hhi : hi ≤ w.heap.size) (hk0 : 0 ≤ k) (hk1 : k ≤ 1152921504606846976) (hn : zs.length ≤ 1152921504606846976) :
    Calls Tryz.prog 37 #[v, .int .i64 k] w fun e w' => e = .returned (.int .i64 (k + zs.length)) ∧ IntS w' lo hi v (run k zs.length) ∧ w.grownBy w' (rowOf zs.length v) ∧ w'.heap.size = w.heap.size := by
  obtain ⟨A, c, rfl, hc1, hc2, hcell⟩ := h.form
  go_enter Tryz.func37, Tryz.ntmps37
  go_wp2
  go_loopw [5, 1] (fun i kv wr => ∃ m : Nat, m ≤ zs.length ∧ i = .int .i64 m ∧ kv = .int .i64 (k + m) ∧ Sl wr lo hi 1 (.slice A zs.length c) zs.length (fun j => .int .i64 (if j < m then k + j else nth zs j)) ∧ w.grownBy wr (rowOf zs.length (.slice A zs.length c)) ∧ Hid (wr.heap.size = w.heap.size)) (fun i _ _ => zs.length - (intOf i).toNat)
  case atStart => exact ⟨0, Nat.zero_le _, rfl, by simp, Sl.congr h fun j _ => by simp, World.grownBy.refl _ _, Lib.hid rfl⟩
  case round =>
    obtain ⟨m, hm, rfl, rfl, hs, ht, HS⟩ := hrel
    by_cases hlt : m < zs.length
    · obtain ⟨b, off, rfl, hb1, hb2, hcs⟩ := hcell (by omega)
      obtain ⟨hck, hfk⟩ := hs.at_ (j := m) (by omega)
      rw [rowOf_some (by omega)] at ht
      clear hcs hcell
      go_wp2
      go_roundw
      case rel =>
        refine ⟨m + 1, by omega, by go_num, by go_num, ?_, by rw [rowOf_some (by omega)]; exact grownBy_setCell ht rfl _, Lib.hid (by simpa [World.setCell] using HS.out)⟩
        refine (hs.set (j := m) (by omega) (.int .i64 (k + m))).congr fun j hj => ?_
        by_cases e : j = m
        · subst e; simp
        · simp only [if_neg e]
          by_cases e2 : j < m
          · rw [if_pos e2, if_pos (by omega)]
          · rw [if_neg e2, if_neg (by omega)]
      case measure => simp [intOf]; omega
    · obtain rfl : m = zs.length := by omega
      go_wp2
      go_ret
      refine ⟨rfl, ?_, ht, HS.out⟩
      unfold IntS
      rw [run_length]
      exact hs.congr fun j hj => by rw [if_pos (by omega), nth_run _ _ _ (by omega)]

set_option maxHeartbeats 400000 in
/-- the numbers that mark left are found -/
theorem heldIntS_yes (v : Value) (zs : List Int) (k : Int) (lo hi : Nat) (w : World) (h : IntS w lo hi v (run k zs.length)) (hk0 : 0 ≤ k) (hk1 : k ≤ 1152921504606846976) (hn : zs.length ≤ 1152921504606846976) :
    Calls Tryz.prog 38 #[v, .int .i64 k] w fun e w' => e = .returned (.int .i64 (k + zs.length)) ∧ Below w.heap.size w w' := by
  generalize zs.length = n at *
  obtain ⟨A, c, rfl, hc1, hc2, hcell⟩ := h.form
  simp only [run_length] at *
  go_enter Tryz.func38, Tryz.ntmps38
  go_wp2
  go_loop [5, 1] (fun i kv => ∃ m : Nat, m ≤ n ∧ i = .int .i64 m ∧ kv = .int .i64 (k + m)) (fun i _ => n - (intOf i).toNat)
  case atStart => exact ⟨0, Nat.zero_le _, rfl, by simp⟩
  case round =>
    obtain ⟨m, hm, rfl, rfl⟩ := hrel
    by_cases hlt : m < n
    · obtain ⟨b, off, rfl, hb1, hb2, hcs⟩ := hcell (by omega)
      have hck := (hcs m hlt).1
      rw [nth_run _ _ _ hlt] at hck
      clear hcs hcell
      go_wp2
      go_round
      case rel => exact ⟨m + 1, by omega, by go_num, by go_num⟩
      case measure => simp [intOf]; omega
    · obtain rfl : m = n := by omega
      go_wp2
      go_ret
      exact ⟨rfl, Below.refl _ _⟩

end Go.Proofs.YtkcbocoimbhhaaaGreat

/- How the arguments of a law read: a slice of integers that came in reads as a list. No condition on any program. -/
namespace Go.Proofs.YtkcbocoimbhhaaaGreat
open Go.ChangeShapes Go.WideShapes Go.ChangeAt Go.RowKit
set_option linter.unusedVariables false

/-- an integer that an int can hold -/
def I64 (x : Int) : Prop := -9223372036854775808 ≤ x ∧ x ≤ 9223372036854775807
theorem I64.of_wf {x : Int} (h : (Lit.int .i64 x).wf = true) : I64 x := by simpa [I64, Lit.wf, IntKind.min, IntKind.max, IntKind.signed, IntKind.bits] using h

section
variable {H : Type} {enc : TypeId × Value → H} {P : Program} {W : World}
theorem open_IntS_trod {t e : TypeId} {fuel : Nat} {v : Value} {x : DataW H × List MemPlace} (ht : P.underlying t = some (.slice e)) (he : P.underlying e = some (.int .i64)) (hC : P.cellsOf e = 1)
    (h : DataW.trod enc P W 0 (fun _ => true) true fuel t [v] = some x) (hfz : W.noneFrozen x.2) :
    ∃ zs, IntS W 0 W.heap.size v zs ∧ ∀ z ∈ zs, I64 z := by
  rcases open_ints ht he hC h with ⟨hcs, _⟩ | ⟨a, l, c, zs, hcs, _, hl, hm, hz, rfl, hcell, hwz⟩
  · simp only [List.cons.injEq, and_true] at hcs
    subst hcs
    exact ⟨[], IntS.nil _ _ _, by simp⟩
  · simp only [List.cons.injEq, and_true] at hcs
    subst hcs
    simp only [if_true] at hz
    have hlen : (zs.take l).length = l := by rw [List.length_take]; omega
    refine ⟨zs.take l, ?_, fun z hz' => I64.of_wf (hwz z (List.mem_of_mem_take hz'))⟩
    refine ⟨some a, c, by rw [hlen], by omega, hm, fun hpos => ?_⟩
    obtain ⟨b, off, rfl, hc⟩ := ints_at hcell (by omega)
    refine ⟨b, off, rfl, Nat.zero_le _, World.block_lt_of_cell? W ⟨b, off + 0, none⟩ (hc 0 (by omega)), fun j hj => ?_⟩
    refine ⟨?_, ?_⟩
    · rw [hc j (by omega)]
      have : nth (zs.take l) j = zs.getD j 0 := by
        simp only [nth, List.getD_eq_getElem?_getD]
        rw [List.getElem?_take_of_lt (by omega)]
      show _ = some (Value.int .i64 (nth (zs.take l) j))
      rw [this]
    · refine hfz b (off + j) ?_
      simp only [MemPlace.row, List.mem_map, List.mem_range]
      exact ⟨j, by omega, rfl⟩
end

end Go.Proofs.YtkcbocoimbhhaaaGreat

/- Contracts of small functions of the program and of the reference on numbers and on lists of numbers. -/
namespace Go.Proofs.YtkcbocoimbhhaaaGreat
open Go.ChangeShapes Go.WideShapes Go.ChangeAt Go.RowKit
set_option linter.unusedVariables false

def inB (n lo hi : Int) : Bool := decide (lo ≤ n) && decide (n ≤ hi)
theorem inB_low {n lo hi : Int} (h1 : n < lo) : inB n lo hi = false := by simp [inB]; omega
theorem inB_le {n lo hi : Int} (h : inB n lo hi = true) : lo ≤ n ∧ n ≤ hi := by simpa [inB] using h
theorem within_any (n lo hi : Int) (w : World) :
    Calls Tryz.prog 55 #[.int .i64 n, .int .i64 lo, .int .i64 hi] w fun e w' => e = .returned (.bool (inB n lo hi)) ∧ w = w' := by
  by_cases h1 : lo ≤ n
  · go_enter Tryz.func55, Tryz.ntmps55
    go_wp2
    go_ret
    exact ⟨by simp [inB, h1], rfl⟩
  · have h1' : n < lo := by omega
    go_enter Tryz.func55, Tryz.ntmps55
    go_wp2
    go_ret
    exact ⟨ret_bool (inB_low h1').symm, rfl⟩

theorem l1In_any (n lo hi : Int) (w : World) :
    Calls Tryz.prog 42 #[.int .i64 n, .int .i64 lo, .int .i64 hi] w fun e w' => e = .returned (.bool (inB n lo hi)) ∧ w = w' := by
  by_cases h1 : lo ≤ n
  · go_enter Tryz.func42, Tryz.ntmps42
    go_wp2
    go_ret
    exact ⟨by simp [inB, h1], rfl⟩
  · have h1' : n < lo := by omega
    go_enter Tryz.func42, Tryz.ntmps42
    go_wp2
    go_ret
    exact ⟨ret_bool (inB_low h1').symm, rfl⟩

theorem below_a2' (w : World) (o o2 : Obj) : Below w.heap.size w ((w.alloc o).alloc o2) := ((Below.refl _ _).alloc (Nat.le_refl _) o).alloc (by simp) _

/-- a property of all elements before k -/
def Upto (zs : List Int) (k : Nat) (p : Int → Bool) : Prop := ∀ j, j < k → p (nth zs j) = true
theorem Upto.zero (zs : List Int) (p : Int → Bool) : Upto zs 0 p := fun j hj => absurd hj (by omega)
theorem Upto.succ {zs : List Int} {k : Nat} {p : Int → Bool} (h : Upto zs k p) (hk : p (nth zs k) = true) : Upto zs (k + 1) p := fun j hj => by
  by_cases e : j = k
  · rw [e]; exact hk
  · exact h j (by omega)
theorem Upto.all {zs : List Int} {p : Int → Bool} (h : Upto zs zs.length p) : zs.all p = true := by
  rw [List.all_eq_true]
  intro x hx
  obtain ⟨j, hj, e⟩ := List.mem_iff_getElem.1 hx
  have := h j hj
  rwa [nth_eq hj, e] at this
theorem all_false {zs : List Int} {k : Nat} {p : Int → Bool} (hk : k < zs.length) (h : p (nth zs k) = false) : zs.all p = false := by
  rw [Bool.eq_false_iff]
  intro ha
  rw [List.all_eq_true] at ha
  have := ha _ (nth_mem hk)
  rw [h] at this
  cases this

set_option maxHeartbeats 400000 in
theorem l1Has_any (v : Value) (zs : List Int) (x : Int) (lo hi : Nat) (w : World) (h : IntS w lo hi v zs) :
    Calls Tryz.prog 73 #[v, .int .i64 x] w fun e w' => e = .returned (.bool (decide (x ∈ zs))) ∧ w = w' := by
  obtain ⟨A, c, rfl, hc1, hc2, hcell⟩ := h.form
  unfold maxLen at hc2
  go_enter Tryz.func73, Tryz.ntmps73
  go_wp2
  go_loop [9] (fun i => ∃ k : Nat, k ≤ zs.length ∧ i = .int .i64 k ∧ Hid (Upto zs k fun y => y != x)) (fun i => zs.length - (intOf i).toNat)
  case atStart => exact ⟨0, Nat.zero_le _, rfl, Lib.hid (Upto.zero _ _)⟩
  case round =>
    obtain ⟨k, hk, rfl, HU⟩ := hrel
    by_cases hlt : k < zs.length
    · obtain ⟨b, off, rfl, hb1, hb2, hcs⟩ := hcell (by omega)
      have hck := (hcs k hlt).1
      clear hcs hcell
      by_cases he : nth zs k = x
      · have he' : (nth zs k == x) = true := by simpa using he
        have HE := Lib.hid he
        clear he
        go_wp2
        go_ret
        exact ⟨ret_bool (by symm; rw [decide_eq_true_iff, ← HE.out]; exact nth_mem hlt), rfl⟩
      · have he' : (nth zs k == x) = false := by simpa using he
        have HE := Lib.hid he
        clear he
        go_wp2
        go_round
        case rel => exact ⟨k + 1, by omega, by go_num, Lib.hid (HU.out.succ (by simpa using HE.out))⟩
        case measure => simp [intOf]; omega
    · obtain rfl : k = zs.length := by omega
      go_wp2
      go_ret
      refine ⟨ret_bool ?_, rfl⟩
      symm
      rw [decide_eq_false_iff_not]
      intro hm
      have := HU.out.all
      rw [List.all_eq_true] at this
      have := this _ hm
      simp at this

set_option maxHeartbeats 400000 in
theorem l1All_any (v : Value) (zs : List Int) (a b : Int) (lo hi : Nat) (w : World) (h : IntS w lo hi v zs) :
    Calls Tryz.prog 44 #[v, .int .i64 a, .int .i64 b] w fun e w' => e = .returned (.bool (zs.all fun x => inB x a b)) ∧ w = w' := by
  obtain ⟨A, c, rfl, hc1, hc2, hcell⟩ := h.form
  unfold maxLen at hc2
  go_enter Tryz.func44, Tryz.ntmps44
  go_wp2
  go_loop [11] (fun i => ∃ k : Nat, k ≤ zs.length ∧ i = .int .i64 k ∧ Hid (Upto zs k fun x => inB x a b)) (fun i => zs.length - (intOf i).toNat)
  case atStart => exact ⟨0, Nat.zero_le _, rfl, Lib.hid (Upto.zero _ _)⟩
  case round =>
    obtain ⟨k, hk, rfl, HU⟩ := hrel
    by_cases hlt : k < zs.length
    · obtain ⟨b', off, rfl, hb1, hb2, hcs⟩ := hcell (by omega)
      have hck := (hcs k hlt).1
      clear hcs hcell
      by_cases he : inB (nth zs k) a b = true
      · go_wp2_with (go_at_call 42; refine (l1In_any _ _ _ _).mono ?_; rintro e w' ⟨rfl, rfl⟩)
        go_round
        case rel => exact ⟨k + 1, by omega, by go_num, Lib.hid (HU.out.succ he)⟩
        case measure => simp [intOf]; omega
      · have he' : inB (nth zs k) a b = false := by simpa using he
        clear he
        go_wp2_with (go_at_call 42; refine (l1In_any _ _ _ _).mono ?_; rintro e w' ⟨rfl, rfl⟩)
        go_ret
        exact ⟨ret_bool (all_false hlt he').symm, rfl⟩
    · obtain rfl : k = zs.length := by omega
      go_wp2
      go_ret
      exact ⟨ret_bool HU.out.all.symm, rfl⟩

/-- strictly increasing numbers within bounds -/
def risingAt (zs : List Int) (a b : Int) (k : Nat) : Bool := inB (nth zs k) a b && (k == 0 || decide (nth zs (k - 1) < nth zs k))
def rising (zs : List Int) (a b : Int) : Bool := (List.range zs.length).all (risingAt zs a b)
theorem rising_true {zs : List Int} {a b : Int} (h : ∀ j, j < zs.length → risingAt zs a b j = true) : rising zs a b = true := by
  unfold rising; rw [List.all_eq_true]; intro j hj; exact h j (List.mem_range.1 hj)
theorem rising_false {zs : List Int} {a b : Int} {k : Nat} (hk : k < zs.length) (h : risingAt zs a b k = false) : rising zs a b = false := by
  rw [Bool.eq_false_iff]; intro ha; unfold rising at ha; rw [List.all_eq_true] at ha
  have := ha k (List.mem_range.2 hk); rw [h] at this; cases this

set_option maxHeartbeats 1000000 in
theorem increasing_any (v : Value) (zs : List Int) (a b : Int) (lo hi : Nat) (w : World) (h : IntS w lo hi v zs) :
    Calls Tryz.prog 84 #[v, .int .i64 a, .int .i64 b] w fun e w' => e = .returned (.bool (rising zs a b)) ∧ w = w' := by
  obtain ⟨A, c, rfl, hc1, hc2, hcell⟩ := h.form
  unfold maxLen at hc2
  go_enter Tryz.func84, Tryz.ntmps84
  go_wp2
  go_loop [11] (fun i => ∃ k : Nat, k ≤ zs.length ∧ i = .int .i64 k ∧ Hid (∀ j, j < k → risingAt zs a b j = true)) (fun i => zs.length - (intOf i).toNat)
  case atStart => exact ⟨0, Nat.zero_le _, rfl, Lib.hid fun j hj => absurd hj (by omega)⟩
  case round =>
    obtain ⟨k, hk, rfl, HU⟩ := hrel
    have hnext : ∀ j, j < k → risingAt zs a b j = true := HU.out
    have step : risingAt zs a b k = true → ∀ j, j < k + 1 → risingAt zs a b j = true := fun h j hj => by
      by_cases e : j = k
      · rw [e]; exact h
      · exact hnext j (by omega)
    have ST := Lib.hid step
    clear step hnext
    by_cases hlt : k < zs.length
    · obtain ⟨b', off, rfl, hb1, hb2, hcs⟩ := hcell (by omega)
      have hck := (hcs k hlt).1
      have hcp := fun hp : 0 < k => (hcs (k - 1) (by omega)).1
      clear hcs hcell
      by_cases he : inB (nth zs k) a b = true
      · by_cases h0 : k = 0
        · subst h0
          rw [Nat.add_zero] at hck
          go_wp2_with (go_at_call 55; refine (within_any _ _ _ _).mono ?_; rintro e w' ⟨rfl, rfl⟩)
          go_round
          case rel => exact ⟨0 + 1, by omega, by go_num, Lib.hid (ST.out (by simp [risingAt, he]))⟩
          case measure => simp [intOf]; omega
        · have hp := hcp (by omega)
          have hpos : (0 : Int) < k := by omega
          clear hcp
          by_cases hs : nth zs (k - 1) < nth zs k
          · have hs' : ¬ nth zs k ≤ nth zs (k - 1) := by omega
            go_wp2_with (go_at_call 55; refine (within_any _ _ _ _).mono ?_; rintro e w' ⟨rfl, rfl⟩)
            go_round
            case rel => exact ⟨k + 1, by omega, by go_num, Lib.hid (ST.out (by simp [risingAt, he, hs]))⟩
            case measure => simp [intOf]; omega
          · have hs' : nth zs k ≤ nth zs (k - 1) := by omega
            go_wp2_with (go_at_call 55; refine (within_any _ _ _ _).mono ?_; rintro e w' ⟨rfl, rfl⟩)
            go_ret
            exact ⟨ret_bool (rising_false hlt (by simp [risingAt, h0]; omega)).symm, rfl⟩
      · have he' : inB (nth zs k) a b = false := by simpa using he
        clear he hcp
        go_wp2_with (go_at_call 55; refine (within_any _ _ _ _).mono ?_; rintro e w' ⟨rfl, rfl⟩)
        go_ret
        exact ⟨ret_bool (rising_false hlt (by simp [risingAt, he'])).symm, rfl⟩
    · obtain rfl : k = zs.length := by omega
      go_wp2
      go_ret
      exact ⟨ret_bool (rising_true HU.out).symm, rfl⟩

/-- identifiers, as the reference looks at them -/
def idAt (zs : List Int) (k : Nat) : Bool := inB (nth zs k) 1 999999 && !decide (nth zs k ∈ zs.take k)
def idsGood (zs : List Int) (n : Int) : Bool := (List.range zs.length).all (idAt zs) && (decide (zs.length = 0) || decide ((zs.length : Int) = n))
theorem idsGood_bad {zs : List Int} {n : Int} {k : Nat} (hk : k < zs.length) (h : idAt zs k = false) : idsGood zs n = false := by
  have : (List.range zs.length).all (idAt zs) = false := by
    rw [Bool.eq_false_iff]; intro ha; rw [List.all_eq_true] at ha
    have := ha k (List.mem_range.2 hk); rw [h] at this; cases this
  simp [idsGood, this]
theorem idsGood_ok {zs : List Int} {n : Int} (h : ∀ j, j < zs.length → idAt zs j = true) : idsGood zs n = (decide (zs.length = 0) || decide ((zs.length : Int) = n)) := by
  have : (List.range zs.length).all (idAt zs) = true := by rw [List.all_eq_true]; intro j hj; exact h j (List.mem_range.1 hj)
  simp [idsGood, this]

/-- the first k elements of a slice -/
theorem IntS.take {w : World} {lo hi : Nat} {A : Option Addr} {c : Nat} {zs : List Int} (h : IntS w lo hi (.slice A zs.length c) zs) (k : Nat) (hk : k ≤ zs.length) : IntS w lo hi (.slice A k c) (zs.take k) := by
  obtain ⟨A', c', e, h1, h2, h3⟩ := h.form
  injection e with e1 e2 e3
  subst e1 e3
  have hl : (zs.take k).length = k := List.length_take_of_le hk
  refine ⟨A, c, by rw [hl], by rw [hl]; omega, h2, fun hn => ?_⟩
  rw [hl] at hn
  obtain ⟨b, off, e4, h4, h5, h6⟩ := h3 (by omega)
  refine ⟨b, off, e4, h4, h5, fun j hj => ?_⟩
  rw [hl] at hj
  have : nth (zs.take k) j = nth zs j := by simp only [nth, List.getD_eq_getElem?_getD]; rw [List.getElem?_take_of_lt (by omega)]
  show w.cell? _ = some (Value.int .i64 (nth (zs.take k) j)) ∧ _
  rw [this]
  exact h6 j (by omega)

set_option maxHeartbeats 1000000 in
theorem neIds_any (v : Value) (zs : List Int) (n : Int) (lo hi : Nat) (w : World) (h : IntS w lo hi v zs) :
    Calls Tryz.prog 43 #[v, .int .i64 n] w fun e w' => e = .returned (.bool (idsGood zs n)) ∧ w = w' := by
  obtain ⟨A, c, rfl, hc1, hc2, hcell⟩ := h.form
  unfold maxLen at hc2
  have HH := Lib.hid h
  clear h
  go_enter Tryz.func43, Tryz.ntmps43
  go_wp2
  go_loop [9] (fun i => ∃ k : Nat, k ≤ zs.length ∧ i = .int .i64 k ∧ Hid (∀ j, j < k → idAt zs j = true)) (fun i => zs.length - (intOf i).toNat)
  case atStart => exact ⟨0, Nat.zero_le _, rfl, Lib.hid fun j hj => absurd hj (by omega)⟩
  case round =>
    obtain ⟨k, hk, rfl, HU⟩ := hrel
    by_cases hlt : k < zs.length
    · obtain ⟨b', off, rfl, hb1, hb2, hcs⟩ := hcell (by omega)
      have hck := (hcs k hlt).1
      have HT := Lib.hid (HH.out.take k hk)
      clear hcs hcell
      by_cases he : inB (nth zs k) 1 999999 = true
      · by_cases hm : nth zs k ∈ zs.take k
        · have hm' : decide (nth zs k ∈ zs.take k) = true := decide_eq_true hm
          have HM := Lib.hid hm'
          clear hm hm'
          go_wp2_with (first
            | (go_at_call 42; refine (l1In_any _ _ _ _).mono ?_; rintro e w' ⟨rfl, rfl⟩)
            | (go_at_call 73; refine (l1Has_any _ (zs.take k) _ lo hi _ HT.out).mono ?_; rintro e w' ⟨rfl, rfl⟩; rw [HM.out]))
          go_ret
          exact ⟨ret_bool (idsGood_bad hlt (by unfold idAt; rw [HM.out]; simp)).symm, rfl⟩
        · have hm' : decide (nth zs k ∈ zs.take k) = false := decide_eq_false hm
          have HM := Lib.hid hm'
          clear hm hm'
          go_wp2_with (first
            | (go_at_call 42; refine (l1In_any _ _ _ _).mono ?_; rintro e w' ⟨rfl, rfl⟩)
            | (go_at_call 73; refine (l1Has_any _ (zs.take k) _ lo hi _ HT.out).mono ?_; rintro e w' ⟨rfl, rfl⟩; rw [HM.out]))
          go_round
          case rel =>
            refine ⟨k + 1, by omega, by go_num, Lib.hid fun j hj => ?_⟩
            by_cases e : j = k
            · subst e; unfold idAt; rw [HM.out, he]; rfl
            · exact HU.out j (by omega)
          case measure => simp [intOf]; omega
      · have he' : inB (nth zs k) 1 999999 = false := by simpa using he
        clear he
        go_wp2_with (go_at_call 42; refine (l1In_any _ _ _ _).mono ?_; rintro e w' ⟨rfl, rfl⟩)
        go_ret
        exact ⟨ret_bool (idsGood_bad hlt (by unfold idAt; rw [he']; simp)).symm, rfl⟩
    · obtain rfl : k = zs.length := by omega
      by_cases h0 : zs.length = 0
      · have h0' : ((zs.length : Int) == 0) = true := by simp [h0]
        have H0 := Lib.hid h0
        clear h0
        go_wp2
        go_ret
        exact ⟨ret_bool (by rw [idsGood_ok HU.out]; simp [H0.out]), rfl⟩
      · have h0' : ((zs.length : Int) == 0) = false := by rw [beq_eq_false_iff_ne]; omega
        go_wp2
        go_ret
        refine ⟨ret_bool ?_, rfl⟩
        rw [idsGood_ok HU.out, decide_eq_false h0, Bool.false_or]
        by_cases e : (zs.length : Int) = n <;> simp [e]

/-- the place of the first number that a predicate takes, or -1 -/
def fidx (p : Int → Bool) (zs : List Int) : Int := if zs.any p then (zs.findIdx p : Int) else -1
theorem fidx_hit {p : Int → Bool} {zs : List Int} {k : Nat} (hk : k < zs.length) (h : p (nth zs k) = true) (hb : ∀ j, j < k → p (nth zs j) = false) : fidx p zs = k := by
  have ha : zs.any p = true := List.any_eq_true.2 ⟨_, nth_mem hk, h⟩
  unfold fidx
  rw [if_pos ha]
  have : zs.findIdx p = k := by
    rw [List.findIdx_eq hk]
    refine ⟨by rw [← nth_eq hk]; exact h, fun j hj => ?_⟩
    have := hb j hj
    rw [nth_eq (by omega)] at this
    simpa using this
  rw [this]
theorem fidx_none {p : Int → Bool} {zs : List Int} (h : ∀ j, j < zs.length → p (nth zs j) = false) : fidx p zs = -1 := by
  unfold fidx
  rw [if_neg]
  intro ha
  obtain ⟨x, hx, hp⟩ := List.any_eq_true.1 ha
  obtain ⟨j, hj, e⟩ := List.mem_iff_getElem.1 hx
  have := h j hj
  rw [nth_eq hj, e, hp] at this
  cases this
theorem fidx_any (p : Int → Bool) (zs : List Int) : decide (0 ≤ fidx p zs) = zs.any p := by
  unfold fidx
  split
  · rename_i h; rw [h]; simp
  · rename_i h; rw [Bool.not_eq_true] at h; rw [h]; rfl

set_option maxHeartbeats 1000000 in
theorem IndexFunc_int (f : Nat) (caps : Array Value) (eg : ∀ args w, (callFunc f args).run Tryz.prog w = .ok (.enter f args) w) (p : Int → Bool) (v : Value) (zs : List Int) (lo hi : Nat) (w : World) (h : IntS w lo hi v zs) (hhi : hi ≤ w.heap.size)
    (hp : ∀ x ∈ zs, ∀ W, Below w.heap.size w W → Calls Tryz.prog f (#[.int .i64 x] ++ caps) W fun e w' => e = .returned (.bool (p x)) ∧ Below W.heap.size W w') :
    Calls Tryz.prog 103 #[v, .func (.func f) #[] caps] w fun e w' => e = .returned (.int .i64 (fidx p zs)) ∧ Below w.heap.size w w' := by
  obtain ⟨A, c, rfl, hc1, hc2, hcell⟩ := h.form
  unfold maxLen at hc2
  have HP := Lib.hid hp
  clear hp
  go_enter Tryz.func103, Tryz.ntmps103
  go_wp2
  go_loopw [8] (fun i wr => ∃ k : Nat, k ≤ zs.length ∧ i = .int .i64 k ∧ Hid (∀ j, j < k → p (nth zs j) = false) ∧ Below w.heap.size w wr) (fun i _ => zs.length - (intOf i).toNat)
  case atStart => exact ⟨0, Nat.zero_le _, rfl, Lib.hid fun j hj => absurd hj (by omega), Below.refl _ _⟩
  case round =>
    obtain ⟨k, hk, rfl, HU, hb⟩ := hrel
    have hs0 := hb.size
    by_cases hlt : k < zs.length
    · obtain ⟨b, off, rfl, hb1, hb2, hcs⟩ := hcell (by omega)
      have hck := (hb.cell (p := ⟨b, off + k, none⟩) (by show b < _; omega)).trans (hcs k hlt).1
      clear hcs hcell
      cases hq : p (nth zs k) with
      | true =>
        have HC := Lib.hid (HP.out _ (nth_mem hlt) wr hb)
        rw [hq] at HC
        have HQ := Lib.hid hq
        clear hq
        go_wp2_with (go_at_fn f; refine HC.out.mono ?_; rintro e w' ⟨rfl, hb'⟩)
        go_ret
        exact ⟨ret_int (fidx_hit hlt HQ.out HU.out).symm, hb.trans (hb'.mono hs0)⟩
      | false =>
        have HC := Lib.hid (HP.out _ (nth_mem hlt) wr hb)
        rw [hq] at HC
        have HQ := Lib.hid hq
        clear hq
        go_wp2_with (go_at_fn f; refine HC.out.mono ?_; rintro e w' ⟨rfl, hb'⟩)
        go_roundw
        case rel =>
          refine ⟨k + 1, by omega, by go_num, Lib.hid fun j hj => ?_, hb.trans (hb'.mono hs0)⟩
          by_cases e : j = k
          · rw [e]; exact HQ.out
          · exact HU.out j (by omega)
        case measure => simp [intOf]; omega
    · obtain rfl : k = zs.length := by omega
      go_wp2
      go_ret
      exact ⟨ret_int (fidx_none HU.out).symm, hb⟩

theorem ContainsFunc_int (f : Nat) (caps : Array Value) (eg : ∀ args w, (callFunc f args).run Tryz.prog w = .ok (.enter f args) w) (p : Int → Bool) (v : Value) (zs : List Int) (lo hi : Nat) (w : World) (h : IntS w lo hi v zs) (hhi : hi ≤ w.heap.size)
    (hp : ∀ x ∈ zs, ∀ W, Below w.heap.size w W → Calls Tryz.prog f (#[.int .i64 x] ++ caps) W fun e w' => e = .returned (.bool (p x)) ∧ Below W.heap.size W w') :
    Calls Tryz.prog 87 #[v, .func (.func f) #[] caps] w fun e w' => e = .returned (.bool (zs.any p)) ∧ Below w.heap.size w w' := by
  have HC := Lib.hid (IndexFunc_int f caps eg p v zs lo hi w h hhi hp)
  obtain ⟨A, c, rfl⟩ := h.shape
  clear hp h eg
  go_enter Tryz.func87, Tryz.ntmps87
  go_wp2_with (go_at_call 103; refine HC.out.mono ?_; rintro e w' ⟨rfl, hb'⟩)
  go_ret
  exact ⟨ret_bool (fidx_any p zs), hb'⟩

theorem not_any_not {α : Type} (p : α → Bool) (zs : List α) : (!zs.any fun x => !p x) = zs.all p := by
  induction zs with
  | nil => rfl
  | cons x l ih => rw [List.any_cons, List.all_cons, ← ih]; cases p x <;> simp

theorem allWithin_any (v : Value) (zs : List Int) (a b : Int) (lo hi : Nat) (w : World) (h : IntS w lo hi v zs) (hhi : hi ≤ w.heap.size) :
    Calls Tryz.prog 61 #[v, .int .i64 a, .int .i64 b] w fun e w' => e = .returned (.bool (zs.all fun x => inB x a b)) ∧ Below w.heap.size w w' := by
  have hb0 := below_a2' w (.cells #[.int .i64 a] 3) (.cells #[.int .i64 b] 3)
  have hcl : ∀ x ∈ zs, ∀ W, Below ((w.alloc (.cells #[.int .i64 a] 3)).alloc (.cells #[.int .i64 b] 3)).heap.size ((w.alloc (.cells #[.int .i64 a] 3)).alloc (.cells #[.int .i64 b] 3)) W →
      Calls Tryz.prog 88 (#[.int .i64 x] ++ #[.pointer (some ⟨w.heap.size, 0, none⟩), .pointer (some ⟨w.heap.size + 1, 0, none⟩)]) W fun e w' => e = .returned (.bool (!inB x a b)) ∧ Below W.heap.size W w' := by
    intro x _ W hW
    have c0 : W.cell? ⟨w.heap.size, 0, none⟩ = some (.int .i64 a) := by
      rw [hW.cell (p := ⟨w.heap.size, 0, none⟩) (by simp; omega), World.cell?_alloc_past _ _ _ (by simp), World.cell?_alloc_at _ _ _ _ rfl]; rfl
    have c1 : W.cell? ⟨w.heap.size + 1, 0, none⟩ = some (.int .i64 b) := by
      rw [hW.cell (p := ⟨w.heap.size + 1, 0, none⟩) (by simp), World.cell?_alloc_at _ _ _ _ (by simp)]; rfl
    clear hW
    show Calls Tryz.prog 88 #[.int .i64 x, .pointer (some ⟨w.heap.size, 0, none⟩), .pointer (some ⟨w.heap.size + 1, 0, none⟩)] W _
    go_enter Tryz.func88, Tryz.ntmps88
    go_wp2_with (go_at_call 55; refine (within_any _ _ _ _).mono ?_; rintro e w' ⟨rfl, rfl⟩)
    go_ret
    exact ⟨rfl, Below.refl _ _⟩
  have HC := Lib.hid (ContainsFunc_int 88 _ (enters_of Tryz.func88 (by kernel_rfl) rfl) (fun x => !inB x a b) v zs lo hi _ (h.below hb0 hhi) (by simp; omega) hcl)
  obtain ⟨A, c, rfl⟩ := h.shape
  clear hcl h
  have hmf : ∀ (fn : Fn) (first cap : Array Value) (w : World), (Instr.makeFunc fn first cap).run Tryz.prog w = .ok (.func fn first cap) w := fun _ _ _ _ => rfl
  go_enter Tryz.func61, Tryz.ntmps61
  go_wp2_with (go_at_call 87; refine HC.out.mono ?_; rintro e w' ⟨rfl, hb'⟩)
  go_ret
  exact ⟨ret_bool (not_any_not _ _), hb0.trans (hb'.mono (by simp; omega))⟩

end Go.Proofs.YtkcbocoimbhhaaaGreat

/- Contracts of the laws' helpers on slices of pairs. -/
namespace Go.Proofs.YtkcbocoimbhhaaaGreat
open Go.ChangeShapes Go.WideShapes Go.ChangeAt Go.RowKit
set_option linter.unusedVariables false

theorem below_a1 (w : World) (o : Obj) : Below w.heap.size w (w.alloc o) := (Below.refl _ _).alloc (Nat.le_refl _) _
theorem below_a2 (w : World) (o o2 : Obj) : Below w.heap.size w ((w.alloc o).alloc o2) := (below_a1 w o).alloc (by simp) _
theorem below_a3 (w : World) (o o2 o3 : Obj) : Below w.heap.size w (((w.alloc o).alloc o2).alloc o3) := (below_a2 w o o2).alloc (by simp; omega) _
/-- how many elements the first k lists have -/
def sumL {α : Type} (xss : List (List α)) (k : Nat) : Nat := ((xss.take k).map List.length).sum
theorem sumL_zero {α : Type} (xss : List (List α)) : sumL xss 0 = 0 := by simp [sumL]
theorem sumL_succ {α : Type} (xss : List (List α)) (k : Nat) (h : k < xss.length) : sumL xss (k + 1) = sumL xss k + (nthL xss k).length := by
  unfold sumL
  rw [List.take_succ_eq_append_getElem h, List.map_append, List.sum_append, nthL_eq h]
  simp
theorem sumL_mono {α : Type} (xss : List (List α)) (k : Nat) (h : k ≤ xss.length) : sumL xss k ≤ sumL xss xss.length := by
  have : ∀ d, k + d ≤ xss.length → sumL xss k ≤ sumL xss (k + d) := by
    intro d
    induction d with
    | zero => intro _; exact Nat.le_refl _
    | succ d ih => intro hd; have := ih (by omega); have := sumL_succ xss (k + d) (by omega); rw [← Nat.add_assoc]; omega
  have := this (xss.length - k) (by omega)
  rwa [show k + (xss.length - k) = xss.length by omega] at this
def cntSS {α : Type} (xss : List (List α)) : Nat := sumL xss xss.length
def szSS {α : Type} (xss : List (List α)) : Nat := xss.length + cntSS xss
theorem len_le_cnt {α : Type} (xss : List (List α)) (k : Nat) (h : k < xss.length) : (nthL xss k).length ≤ cntSS xss := by
  have h1 := sumL_succ xss k h
  have h2 := sumL_mono xss (k + 1) (by omega)
  unfold cntSS; omega

/-- what is left of an allowance -/
def szr (left : Int) (n : Nat) : Int := if (n : Int) ≤ left then left - n else -1

set_option maxHeartbeats 400000 in
theorem szIntS_any (v : Value) (zs : List Int) (left : Int) (lo hi : Nat) (w : World) (h : IntS w lo hi v zs) (h0 : 0 ≤ left) (h1 : left ≤ 1048576) :
    Calls Tryz.prog 20 #[v, .int .i64 left] w fun e w' => e = .returned (.int .i64 (szr left zs.length)) ∧ w = w' := by
  obtain ⟨A, c, rfl, hc1, hc2, hcell⟩ := h.form
  unfold maxLen at hc2
  by_cases hl : (zs.length : Int) ≤ left
  · have : ¬ left - zs.length < 0 := by omega
    go_enter Tryz.func20, Tryz.ntmps20
    go_wp2
    go_ret
    exact ⟨ret_int (by unfold szr; rw [if_pos hl]), rfl⟩
  · have : left - zs.length < 0 := by omega
    go_enter Tryz.func20, Tryz.ntmps20
    go_wp2
    go_ret
    exact ⟨ret_int (by unfold szr; rw [if_neg (by omega)]), rfl⟩

set_option maxHeartbeats 400000 in
theorem szEndS_any (v : Value) (zs : List (Int × Int)) (left : Int) (lo hi : Nat) (w : World) (h : EndS w lo hi v zs) (h0 : 0 ≤ left) (h1 : left ≤ 1048576) :
    Calls Tryz.prog 39 #[v, .int .i64 left] w fun e w' => e = .returned (.int .i64 (szr left zs.length)) ∧ w = w' := by
  obtain ⟨A, c, rfl, hc1, hc2, hcell⟩ := h.form
  unfold maxLen at hc2
  by_cases hl : (zs.length : Int) ≤ left
  · have : ¬ left - zs.length < 0 := by omega
    go_enter Tryz.func39, Tryz.ntmps39
    go_wp2
    go_ret
    exact ⟨ret_int (by unfold szr; rw [if_pos hl]), rfl⟩
  · have : left - zs.length < 0 := by omega
    go_enter Tryz.func39, Tryz.ntmps39
    go_wp2
    go_ret
    exact ⟨ret_int (by unfold szr; rw [if_neg (by omega)]), rfl⟩

theorem toEnd_any (a b : Int) (w : World) :
    Calls Tryz.prog 76 #[.agg #[.int .i64 a, .int .i64 b]] w fun e w' => e = .returned (.agg #[.int .i64 a, .int .i64 b]) ∧ Below w.heap.size w w' := by
  go_enter Tryz.func76, Tryz.ntmps76
  go_wp2
  exact bodyPost_ret (v := .agg #[.int .i64 a, .int .i64 b]) (by simp [results, Tryz.results76, go_sem]) rfl ⟨rfl, below_a3 _ _ _ _⟩

theorem eqEnd_any (a b c d : Int) (w : World) :
    Calls Tryz.prog 94 #[.agg #[.int .i64 a, .int .i64 b], .agg #[.int .i64 c, .int .i64 d]] w fun e w' => e = .returned (.bool (decide ((a, b) = (c, d)))) ∧ Below w.heap.size w w' := by
  by_cases h1 : a = c
  · have h1' : (a != c) = false := by simp [h1]
    have H1 := Lib.hid h1
    clear h1
    by_cases h2 : b = d
    · have h2' : (b != d) = false := by simp [h2]
      have H2 := Lib.hid h2
      clear h2
      go_enter Tryz.func94, Tryz.ntmps94
      go_wp2
      go_ret
      exact ⟨ret_bool (by simp [H1.out, H2.out]), ((Below.refl _ _).alloc (Nat.le_refl _) _).alloc (by simp) _⟩
    · have h2' : (b != d) = true := by simp [h2]
      go_enter Tryz.func94, Tryz.ntmps94
      go_wp2
      go_ret
      exact ⟨ret_bool (by simp [h2]), ((Below.refl _ _).alloc (Nat.le_refl _) _).alloc (by simp) _⟩
  · have h1' : (a != c) = true := by simp [h1]
    go_enter Tryz.func94, Tryz.ntmps94
    go_wp2
    go_ret
    exact ⟨ret_bool (by simp [h1]), ((Below.refl _ _).alloc (Nat.le_refl _) _).alloc (by simp) _⟩

theorem Tryz.info72 : (Tryz.prog.info? 72).map (fun i => (i.zero, i.size, i.bytes)) = some (some (.agg #[.int .i64 0, .int .i64 0]), 2, 16) := by kernel_rfl

set_option maxHeartbeats 1000000 in
theorem toEndS_any (v : Value) (zs : List (Int × Int)) (lo hi : Nat) (w : World) (h : EndS w lo hi v zs) (hhi : hi ≤ w.heap.size) (hn : zs.length ≤ 16777216) :
    Calls Tryz.prog 48 #[v] w fun e w' => ∃ r, e = .returned r ∧ EndS w' w.heap.size w'.heap.size r zs ∧ Below w.heap.size w w' := by
  obtain ⟨A, c, rfl, hc1, hc2, hcell⟩ := h.form
  have hmk := fun W => make_pairs (P := Tryz.prog) 70 72 Tryz.underlying70 Tryz.info72 zs.length (by omega) W
  go_enter Tryz.func48, Tryz.ntmps48
  go_wp2
  go_loopw [4] (fun i wr => ∃ k : Nat, k ≤ zs.length ∧ i = .int .i64 k ∧ wr.rowIs w.heap.size 72 (zs.length * 2) (fun j => if j < k * 2 then endCell zs j else .int .i64 0) ∧ Below w.heap.size w wr) (fun i _ => zs.length - (intOf i).toNat)
  case atStart => exact ⟨0, Nat.zero_le _, rfl, (rowIs_pairs w zs.length 72).congr (fun i _ => by simp), (Below.refl _ _).alloc (Nat.le_refl _) _⟩
  case round =>
    obtain ⟨k, hk, rfl, hrow, hb⟩ := hrel
    clear hmk
    by_cases hlt : k < zs.length
    · obtain ⟨b, off, rfl, hb1, hb2, hcs⟩ := hcell (by omega)
      obtain ⟨h1, h2⟩ := hcs k hlt
      have hck := (hb.cell (p := ⟨b, off + k * 2, none⟩) (by show b < _; omega)).trans h1
      have hck' := (hb.cell (p := ⟨b, off + k * 2 + 1, none⟩) (by show b < _; omega)).trans h2
      clear hcs h1 h2 hcell
      go_wp2_with fail
      refine (toEnd_any _ _ _).mono ?_
      rintro e w1 ⟨rfl, hb1'⟩
      have hrow1 : w1.rowIs w.heap.size 72 (zs.length * 2) (fun j => if j < k * 2 then endCell zs j else .int .i64 0) := hrow.of_block (hb1'.block _ hrow.lt)
      have hbw1 := hb.trans (hb1'.mono hb.size)
      have oc := hrow1.cell (i := k * 2) (by omega)
      have oc' := hrow1.cell (i := k * 2 + 1) (by omega)
      have of := hrow1.frozen (k * 2)
      have of' := hrow1.frozen (k * 2 + 1)
      clear hck hck'
      go_wp2_with fail
      go_roundw
      case rel =>
        refine ⟨k + 1, by omega, by go_num, ?_, (hbw1.setCell (by simp) _).setCell (by simp) _⟩
        refine ((hrow1.set (k * 2) (.int .i64 (nthE zs k).1)).set (k * 2 + 1) (.int .i64 (nthE zs k).2)).congr fun j hj => ?_
        by_cases e : j = k * 2 + 1
        · subst e; rw [if_pos rfl, if_pos (by omega), endCell_snd]
        · rw [if_neg e]
          by_cases e2 : j = k * 2
          · subst e2; rw [if_pos rfl, if_pos (by omega), endCell_fst]
          · rw [if_neg e2]
            by_cases e3 : j < k * 2
            · rw [if_pos e3, if_pos (by omega)]
            · rw [if_neg e3, if_neg (by omega)]
      case measure => simp [intOf]; omega
    · obtain rfl : k = zs.length := by omega
      go_wp2
      go_ret
      refine ⟨_, rfl, ?_, hb⟩
      exact (Sl.of_row hrow (Nat.le_refl _) (Nat.le_refl _) (Nat.le_refl _) (by unfold maxLen; omega)).congr fun j hj => by rw [if_pos hj]

theorem eqEnd_same (a b : Int) (w : World) :
    Calls Tryz.prog 94 #[.agg #[.int .i64 a, .int .i64 b], .agg #[.int .i64 a, .int .i64 b]] w fun e w' => e = .returned (.bool true) ∧ Below w.heap.size w w' :=
  (eqEnd_any a b a b w).mono fun e w' ⟨h1, h2⟩ => ⟨by rw [h1]; simp, h2⟩

set_option maxHeartbeats 1000000 in
theorem eqEndS_same (v1 v2 : Value) (zs : List (Int × Int)) (lo1 hi1 lo2 hi2 : Nat) (w : World) (h1 : EndS w lo1 hi1 v1 zs) (h2 : EndS w lo2 hi2 v2 zs) (hh1 : hi1 ≤ w.heap.size) (hh2 : hi2 ≤ w.heap.size) :
    Calls Tryz.prog 67 #[v1, v2] w fun e w' => e = .returned (.bool true) ∧ Below w.heap.size w w' := by
  obtain ⟨A, c, rfl, hc1, hc2, hcell⟩ := h1.form
  obtain ⟨A2, c2, rfl, hd1, hd2, hcell2⟩ := h2.form
  unfold maxLen at hc2 hd2
  go_enter Tryz.func67, Tryz.ntmps67
  go_wp2
  go_loopw [5] (fun i wr => ∃ k : Nat, k ≤ zs.length ∧ i = .int .i64 k ∧ Below w.heap.size w wr) (fun i _ => zs.length - (intOf i).toNat)
  case atStart => exact ⟨0, Nat.zero_le _, rfl, Below.refl _ _⟩
  case round =>
    obtain ⟨k, hk, rfl, hb⟩ := hrel
    by_cases hlt : k < zs.length
    · obtain ⟨b, off, rfl, hb1, hb2, hcs⟩ := hcell (by omega)
      obtain ⟨b', off', rfl, hb1', hb2', hcs'⟩ := hcell2 (by omega)
      obtain ⟨x1, x2⟩ := hcs k hlt
      obtain ⟨y1, y2⟩ := hcs' k hlt
      have p1 := (hb.cell (p := ⟨b, off + k * 2, none⟩) (by show b < _; omega)).trans x1
      have p2 := (hb.cell (p := ⟨b, off + k * 2 + 1, none⟩) (by show b < _; omega)).trans x2
      have p3 := (hb.cell (p := ⟨b', off' + k * 2, none⟩) (by show b' < _; omega)).trans y1
      have p4 := (hb.cell (p := ⟨b', off' + k * 2 + 1, none⟩) (by show b' < _; omega)).trans y2
      clear hcs hcs' hcell hcell2 x1 x2 y1 y2
      go_wp2
      go_region_with (go_at_call 94; refine (eqEnd_same _ _ _).mono ?_; rintro e w1 ⟨rfl, hbq⟩)
      all_goals (try go_wp2)
      all_goals go_roundw
      case rel => exact ⟨k + 1, by omega, by go_num, hb.drew.trans (hbq.mono hb.size)⟩
      case measure => simp [intOf]; omega
      case rel => exact ⟨k + 1, by omega, by go_num, hb.drew.trans (hbq.mono hb.size)⟩
      case measure => simp [intOf]; omega
    · obtain rfl : k = zs.length := by omega
      go_wp2
      go_ret
      exact ⟨rfl, hb⟩

/-- the pairs of numbers that mark leaves -/
def runE (k : Int) : Nat → List (Int × Int)
  | 0 => []
  | n + 1 => (k, k + 1) :: runE (k + 2) n
theorem runE_length (k : Int) (n : Nat) : (runE k n).length = n := by induction n generalizing k with | zero => rfl | succ n ih => simp [runE, ih]
theorem nthE_runE (k : Int) (n j : Nat) (h : j < n) : nthE (runE k n) j = (k + 2 * j, k + 2 * j + 1) := by
  induction n generalizing k j with
  | zero => omega
  | succ n ih =>
    cases j with
    | zero => simp [runE, nthE_cons_zero]
    | succ j => rw [runE, nthE_cons_succ, ih (k + 2) j (by omega)]; simp only [Prod.mk.injEq]; omega
theorem endCell_run (k : Int) (n j : Nat) (h : j < n * 2) : endCell (runE k n) j = .int .i64 (k + j) := by
  unfold endCell
  rw [nthE_runE _ _ _ (by omega)]
  split
  · congr 1; omega
  · congr 1; omega

set_option maxHeartbeats 1000000 in
theorem markEndS_any (v : Value) (zs : List (Int × Int)) (k : Int) (lo hi : Nat) (w : World) (h : EndS w lo hi v zs) (hhi : hi ≤ w.heap.size) (hk0 : 0 ≤ k) (hk1 : k ≤ 1152921504606846976) (hn : zs.length ≤ 576460752303423488) :
    Calls Tryz.prog 68 #[v, .int .i64 k] w fun e w' => e = .returned (.int .i64 (k + 2 * zs.length)) ∧ EndS w' lo hi v (runE k zs.length) ∧ w.grownBy w' (rowOf zs.length v) ∧ w'.heap.size = w.heap.size := by
  obtain ⟨A, c, rfl, hc1, hc2, hcell⟩ := h.form
  go_enter Tryz.func68, Tryz.ntmps68
  go_wp2
  go_loopw [5, 1] (fun i kv wr => ∃ m : Nat, m ≤ zs.length ∧ i = .int .i64 m ∧ kv = .int .i64 (k + 2 * m) ∧ Sl wr lo hi 2 (.slice A zs.length c) zs.length (fun j => if j < m * 2 then .int .i64 (k + j) else endCell zs j) ∧ w.grownBy wr (rowOf zs.length (.slice A zs.length c)) ∧ Hid (wr.heap.size = w.heap.size)) (fun i _ _ => zs.length - (intOf i).toNat)
  case atStart => exact ⟨0, Nat.zero_le _, rfl, by simp, Sl.congr h fun j _ => by simp, World.grownBy.refl _ _, Lib.hid rfl⟩
  case round =>
    obtain ⟨m, hm, rfl, rfl, hs, ht, HS⟩ := hrel
    by_cases hlt : m < zs.length
    · obtain ⟨b, off, rfl, hb1, hb2, hcs⟩ := hcell (by omega)
      obtain ⟨hck, hfk⟩ := hs.at_ (j := m * 2) (by omega)
      obtain ⟨hck', hfk'⟩ := hs.at_ (j := m * 2 + 1) (by omega)
      rw [← Nat.add_assoc] at hck' hfk'
      rw [rowOf_some (by omega)] at ht
      clear hcs hcell
      have hcx : (wr.setCell ⟨b, off + m * 2, none⟩ (.int .i64 (k + 2 * m))).cell? ⟨b, off + m * 2 + 1, none⟩ = some (if m * 2 + 1 < m * 2 then .int .i64 (k + ((m * 2 + 1 : Nat) : Int)) else endCell zs (m * 2 + 1)) := by
        rw [World.cell?_setCell_other _ _ _ _ (by intro e; injection e with _ e _; omega)]; exact hck'
      go_wp2
      go_roundw
      case rel =>
        refine ⟨m + 1, by omega, by go_num, by go_num, ?_, by rw [rowOf_some (by omega)]; exact grownBy_setCell (grownBy_setCell ht rfl _) rfl _, Lib.hid (by simpa [World.setCell] using HS.out)⟩
        have h2 := (hs.set (j := m * 2) (by omega) (.int .i64 (k + 2 * m))).set (j := m * 2 + 1) (by omega) (.int .i64 (k + 2 * m + 1))
        rw [← Nat.add_assoc] at h2
        refine h2.congr fun j hj => ?_
        by_cases e : j = m * 2 + 1
        · subst e; rw [if_pos rfl, if_pos (by omega)]; congr 1; omega
        · rw [if_neg e]
          by_cases e1 : j = m * 2
          · subst e1; rw [if_pos rfl, if_pos (by omega)]; congr 1; omega
          · rw [if_neg e1]
            by_cases e2 : j < m * 2
            · rw [if_pos e2, if_pos (by omega)]
            · rw [if_neg e2, if_neg (by omega)]
      case measure => simp [intOf]; omega
    · obtain rfl : m = zs.length := by omega
      go_wp2
      go_ret
      refine ⟨rfl, ?_, ht, HS.out⟩
      unfold EndS
      rw [runE_length]
      exact hs.congr fun j hj => by rw [if_pos hj, endCell_run _ _ _ hj]

theorem Tryz.info70 : (Tryz.prog.info? 70).map (fun i => (i.zero, i.size, i.bytes)) = some (some (.slice none 0 0), 1, 24) := by kernel_rfl

set_option maxHeartbeats 1000000 in
theorem szEndSS_any (v : Value) (xss : List (List (Int × Int))) (left : Int) (lo hi : Nat) (w : World) (h : EndSS w lo hi v xss) (h0 : 0 ≤ left) (h1 : left ≤ 1048576) :
    Calls Tryz.prog 19 #[v, .int .i64 left] w fun e w' => e = .returned (.int .i64 (szr left (szSS xss))) ∧ w = w' := by
  obtain ⟨A, c, rfl, hc1, hc2, hcell⟩ := h.form
  unfold maxLen at hc2
  have hz : szSS xss = xss.length + sumL xss xss.length := rfl
  have HZ := Lib.hid hz
  clear hz
  by_cases hl : (xss.length : Int) ≤ left
  · have : ¬ left - xss.length < 0 := by omega
    go_enter Tryz.func19, Tryz.ntmps19
    go_wp2
    go_loop [5, 1] (fun i l => ∃ m : Nat, m ≤ xss.length ∧ i = .int .i64 m ∧ l = .int .i64 (left - xss.length - sumL xss m) ∧ 0 ≤ left - xss.length - sumL xss m) (fun i _ => xss.length - (intOf i).toNat)
    case atStart => exact ⟨0, Nat.zero_le _, rfl, by rw [sumL_zero]; simp, by rw [sumL_zero]; omega⟩
    case round =>
      obtain ⟨m, hm, rfl, rfl, hge⟩ := hrel
      by_cases hlt : m < xss.length
      · obtain ⟨b, off, rfl, hb1, hb2, hcs⟩ := hcell (by omega)
        obtain ⟨u, hcu, hR⟩ := hcs m hlt
        have HS := Lib.hid (sumL_succ xss m hlt)
        have hmo := sumL_mono xss (m + 1) (by omega)
        have HR := Lib.hid hR
        obtain ⟨A2, c2, rfl, hd1, hd2, _⟩ := hR.form
        clear hcs hcell hR
        by_cases hf : ((nthL xss m).length : Int) ≤ left - xss.length - sumL xss m
        · have e1 : szr (left - xss.length - sumL xss m) (nthL xss m).length = left - xss.length - sumL xss m - (nthL xss m).length := by unfold szr; rw [if_pos hf]
          have hnn : ¬ left - xss.length - sumL xss m - (nthL xss m).length < 0 := by omega
          have E1 := Lib.hid e1
          clear e1
          go_wp2_with (go_at_call 39; refine (szEndS_any _ (nthL xss m) _ lo hi _ HR.out (by omega) (by omega)).mono ?_; rintro e w' ⟨rfl, rfl⟩; rw [E1.out])
          go_round
          case rel =>
            have := HS.out
            exact ⟨m + 1, by omega, by go_num, by rw [this]; congr 1; omega, by rw [this]; omega⟩
          case measure => simp [intOf]; omega
        · have e1 : szr (left - xss.length - sumL xss m) (nthL xss m).length = -1 := by unfold szr; rw [if_neg hf]
          have E1 := Lib.hid e1
          clear e1
          go_wp2_with (go_at_call 39; refine (szEndS_any _ (nthL xss m) _ lo hi _ HR.out (by omega) (by omega)).mono ?_; rintro e w' ⟨rfl, rfl⟩; rw [E1.out])
          go_ret
          have h3 := HS.out
          have h4 := HZ.out
          exact ⟨ret_int (by unfold szr; rw [if_neg (by omega)]), rfl⟩
      · obtain rfl : m = xss.length := by omega
        go_wp2
        go_ret
        have h4 := HZ.out
        exact ⟨ret_int (by unfold szr; rw [if_pos (by omega)]; omega), rfl⟩
  · have : left - xss.length < 0 := by omega
    go_enter Tryz.func19, Tryz.ntmps19
    go_wp2
    go_ret
    have h4 := HZ.out
    exact ⟨ret_int (by unfold szr; rw [if_neg (by omega)]), rfl⟩

set_option maxHeartbeats 1000000 in
theorem toEndSS_any (v : Value) (xss : List (List (Int × Int))) (lo hi : Nat) (w : World) (h : EndSS w lo hi v xss) (hhi : hi ≤ w.heap.size) (hn : szSS xss ≤ 1048576) :
    Calls Tryz.prog 26 #[v] w fun e w' => ∃ r, e = .returned r ∧ EndSSx w' w.heap.size w'.heap.size r xss ∧ Below w.heap.size w w' := by
  obtain ⟨A, c, rfl, hc1, hc2, hcell⟩ := h.form
  have hln : xss.length ≤ 1048576 := by unfold szSS at hn; omega
  have hmk := fun W => run_make_row' (P := Tryz.prog) 36 70 (.slice none 0 0) 24 Tryz.underlying36 Tryz.info70 rfl .i64 .i64 xss.length (by omega) (by omega) W
  go_enter Tryz.func26, Tryz.ntmps26
  go_wp2
  go_loopw [4] (fun i wr => ∃ (k : Nat) (vs : Nat → Value), k ≤ xss.length ∧ i = .int .i64 k ∧ wr.rowIs w.heap.size 70 xss.length (fun j => if j < k then vs j else .slice none 0 0) ∧ (∀ j, j < k → EndS wr (w.heap.size + 1) wr.heap.size (vs j) (nthL xss j)) ∧
      (∀ i j, i < j → j < k → rowOf (nthL xss i).length (vs i) = none ∨ rowOf (nthL xss i).length (vs i) ≠ rowOf (nthL xss j).length (vs j)) ∧ Below w.heap.size w wr) (fun i _ => xss.length - (intOf i).toNat)
  case atStart => exact ⟨0, fun _ => undef, Nat.zero_le _, rfl, (World.rowIs_made w (.slice none 0 0) xss.length 70).congr (fun i _ => by simp), fun j hj => absurd hj (by omega), fun i j _ hj => absurd hj (by omega), (Below.refl _ _).alloc (Nat.le_refl _) _⟩
  case round =>
    obtain ⟨k, vs, hk, rfl, hrow, hvs, hap, hb⟩ := hrel
    clear hmk
    have HV := Lib.hid hvs
    have HA := Lib.hid hap
    clear hvs hap
    by_cases hlt : k < xss.length
    · obtain ⟨b, off, rfl, hb1, hb2, hcs⟩ := hcell (by omega)
      obtain ⟨u, hcu, hR⟩ := hcs k hlt
      have hck := (hb.cell (p := ⟨b, off + k, none⟩) (by show b < _; omega)).trans hcu
      have hRw : EndS wr lo hi u (nthL xss k) := hR.below hb (by omega)
      have HR := Lib.hid hRw
      have hlk := len_le_cnt xss k hlt
      have hlk2 : (nthL xss k).length ≤ 16777216 := by unfold szSS at hn; omega
      obtain ⟨A2, c2, rfl, hd1, hd2, _⟩ := hR.form
      clear hcs hcell hR hcu hRw
      have hs0 := hb.size
      go_wp2_with fail
      refine (toEndS_any _ (nthL xss k) lo hi _ HR.out (by omega) hlk2).mono ?_
      rintro e w1 ⟨r, rfl, hr, hbq⟩
      have hs1 := hbq.size
      have hrow1 : w1.rowIs w.heap.size 70 xss.length (fun j => if j < k then vs j else .slice none 0 0) := hrow.of_block (hbq.block _ hrow.lt)
      have hbw1 := hb.trans (hbq.mono hb.size)
      have oc := hrow1.cell (i := k) hlt
      have of := hrow1.frozen k
      have RR := Lib.hid hr
      obtain ⟨Ar, cr, rfl, hr1, hr2, _⟩ := hr.form
      have hlt0 := hrow.lt
      clear hck hr
      go_wp2_with fail
      go_roundw
      case rel =>
        refine ⟨k + 1, fun j => if j = k then .slice Ar (nthL xss k).length cr else vs j, by omega, by go_num, ?_, ?_, ?_, hbw1.setCell (by simp) _⟩
        · refine (hrow1.set k _).congr fun j hj => ?_
          dsimp only
          by_cases e : j = k
          · subst e; rw [if_pos rfl, if_pos (by omega), if_pos rfl]
          · rw [if_neg e]
            by_cases e2 : j < k
            · rw [if_pos e2, if_pos (by omega), if_neg e]
            · rw [if_neg e2, if_neg (by omega)]
        · intro j hj
          show EndS _ _ _ (if j = k then .slice Ar (nthL xss k).length cr else vs j) _
          have hkeep : ∀ q, w.heap.size + 1 ≤ q → (w1.setCell ⟨w.heap.size, k, none⟩ (.slice Ar (nthL xss k).length cr)).heap[q]? = w1.heap[q]? := fun q hq => Below.heap_setCell _ _ _ _ (by show q ≠ w.heap.size; omega)
          by_cases e : j = k
          · subst e
            rw [if_pos rfl]
            exact (RR.out.mono (by omega) (by simp [World.setCell])).keep fun q hq _ => hkeep q (by omega)
          · rw [if_neg e]
            exact (((HV.out j (by omega)).below hbq (Nat.le_refl _)).mono (Nat.le_refl _) (by simpa [World.setCell] using hs1)).keep fun q hq _ => hkeep q hq
        · intro i j hij hj
          show rowOf _ (if i = k then .slice Ar (nthL xss k).length cr else vs i) = none ∨ rowOf _ (if i = k then .slice Ar (nthL xss k).length cr else vs i) ≠ rowOf _ (if j = k then .slice Ar (nthL xss k).length cr else vs j)
          rw [if_neg (by omega)]
          by_cases e : j = k
          · subst e
            rw [if_pos rfl]
            rcases Sl.row (HV.out i (by omega)) with e1 | ⟨b1, e1, _, e3⟩
            · exact .inl e1
            · right
              rw [e1]
              rcases Sl.row RR.out with e4 | ⟨b2, e4, e5, _⟩
              · rw [e4]; simp
              · rw [e4]; intro e6; injection e6; omega
          · rw [if_neg e]
            exact HA.out i j hij (by omega)
      case measure => simp [intOf]; omega
    · obtain rfl : k = xss.length := by omega
      go_wp2
      go_ret
      refine ⟨.slice (some ⟨w.heap.size, 0, none⟩) xss.length xss.length, rfl, ⟨vs, ?_, fun i hi => (HV.out i hi).mono (by omega) (Nat.le_refl _), HA.out, fun i hi => ?_⟩, hb⟩
      · exact (Sl.of_row hrow (Nat.le_refl _) (by omega) (Nat.le_refl _) (by unfold maxLen; omega)).congr fun j hj => by rw [if_pos (by omega)]
      · rcases Sl.row (HV.out i hi) with e1 | ⟨b1, e1, e2, e3⟩
        · exact .inl e1
        · right
          rw [e1, rowOf_some (by omega)]
          intro e6; injection e6; omega

set_option maxHeartbeats 1000000 in
theorem eqEndSS_same (v1 v2 : Value) (xss : List (List (Int × Int))) (lo1 hi1 lo2 hi2 : Nat) (w : World) (h1 : EndSS w lo1 hi1 v1 xss) (h2 : EndSS w lo2 hi2 v2 xss) (hh1 : hi1 ≤ w.heap.size) (hh2 : hi2 ≤ w.heap.size) :
    Calls Tryz.prog 35 #[v1, v2] w fun e w' => e = .returned (.bool true) ∧ Below w.heap.size w w' := by
  obtain ⟨A, c, rfl, hc1, hc2, hcell⟩ := h1.form
  obtain ⟨A2, c2, rfl, hd1, hd2, hcell2⟩ := h2.form
  unfold maxLen at hc2 hd2
  go_enter Tryz.func35, Tryz.ntmps35
  go_wp2
  go_loopw [5] (fun i wr => ∃ k : Nat, k ≤ xss.length ∧ i = .int .i64 k ∧ Below w.heap.size w wr) (fun i _ => xss.length - (intOf i).toNat)
  case atStart => exact ⟨0, Nat.zero_le _, rfl, Below.refl _ _⟩
  case round =>
    obtain ⟨k, hk, rfl, hb⟩ := hrel
    have hs0 := hb.size
    by_cases hlt : k < xss.length
    · obtain ⟨b, off, rfl, hb1, hb2, hcs⟩ := hcell (by omega)
      obtain ⟨b', off', rfl, hb1', hb2', hcs'⟩ := hcell2 (by omega)
      obtain ⟨u1, x1, r1⟩ := hcs k hlt
      obtain ⟨u2, x2, r2⟩ := hcs' k hlt
      have p1 := (hb.cell (p := ⟨b, off + k, none⟩) (by show b < _; omega)).trans x1
      have p2 := (hb.cell (p := ⟨b', off' + k, none⟩) (by show b' < _; omega)).trans x2
      have R1 := Lib.hid (r1.below hb (by omega))
      have R2 := Lib.hid (r2.below hb (by omega))
      obtain ⟨B1, e1, rfl, _, _, _⟩ := r1.form
      obtain ⟨B2, e2, rfl, _, _, _⟩ := r2.form
      clear hcs hcs' hcell hcell2 x1 x2 r1 r2
      have q1 : hi1 ≤ wr.heap.size := by omega
      have q2 : hi2 ≤ wr.heap.size := by omega
      go_wp2
      go_region_with (go_at_call 67; refine (eqEndS_same _ _ (nthL xss k) lo1 hi1 lo2 hi2 _ (by exact R1.out) (by exact R2.out) (by exact q1) (by exact q2)).mono ?_; rintro e w1 ⟨rfl, hbq⟩)
      all_goals (try go_wp2)
      all_goals go_roundw
      case rel => exact ⟨k + 1, by omega, by go_num, hb.drew.trans (hbq.mono hb.size)⟩
      case measure => simp [intOf]; omega
      case rel => exact ⟨k + 1, by omega, by go_num, hb.drew.trans (hbq.mono hb.size)⟩
      case measure => simp [intOf]; omega
    · obtain rfl : k = xss.length := by omega
      go_wp2
      go_ret
      exact ⟨rfl, hb⟩

/-- what mark leaves in a slice of slices -/
def mkEndSS (k : Int) (xss : List (List (Int × Int))) : List (List (Int × Int)) := (List.range xss.length).map fun i => runE (k + 2 * sumL xss i) (nthL xss i).length
theorem mkEndSS_length (k : Int) (xss : List (List (Int × Int))) : (mkEndSS k xss).length = xss.length := by simp [mkEndSS]
theorem nthL_mkEndSS (k : Int) (xss : List (List (Int × Int))) (i : Nat) (h : i < xss.length) : nthL (mkEndSS k xss) i = runE (k + 2 * sumL xss i) (nthL xss i).length := by
  rw [nthL_eq (by rw [mkEndSS_length]; exact h)]
  simp [mkEndSS]

set_option maxHeartbeats 2000000 in
theorem markEndSS_any (v : Value) (xss : List (List (Int × Int))) (k : Int) (lo hi : Nat) (w : World) (h : EndSSx w lo hi v xss) (hhi : hi ≤ w.heap.size) (hk0 : 0 ≤ k) (hk1 : k ≤ 1099511627776) (hn : cntSS xss ≤ 1099511627776) :
    Calls Tryz.prog 36 #[v, .int .i64 k] w fun e w' => e = .returned (.int .i64 (k + 2 * cntSS xss)) ∧ EndSSx w' lo hi v (mkEndSS k xss) ∧ Turned lo hi w w' := by
  obtain ⟨A, c, rfl, hc1, hc2, hcell⟩ := h.ss.form
  obtain ⟨vs, hsl, hvs, hap, hao⟩ := h
  unfold maxLen at hc2
  have HV := Lib.hid hvs
  have HA := Lib.hid hap
  have HO := Lib.hid hao
  clear hvs hap hao
  go_enter Tryz.func36, Tryz.ntmps36
  go_wp2
  go_loopw [5, 1] (fun i kv wr => ∃ m : Nat, m ≤ xss.length ∧ i = .int .i64 m ∧ kv = .int .i64 (k + 2 * sumL xss m) ∧ Sl wr lo hi 1 (.slice A xss.length c) xss.length vs ∧
      (∀ j, j < m → EndS wr lo hi (vs j) (runE (k + 2 * sumL xss j) (nthL xss j).length)) ∧ (∀ j, m ≤ j → j < xss.length → EndS wr lo hi (vs j) (nthL xss j)) ∧ Turned lo hi w wr ∧ Hid (wr.heap.size = w.heap.size)) (fun i _ _ => xss.length - (intOf i).toNat)
  case atStart => exact ⟨0, Nat.zero_le _, rfl, by rw [sumL_zero]; simp, hsl, fun j hj => absurd hj (by omega), fun j _ hj => HV.out j hj, Turned.refl _ _ _, Lib.hid rfl⟩
  case round =>
    obtain ⟨m, hm, rfl, rfl, hs, hl, hr, ht, HS⟩ := hrel
    have HL := Lib.hid hl
    have HR := Lib.hid hr
    clear hl hr
    have hmo := sumL_mono xss m hm
    have hcs : sumL xss xss.length ≤ 1099511627776 := hn
    have hsz : w.heap.size ≤ wr.heap.size := ht.size
    by_cases hlt : m < xss.length
    · obtain ⟨b, off, rfl, hb1, hb2, _⟩ := hcell (by omega)
      obtain ⟨hck, hfk⟩ := hs.at_ (j := m) (by omega)
      have hu := HR.out m (Nat.le_refl _) hlt
      have HU := Lib.hid hu
      have HSU := Lib.hid (sumL_succ xss m hlt)
      have hmo2 := sumL_mono xss (m + 1) (by omega)
      have hlen : (nthL xss m).length ≤ 1099511627776 := by have := HSU.out; omega
      obtain ⟨A2, c2, e2, hd1, hd2, _⟩ := hu.form
      rw [e2] at hck
      rw [e2] at HU
      have E2 := Lib.hid e2
      clear hu e2 hcell hfk
      go_wp2_with fail
      refine (markEndS_any _ (nthL xss m) _ lo hi _ HU.out (by omega) (by omega) (by omega) (by omega)).mono ?_
      rintro e w1 ⟨rfl, hr1, hg1, hz1⟩
      have HR1 := Lib.hid hr1
      have HZ1 := Lib.hid hz1
      clear hr1 hz1
      go_wp2_with fail
      go_roundw
      case rel =>
        have hT : Turned lo hi wr w1 := Turned.of_row (HU.out) hg1
        refine ⟨m + 1, by omega, by go_num, by rw [HSU.out]; go_num, ?_, ?_, ?_, ht.trans hT, Lib.hid (by rw [HZ1.out]; exact HS.out)⟩
        · refine hs.grown hg1 (by omega) ?_
          have := HO.out m hlt
          rw [E2.out] at this
          rcases this with e | e
          · right; rw [e, rowOf_some (by omega)]; simp
          · exact .inr fun e3 => e e3.symm
        · intro j hj
          by_cases e : j = m
          · subst e; rw [E2.out]; exact HR1.out
          · refine Sl.grown (HL.out j (by omega)) hg1 (by omega) ?_
            rw [runE_length]
            have := HA.out j m (by omega) hlt
            rw [E2.out] at this
            exact this
        · intro j hj hjl
          refine Sl.grown (HR.out j (by omega) hjl) hg1 (by omega) ?_
          have := HA.out m j (by omega) hjl
          rw [E2.out] at this
          rcases this with e | e
          · cases hq : rowOf (nthL xss j).length (vs j) with
            | none => exact .inl rfl
            | some q => right; rw [e]; simp
          · exact .inr fun e3 => e e3.symm
      case measure => simp [intOf]; omega
    · obtain rfl : m = xss.length := by omega
      go_wp2
      go_ret
      refine ⟨rfl, ⟨vs, ?_, fun i hi => ?_, fun i j hij hj => ?_, fun i hi => ?_⟩, ht⟩
      · rw [mkEndSS_length]; exact hs
      · rw [mkEndSS_length] at hi
        rw [nthL_mkEndSS _ _ _ hi]
        exact HL.out i hi
      · rw [mkEndSS_length] at hj
        rw [nthL_mkEndSS _ _ _ hj, nthL_mkEndSS _ _ _ (by omega), runE_length, runE_length]
        exact HA.out i j hij hj
      · rw [mkEndSS_length] at hi
        rw [nthL_mkEndSS _ _ _ hi, runE_length, mkEndSS_length]
        exact HO.out i hi

end Go.Proofs.YtkcbocoimbhhaaaGreat

/- Contracts of the laws' helpers on slices of slices of integers. -/
namespace Go.Proofs.YtkcbocoimbhhaaaGreat
open Go.ChangeShapes Go.WideShapes Go.ChangeAt Go.RowKit
set_option linter.unusedVariables false

theorem Tryz.info26 : (Tryz.prog.info? 26).map (fun i => (i.zero, i.size, i.bytes)) = some (some (.slice none 0 0), 1, 24) := by kernel_rfl

set_option maxHeartbeats 1000000 in
theorem szIntSS_any (v : Value) (xss : List (List Int)) (left : Int) (lo hi : Nat) (w : World) (h : IntSS w lo hi v xss) (h0 : 0 ≤ left) (h1 : left ≤ 1048576) :
    Calls Tryz.prog 6 #[v, .int .i64 left] w fun e w' => e = .returned (.int .i64 (szr left (szSS xss))) ∧ w = w' := by
  obtain ⟨A, c, rfl, hc1, hc2, hcell⟩ := h.form
  unfold maxLen at hc2
  have hz : szSS xss = xss.length + sumL xss xss.length := rfl
  have HZ := Lib.hid hz
  clear hz
  by_cases hl : (xss.length : Int) ≤ left
  · have : ¬ left - xss.length < 0 := by omega
    go_enter Tryz.func6, Tryz.ntmps6
    go_wp2
    go_loop [5, 1] (fun i l => ∃ m : Nat, m ≤ xss.length ∧ i = .int .i64 m ∧ l = .int .i64 (left - xss.length - sumL xss m) ∧ 0 ≤ left - xss.length - sumL xss m) (fun i _ => xss.length - (intOf i).toNat)
    case atStart => exact ⟨0, Nat.zero_le _, rfl, by rw [sumL_zero]; simp, by rw [sumL_zero]; omega⟩
    case round =>
      obtain ⟨m, hm, rfl, rfl, hge⟩ := hrel
      by_cases hlt : m < xss.length
      · obtain ⟨b, off, rfl, hb1, hb2, hcs⟩ := hcell (by omega)
        obtain ⟨u, hcu, hR⟩ := hcs m hlt
        have HS := Lib.hid (sumL_succ xss m hlt)
        have hmo := sumL_mono xss (m + 1) (by omega)
        have HR := Lib.hid hR
        obtain ⟨A2, c2, rfl, hd1, hd2, _⟩ := hR.form
        clear hcs hcell hR
        by_cases hf : ((nthL xss m).length : Int) ≤ left - xss.length - sumL xss m
        · have e1 : szr (left - xss.length - sumL xss m) (nthL xss m).length = left - xss.length - sumL xss m - (nthL xss m).length := by unfold szr; rw [if_pos hf]
          have hnn : ¬ left - xss.length - sumL xss m - (nthL xss m).length < 0 := by omega
          have E1 := Lib.hid e1
          clear e1
          go_wp2_with (go_at_call 20; refine (szIntS_any _ (nthL xss m) _ lo hi _ HR.out (by omega) (by omega)).mono ?_; rintro e w' ⟨rfl, rfl⟩; rw [E1.out])
          go_round
          case rel =>
            have := HS.out
            exact ⟨m + 1, by omega, by go_num, by rw [this]; congr 1; omega, by rw [this]; omega⟩
          case measure => simp [intOf]; omega
        · have e1 : szr (left - xss.length - sumL xss m) (nthL xss m).length = -1 := by unfold szr; rw [if_neg hf]
          have E1 := Lib.hid e1
          clear e1
          go_wp2_with (go_at_call 20; refine (szIntS_any _ (nthL xss m) _ lo hi _ HR.out (by omega) (by omega)).mono ?_; rintro e w' ⟨rfl, rfl⟩; rw [E1.out])
          go_ret
          have h3 := HS.out
          have h4 := HZ.out
          exact ⟨ret_int (by unfold szr; rw [if_neg (by omega)]), rfl⟩
      · obtain rfl : m = xss.length := by omega
        go_wp2
        go_ret
        have h4 := HZ.out
        exact ⟨ret_int (by unfold szr; rw [if_pos (by omega)]; omega), rfl⟩
  · have : left - xss.length < 0 := by omega
    go_enter Tryz.func6, Tryz.ntmps6
    go_wp2
    go_ret
    have h4 := HZ.out
    exact ⟨ret_int (by unfold szr; rw [if_neg (by omega)]), rfl⟩

set_option maxHeartbeats 1000000 in
theorem toIntSS_any (v : Value) (xss : List (List Int)) (lo hi : Nat) (w : World) (h : IntSS w lo hi v xss) (hhi : hi ≤ w.heap.size) (hn : szSS xss ≤ 1048576) :
    Calls Tryz.prog 10 #[v] w fun e w' => ∃ r, e = .returned r ∧ IntSSx w' w.heap.size w'.heap.size r xss ∧ Below w.heap.size w w' := by
  obtain ⟨A, c, rfl, hc1, hc2, hcell⟩ := h.form
  have hln : xss.length ≤ 1048576 := by unfold szSS at hn; omega
  have hmk := fun W => run_make_row' (P := Tryz.prog) 22 26 (.slice none 0 0) 24 Tryz.underlying22 Tryz.info26 rfl .i64 .i64 xss.length (by omega) (by omega) W
  go_enter Tryz.func10, Tryz.ntmps10
  go_wp2
  go_loopw [4] (fun i wr => ∃ (k : Nat) (vs : Nat → Value), k ≤ xss.length ∧ i = .int .i64 k ∧ wr.rowIs w.heap.size 26 xss.length (fun j => if j < k then vs j else .slice none 0 0) ∧ (∀ j, j < k → IntS wr (w.heap.size + 1) wr.heap.size (vs j) (nthL xss j)) ∧
      (∀ i j, i < j → j < k → rowOf (nthL xss i).length (vs i) = none ∨ rowOf (nthL xss i).length (vs i) ≠ rowOf (nthL xss j).length (vs j)) ∧ Below w.heap.size w wr) (fun i _ => xss.length - (intOf i).toNat)
  case atStart => exact ⟨0, fun _ => undef, Nat.zero_le _, rfl, (World.rowIs_made w (.slice none 0 0) xss.length 26).congr (fun i _ => by simp), fun j hj => absurd hj (by omega), fun i j _ hj => absurd hj (by omega), (Below.refl _ _).alloc (Nat.le_refl _) _⟩
  case round =>
    obtain ⟨k, vs, hk, rfl, hrow, hvs, hap, hb⟩ := hrel
    clear hmk
    have HV := Lib.hid hvs
    have HA := Lib.hid hap
    clear hvs hap
    by_cases hlt : k < xss.length
    · obtain ⟨b, off, rfl, hb1, hb2, hcs⟩ := hcell (by omega)
      obtain ⟨u, hcu, hR⟩ := hcs k hlt
      have hck := (hb.cell (p := ⟨b, off + k, none⟩) (by show b < _; omega)).trans hcu
      have hRw : IntS wr lo hi u (nthL xss k) := hR.below hb (by omega)
      have HR := Lib.hid hRw
      have hlk := len_le_cnt xss k hlt
      have hlk2 : (nthL xss k).length ≤ 16777216 := by unfold szSS at hn; omega
      obtain ⟨A2, c2, rfl, hd1, hd2, _⟩ := hR.form
      clear hcs hcell hR hcu hRw
      have hs0 := hb.size
      go_wp2_with fail
      refine (toIntS_any _ (nthL xss k) lo hi _ HR.out (by omega) hlk2).mono ?_
      rintro e w1 ⟨r, rfl, hr, hbq⟩
      have hs1 := hbq.size
      have hrow1 : w1.rowIs w.heap.size 26 xss.length (fun j => if j < k then vs j else .slice none 0 0) := hrow.of_block (hbq.block _ hrow.lt)
      have hbw1 := hb.trans (hbq.mono hb.size)
      have oc := hrow1.cell (i := k) hlt
      have of := hrow1.frozen k
      have RR := Lib.hid hr
      obtain ⟨Ar, cr, rfl, hr1, hr2, _⟩ := hr.form
      have hlt0 := hrow.lt
      clear hck hr
      go_wp2_with fail
      go_roundw
      case rel =>
        refine ⟨k + 1, fun j => if j = k then .slice Ar (nthL xss k).length cr else vs j, by omega, by go_num, ?_, ?_, ?_, hbw1.setCell (by simp) _⟩
        · refine (hrow1.set k _).congr fun j hj => ?_
          dsimp only
          by_cases e : j = k
          · subst e; rw [if_pos rfl, if_pos (by omega), if_pos rfl]
          · rw [if_neg e]
            by_cases e2 : j < k
            · rw [if_pos e2, if_pos (by omega), if_neg e]
            · rw [if_neg e2, if_neg (by omega)]
        · intro j hj
          show IntS _ _ _ (if j = k then .slice Ar (nthL xss k).length cr else vs j) _
          have hkeep : ∀ q, w.heap.size + 1 ≤ q → (w1.setCell ⟨w.heap.size, k, none⟩ (.slice Ar (nthL xss k).length cr)).heap[q]? = w1.heap[q]? := fun q hq => Below.heap_setCell _ _ _ _ (by show q ≠ w.heap.size; omega)
          by_cases e : j = k
          · subst e
            rw [if_pos rfl]
            exact (RR.out.mono (by omega) (by simp [World.setCell])).keep fun q hq _ => hkeep q (by omega)
          · rw [if_neg e]
            exact (((HV.out j (by omega)).below hbq (Nat.le_refl _)).mono (Nat.le_refl _) (by simpa [World.setCell] using hs1)).keep fun q hq _ => hkeep q hq
        · intro i j hij hj
          show rowOf _ (if i = k then .slice Ar (nthL xss k).length cr else vs i) = none ∨ rowOf _ (if i = k then .slice Ar (nthL xss k).length cr else vs i) ≠ rowOf _ (if j = k then .slice Ar (nthL xss k).length cr else vs j)
          rw [if_neg (by omega)]
          by_cases e : j = k
          · subst e
            rw [if_pos rfl]
            rcases Sl.row (HV.out i (by omega)) with e1 | ⟨b1, e1, _, e3⟩
            · exact .inl e1
            · right
              rw [e1]
              rcases Sl.row RR.out with e4 | ⟨b2, e4, e5, _⟩
              · rw [e4]; simp
              · rw [e4]; intro e6; injection e6; omega
          · rw [if_neg e]
            exact HA.out i j hij (by omega)
      case measure => simp [intOf]; omega
    · obtain rfl : k = xss.length := by omega
      go_wp2
      go_ret
      refine ⟨.slice (some ⟨w.heap.size, 0, none⟩) xss.length xss.length, rfl, ⟨vs, ?_, fun i hi => (HV.out i hi).mono (by omega) (Nat.le_refl _), HA.out, fun i hi => ?_⟩, hb⟩
      · exact (Sl.of_row hrow (Nat.le_refl _) (by omega) (Nat.le_refl _) (by unfold maxLen; omega)).congr fun j hj => by rw [if_pos (by omega)]
      · rcases Sl.row (HV.out i hi) with e1 | ⟨b1, e1, e2, e3⟩
        · exact .inl e1
        · right
          rw [e1, rowOf_some (by omega)]
          intro e6; injection e6; omega

set_option maxHeartbeats 1000000 in
theorem eqIntSS_same (v1 v2 : Value) (xss : List (List Int)) (lo1 hi1 lo2 hi2 : Nat) (w : World) (h1 : IntSS w lo1 hi1 v1 xss) (h2 : IntSS w lo2 hi2 v2 xss) (hh1 : hi1 ≤ w.heap.size) (hh2 : hi2 ≤ w.heap.size) :
    Calls Tryz.prog 12 #[v1, v2] w fun e w' => e = .returned (.bool true) ∧ Below w.heap.size w w' := by
  obtain ⟨A, c, rfl, hc1, hc2, hcell⟩ := h1.form
  obtain ⟨A2, c2, rfl, hd1, hd2, hcell2⟩ := h2.form
  unfold maxLen at hc2 hd2
  go_enter Tryz.func12, Tryz.ntmps12
  go_wp2
  go_loopw [5] (fun i wr => ∃ k : Nat, k ≤ xss.length ∧ i = .int .i64 k ∧ Below w.heap.size w wr) (fun i _ => xss.length - (intOf i).toNat)
  case atStart => exact ⟨0, Nat.zero_le _, rfl, Below.refl _ _⟩
  case round =>
    obtain ⟨k, hk, rfl, hb⟩ := hrel
    have hs0 := hb.size
    by_cases hlt : k < xss.length
    · obtain ⟨b, off, rfl, hb1, hb2, hcs⟩ := hcell (by omega)
      obtain ⟨b', off', rfl, hb1', hb2', hcs'⟩ := hcell2 (by omega)
      obtain ⟨u1, x1, r1⟩ := hcs k hlt
      obtain ⟨u2, x2, r2⟩ := hcs' k hlt
      have p1 := (hb.cell (p := ⟨b, off + k, none⟩) (by show b < _; omega)).trans x1
      have p2 := (hb.cell (p := ⟨b', off' + k, none⟩) (by show b' < _; omega)).trans x2
      have R1 := Lib.hid (r1.below hb (by omega))
      have R2 := Lib.hid (r2.below hb (by omega))
      obtain ⟨B1, e1, rfl, _, _, _⟩ := r1.form
      obtain ⟨B2, e2, rfl, _, _, _⟩ := r2.form
      clear hcs hcs' hcell hcell2 x1 x2 r1 r2
      have q1 : hi1 ≤ wr.heap.size := by omega
      have q2 : hi2 ≤ wr.heap.size := by omega
      go_wp2
      go_region_with (go_at_call 34; refine (eqIntS_same _ _ (nthL xss k) lo1 hi1 lo2 hi2 _ (by exact R1.out) (by exact R2.out) (by exact q1) (by exact q2)).mono ?_; rintro e w1 ⟨rfl, hbq⟩)
      all_goals (try go_wp2)
      all_goals go_roundw
      case rel => exact ⟨k + 1, by omega, by go_num, hb.drew.trans (hbq.mono hb.size)⟩
      case measure => simp [intOf]; omega
      case rel => exact ⟨k + 1, by omega, by go_num, hb.drew.trans (hbq.mono hb.size)⟩
      case measure => simp [intOf]; omega
    · obtain rfl : k = xss.length := by omega
      go_wp2
      go_ret
      exact ⟨rfl, hb⟩

/-- what mark leaves in a slice of slices -/
def mkIntSS (k : Int) (xss : List (List Int)) : List (List Int) := (List.range xss.length).map fun i => run (k + sumL xss i) (nthL xss i).length
theorem mkIntSS_length (k : Int) (xss : List (List Int)) : (mkIntSS k xss).length = xss.length := by simp [mkIntSS]
theorem nthL_mkIntSS (k : Int) (xss : List (List Int)) (i : Nat) (h : i < xss.length) : nthL (mkIntSS k xss) i = run (k + sumL xss i) (nthL xss i).length := by
  rw [nthL_eq (by rw [mkIntSS_length]; exact h)]
  simp [mkIntSS]

set_option maxHeartbeats 2000000 in
theorem markIntSS_any (v : Value) (xss : List (List Int)) (k : Int) (lo hi : Nat) (w : World) (h : IntSSx w lo hi v xss) (hhi : hi ≤ w.heap.size) (hk0 : 0 ≤ k) (hk1 : k ≤ 1099511627776) (hn : cntSS xss ≤ 1099511627776) :
    Calls Tryz.prog 17 #[v, .int .i64 k] w fun e w' => e = .returned (.int .i64 (k + cntSS xss)) ∧ IntSSx w' lo hi v (mkIntSS k xss) ∧ Turned lo hi w w' := by
  obtain ⟨A, c, rfl, hc1, hc2, hcell⟩ := h.ss.form
  obtain ⟨vs, hsl, hvs, hap, hao⟩ := h
  unfold maxLen at hc2
  have HV := Lib.hid hvs
  have HA := Lib.hid hap
  have HO := Lib.hid hao
  clear hvs hap hao
  go_enter Tryz.func17, Tryz.ntmps17
  go_wp2
  go_loopw [5, 1] (fun i kv wr => ∃ m : Nat, m ≤ xss.length ∧ i = .int .i64 m ∧ kv = .int .i64 (k + sumL xss m) ∧ Sl wr lo hi 1 (.slice A xss.length c) xss.length vs ∧
      (∀ j, j < m → IntS wr lo hi (vs j) (run (k + sumL xss j) (nthL xss j).length)) ∧ (∀ j, m ≤ j → j < xss.length → IntS wr lo hi (vs j) (nthL xss j)) ∧ Turned lo hi w wr ∧ Hid (wr.heap.size = w.heap.size)) (fun i _ _ => xss.length - (intOf i).toNat)
  case atStart => exact ⟨0, Nat.zero_le _, rfl, by rw [sumL_zero]; simp, hsl, fun j hj => absurd hj (by omega), fun j _ hj => HV.out j hj, Turned.refl _ _ _, Lib.hid rfl⟩
  case round =>
    obtain ⟨m, hm, rfl, rfl, hs, hl, hr, ht, HS⟩ := hrel
    have HL := Lib.hid hl
    have HR := Lib.hid hr
    clear hl hr
    have hmo := sumL_mono xss m hm
    have hcs : sumL xss xss.length ≤ 1099511627776 := hn
    have hsz : w.heap.size ≤ wr.heap.size := ht.size
    by_cases hlt : m < xss.length
    · obtain ⟨b, off, rfl, hb1, hb2, _⟩ := hcell (by omega)
      obtain ⟨hck, hfk⟩ := hs.at_ (j := m) (by omega)
      have hu := HR.out m (Nat.le_refl _) hlt
      have HU := Lib.hid hu
      have HSU := Lib.hid (sumL_succ xss m hlt)
      have hmo2 := sumL_mono xss (m + 1) (by omega)
      have hlen : (nthL xss m).length ≤ 1099511627776 := by have := HSU.out; omega
      obtain ⟨A2, c2, e2, hd1, hd2, _⟩ := hu.form
      rw [e2] at hck
      rw [e2] at HU
      have E2 := Lib.hid e2
      clear hu e2 hcell hfk
      go_wp2_with fail
      refine (markIntS_any _ (nthL xss m) _ lo hi _ HU.out (by omega) (by omega) (by omega) (by omega)).mono ?_
      rintro e w1 ⟨rfl, hr1, hg1, hz1⟩
      have HR1 := Lib.hid hr1
      have HZ1 := Lib.hid hz1
      clear hr1 hz1
      go_wp2_with fail
      go_roundw
      case rel =>
        have hT : Turned lo hi wr w1 := Turned.of_row (HU.out) hg1
        refine ⟨m + 1, by omega, by go_num, by rw [HSU.out]; go_num, ?_, ?_, ?_, ht.trans hT, Lib.hid (by rw [HZ1.out]; exact HS.out)⟩
        · refine hs.grown hg1 (by omega) ?_
          have := HO.out m hlt
          rw [E2.out] at this
          rcases this with e | e
          · right; rw [e, rowOf_some (by omega)]; simp
          · exact .inr fun e3 => e e3.symm
        · intro j hj
          by_cases e : j = m
          · subst e; rw [E2.out]; exact HR1.out
          · refine Sl.grown (HL.out j (by omega)) hg1 (by omega) ?_
            rw [run_length]
            have := HA.out j m (by omega) hlt
            rw [E2.out] at this
            exact this
        · intro j hj hjl
          refine Sl.grown (HR.out j (by omega) hjl) hg1 (by omega) ?_
          have := HA.out m j (by omega) hjl
          rw [E2.out] at this
          rcases this with e | e
          · cases hq : rowOf (nthL xss j).length (vs j) with
            | none => exact .inl rfl
            | some q => right; rw [e]; simp
          · exact .inr fun e3 => e e3.symm
      case measure => simp [intOf]; omega
    · obtain rfl : m = xss.length := by omega
      go_wp2
      go_ret
      refine ⟨rfl, ⟨vs, ?_, fun i hi => ?_, fun i j hij hj => ?_, fun i hi => ?_⟩, ht⟩
      · rw [mkIntSS_length]; exact hs
      · rw [mkIntSS_length] at hi
        rw [nthL_mkIntSS _ _ _ hi]
        exact HL.out i hi
      · rw [mkIntSS_length] at hj
        rw [nthL_mkIntSS _ _ _ hj, nthL_mkIntSS _ _ _ (by omega), run_length, run_length]
        exact HA.out i j hij hj
      · rw [mkIntSS_length] at hi
        rw [nthL_mkIntSS _ _ _ hi, run_length, mkIntSS_length]
        exact HO.out i hi

set_option maxHeartbeats 1000000 in
/-- the numbers that mark left are found -/
theorem heldIntSS_yes (v : Value) (xss : List (List Int)) (k : Int) (lo hi : Nat) (w : World) (h : IntSS w lo hi v (mkIntSS k xss)) (hhi : hi ≤ w.heap.size) (hk0 : 0 ≤ k) (hk1 : k ≤ 1099511627776) (hn : cntSS xss ≤ 1099511627776) :
    Calls Tryz.prog 18 #[v, .int .i64 k] w fun e w' => e = .returned (.int .i64 (k + cntSS xss)) ∧ Below w.heap.size w w' := by
  obtain ⟨A, c, rfl, hc1, hc2, hcell⟩ := h.form
  rw [mkIntSS_length] at *
  unfold maxLen at hc2
  go_enter Tryz.func18, Tryz.ntmps18
  go_wp2
  go_loopw [5, 1] (fun i kv wr => ∃ m : Nat, m ≤ xss.length ∧ i = .int .i64 m ∧ kv = .int .i64 (k + sumL xss m) ∧ Below w.heap.size w wr) (fun i _ _ => xss.length - (intOf i).toNat)
  case atStart => exact ⟨0, Nat.zero_le _, rfl, by rw [sumL_zero]; simp, Below.refl _ _⟩
  case round =>
    obtain ⟨m, hm, rfl, rfl, hb⟩ := hrel
    have hmo := sumL_mono xss m hm
    have hcs : sumL xss xss.length ≤ 1099511627776 := hn
    have hs0 := hb.size
    by_cases hlt : m < xss.length
    · obtain ⟨b, off, rfl, hb1, hb2, hcs2⟩ := hcell (by omega)
      obtain ⟨u, x1, r1⟩ := hcs2 m hlt
      rw [nthL_mkIntSS _ _ _ hlt] at r1
      have p1 := (hb.cell (p := ⟨b, off + m, none⟩) (by show b < _; omega)).trans x1
      have R1 := Lib.hid (r1.below hb (by omega))
      have HSU := Lib.hid (sumL_succ xss m hlt)
      have hmo2 := sumL_mono xss (m + 1) (by omega)
      have hlen : (nthL xss m).length ≤ 1099511627776 := by have := HSU.out; omega
      obtain ⟨A2, c2, rfl, hd1, hd2, _⟩ := r1.form
      clear hcs2 x1 r1 hcell
      have hrl := run_length (k + sumL xss m) (nthL xss m).length
      have HRL := Lib.hid hrl
      clear hrl
      go_wp2_with fail
      refine (heldIntS_yes _ (nthL xss m) _ lo hi _ R1.out (by omega) (by omega) (by omega)).mono ?_
      rintro e w1 ⟨rfl, hbq⟩
      go_wp2_with fail
      go_roundw
      case rel => exact ⟨m + 1, by omega, by go_num, by rw [HSU.out]; go_num, hb.trans (hbq.mono hs0)⟩
      case measure => simp [intOf]; omega
    · obtain rfl : m = xss.length := by omega
      go_wp2
      go_ret
      exact ⟨rfl, hb⟩

end Go.Proofs.YtkcbocoimbhhaaaGreat

/- Contracts of the laws' helpers on networks: szNetwork counts, toNetwork copies, eqNetwork compares, markNetwork writes. -/
namespace Go.Proofs.YtkcbocoimbhhaaaGreat
open Go.ChangeShapes Go.WideShapes Go.ChangeAt Go.RowKit
set_option linter.unusedVariables false

def NetD.sz (N : NetD) : Nat := szSS N.ends + N.ids.length + N.inputs.length
def NetD.cnt (N : NetD) : Nat := 2 * cntSS N.ends + N.ids.length + N.inputs.length
/-- every number of the network fits an int -/
structure NetD.Ok (N : NetD) : Prop where
  ends : ∀ l ∈ N.ends, ∀ e ∈ l, I64 e.1 ∧ I64 e.2
  ids : ∀ z ∈ N.ids, I64 z
  inputs : ∀ z ∈ N.inputs, I64 z

theorem cnt_le_sz {α : Type} (xss : List (List α)) : cntSS xss ≤ szSS xss := by unfold szSS; omega
theorem NetD.cnt_le (N : NetD) : N.cnt ≤ 2 * N.sz := by unfold NetD.cnt NetD.sz szSS; omega
theorem szr_pos {left : Int} {n : Nat} (h : (n : Int) ≤ left) : szr left n = left - n := by unfold szr; rw [if_pos h]
theorem szr_neg {left : Int} {n : Nat} (h : ¬ (n : Int) ≤ left) : szr left n = -1 := by unfold szr; rw [if_neg h]

set_option maxHeartbeats 1000000 in
theorem szNetwork_any (v : Value) (N : NetD) (left : Int) (lo hi : Nat) (w : World) (h : Net w lo hi v N) (hhi : hi ≤ w.heap.size) (h0 : 0 ≤ left) (h1 : left ≤ 1048576) :
    Calls Tryz.prog 5 #[v, .int .i64 left] w fun e w' => e = .returned (.int .i64 (szr left N.sz)) ∧ Below w.heap.size w w' := by
  obtain ⟨ve, vi, vn, rfl, he, hi1, hn1⟩ := h
  have hz : N.sz = szSS N.ends + N.ids.length + N.inputs.length := rfl
  have HZ := Lib.hid hz
  clear hz
  have HE := Lib.hid (ESS.below he (below_a1 w (.cells #[ve, vi, vn] 28)) hhi)
  have HI := Lib.hid (hi1.below (below_a1 w (.cells #[ve, vi, vn] 28)) hhi)
  have HN := Lib.hid (hn1.below (below_a1 w (.cells #[ve, vi, vn] 28)) hhi)
  obtain ⟨A, c, rfl⟩ := he.shape
  obtain ⟨A2, c2, rfl⟩ := hi1.shape
  obtain ⟨A3, c3, rfl⟩ := hn1.shape
  clear he hi1 hn1
  go_enter Tryz.func5, Tryz.ntmps5
  go_wp2_with fail
  refine (szEndSS_any _ N.ends _ lo hi _ HE.out h0 h1).mono ?_
  rintro e w' ⟨rfl, rfl⟩
  by_cases c1 : (szSS N.ends : Int) ≤ left
  case neg =>
    rw [szr_neg c1]
    go_wp2_with fail
    go_ret
    have := HZ.out
    exact ⟨ret_int (szr_neg (by omega)).symm, below_a1 _ _⟩
  rw [szr_pos c1]
  go_wp2_with fail
  refine (szIntS_any _ N.ids _ lo hi _ HI.out (by omega) (by omega)).mono ?_
  rintro e w' ⟨rfl, rfl⟩
  by_cases c2 : (N.ids.length : Int) ≤ left - szSS N.ends
  case neg =>
    rw [szr_neg c2]
    go_wp2_with fail
    go_ret
    have := HZ.out
    exact ⟨ret_int (szr_neg (by omega)).symm, below_a1 _ _⟩
  rw [szr_pos c2]
  go_wp2_with fail
  refine (szIntS_any _ N.inputs _ lo hi _ HN.out (by omega) (by omega)).mono ?_
  rintro e w' ⟨rfl, rfl⟩
  by_cases c3 : (N.inputs.length : Int) ≤ left - szSS N.ends - N.ids.length
  case neg =>
    rw [szr_neg c3]
    go_wp2_with fail
    go_ret
    have := HZ.out
    exact ⟨ret_int (szr_neg (by omega)).symm, below_a1 _ _⟩
  rw [szr_pos c3]
  go_wp2_with fail
  go_ret
  have := HZ.out
  exact ⟨ret_int (by rw [szr_pos (by omega)]; omega), below_a1 _ _⟩
theorem szNetwork_yes (v : Value) (N : NetD) (left : Int) (lo hi : Nat) (w : World) (h : Net w lo hi v N) (hhi : hi ≤ w.heap.size) (h1 : left ≤ 1048576) (h2 : (N.sz : Int) ≤ left) :
    Calls Tryz.prog 5 #[v, .int .i64 left] w fun e w' => e = .returned (.int .i64 (left - N.sz)) ∧ Below w.heap.size w w' :=
  (szNetwork_any v N left lo hi w h hhi (by omega) h1).mono fun e w' ⟨a, b⟩ => ⟨by rw [a, szr_pos h2], b⟩
theorem szNetwork_no (v : Value) (N : NetD) (left : Int) (lo hi : Nat) (w : World) (h : Net w lo hi v N) (hhi : hi ≤ w.heap.size) (h0 : 0 ≤ left) (h1 : left ≤ 1048576) (h2 : ¬ (N.sz : Int) ≤ left) :
    Calls Tryz.prog 5 #[v, .int .i64 left] w fun e w' => e = .returned (.int .i64 (-1)) ∧ Below w.heap.size w w' :=
  (szNetwork_any v N left lo hi w h hhi h0 h1).mono fun e w' ⟨a, b⟩ => ⟨by rw [a, szr_neg h2], b⟩

theorem szIntSS_yes (v : Value) (xss : List (List Int)) (left : Int) (lo hi : Nat) (w : World) (h : IntSS w lo hi v xss) (hhi : hi ≤ w.heap.size) (h1 : left ≤ 1048576) (h2 : (szSS xss : Int) ≤ left) :
    Calls Tryz.prog 6 #[v, .int .i64 left] w fun e w' => e = .returned (.int .i64 (left - szSS xss)) ∧ Below w.heap.size w w' :=
  (szIntSS_any v xss left lo hi w h (by omega) h1).mono fun e w' ⟨a, b⟩ => ⟨by rw [a, szr_pos h2], by rw [b]; exact Below.refl _ _⟩
theorem szIntSS_no (v : Value) (xss : List (List Int)) (left : Int) (lo hi : Nat) (w : World) (h : IntSS w lo hi v xss) (hhi : hi ≤ w.heap.size) (h0 : 0 ≤ left) (h1 : left ≤ 1048576) (h2 : ¬ (szSS xss : Int) ≤ left) :
    Calls Tryz.prog 6 #[v, .int .i64 left] w fun e w' => e = .returned (.int .i64 (-1)) ∧ Below w.heap.size w w' :=
  (szIntSS_any v xss left lo hi w h h0 h1).mono fun e w' ⟨a, b⟩ => ⟨by rw [a, szr_neg h2], by rw [b]; exact Below.refl _ _⟩

set_option maxHeartbeats 1000000 in
theorem toNetwork_any (v : Value) (N : NetD) (lo hi : Nat) (w : World) (h : Net w lo hi v N) (hhi : hi ≤ w.heap.size) (hsz : N.sz ≤ 1048576) :
    Calls Tryz.prog 9 #[v] w fun e w' => ∃ r, e = .returned r ∧ NetX w' w.heap.size w'.heap.size r N ∧ Below w.heap.size w w' := by
  obtain ⟨ve, vi, vn, rfl, he, hi1, hn1⟩ := h
  unfold NetD.sz at hsz
  have HE := Lib.hid he
  have HI := Lib.hid hi1
  have HN := Lib.hid hn1
  obtain ⟨A, c, rfl⟩ := he.shape
  obtain ⟨A2, c2, rfl⟩ := hi1.shape
  obtain ⟨A3, c3, rfl⟩ := hn1.shape
  clear he hi1 hn1
  go_enter Tryz.func9, Tryz.ntmps9
  go_wp2_with fail
  obtain ⟨W0, HW0⟩ : ∃ W0, Hid (W0 = ((w.alloc (.cells #[.slice A N.ends.length c, .slice A2 N.ids.length c2, .slice A3 N.inputs.length c3] 28)).alloc (.cells #[.slice none 0 0, .slice none 0 0, .slice none 0 0] 38)).alloc (.cells #[.slice none 0 0, .slice none 0 0, .slice none 0 0] 38)) := ⟨_, Lib.hid rfl⟩
  rw [← HW0.out]
  have hb0 : Below w.heap.size w W0 := by rw [HW0.out]; exact below_a3 _ _ _ _
  have hs0 : w.heap.size + 3 ≤ W0.heap.size := by rw [HW0.out]; simp
  have b0 : Box3 W0 w.heap.size 28 (.slice A N.ends.length c) (.slice A2 N.ids.length c2) (.slice A3 N.inputs.length c3) := by rw [HW0.out]; exact ((Box3.new _ _ _ _ _).alloc _).alloc _
  have b1 : Box3 W0 (w.heap.size + 1) 38 (.slice none 0 0) (.slice none 0 0) (.slice none 0 0) := by
    rw [HW0.out]; refine Box3.alloc ?_ _; have := Box3.new (w.alloc (.cells #[.slice A N.ends.length c, .slice A2 N.ids.length c2, .slice A3 N.inputs.length c3] 28)) 38 (.slice none 0 0) (.slice none 0 0) (.slice none 0 0); simpa using this
  have b2 : Box3 W0 (w.heap.size + 1 + 1) 38 (.slice none 0 0) (.slice none 0 0) (.slice none 0 0) := by
    rw [HW0.out]; have := Box3.new ((w.alloc (.cells #[.slice A N.ends.length c, .slice A2 N.ids.length c2, .slice A3 N.inputs.length c3] 28)).alloc (.cells #[.slice none 0 0, .slice none 0 0, .slice none 0 0] 38)) 38 (.slice none 0 0) (.slice none 0 0) (.slice none 0 0); simpa using this
  clear HW0
  refine (toEndSS_any _ N.ends lo hi _ (ESS.below HE.out hb0 hhi) (by omega) (by omega)).mono ?_
  rintro e w1 ⟨r1, rfl, hr1, hb1⟩
  have hs1 := hb1.size
  have R1 := Lib.hid hr1
  obtain ⟨B1, d1, rfl⟩ := hr1.ss.shape
  clear hr1
  have a0 := b0.below hb1 (by omega)
  have a1 := b1.below hb1 (by omega)
  have a2 := b2.below hb1 (by omega)
  have hw1 := hb0.trans (hb1.mono (by omega))
  clear b0 b1 b2 hb0 hb1
  have e0 := a0.cells.2.1
  have e1 := a2.cells.1
  have f1 := a2.frozen 0
  go_wp2_with fail
  clear e0 e1 f1
  replace a0 := a0.far (p := ⟨w.heap.size + 1 + 1, 0, none⟩) (by simp; omega) (.slice B1 N.ends.length d1)
  replace a1 := a1.far (p := ⟨w.heap.size + 1 + 1, 0, none⟩) (by simp) (.slice B1 N.ends.length d1)
  replace a2 := a2.set0 (.slice B1 N.ends.length d1)
  replace hw1 := hw1.setCell (p := ⟨w.heap.size + 1 + 1, 0, none⟩) (by simp; omega) (.slice B1 N.ends.length d1)
  have R1a := Lib.hid (ESSx.setCell R1.out (p := ⟨w.heap.size + 1 + 1, 0, none⟩) (by left; simp; omega) (.slice B1 N.ends.length d1))
  clear R1
  refine (toIntS_any _ N.ids lo hi _ (HI.out.below hw1 hhi) (by rw [size_setCell]; omega) (by omega)).mono ?_
  rintro e w2 ⟨r2, rfl, hr2, hb2⟩
  rw [size_setCell] at hr2 hb2
  have hs2 := hb2.size
  rw [size_setCell] at hs2
  have R2 := Lib.hid hr2
  obtain ⟨B2, d2, rfl⟩ := hr2.shape
  clear hr2
  replace a0 := a0.below hb2 (by omega)
  replace a1 := a1.below hb2 (by omega)
  replace a2 := a2.below hb2 (by omega)
  replace hw1 := hw1.trans (hb2.mono (by omega))
  have R1b := Lib.hid (ESSx.below R1a.out hb2 (Nat.le_refl _))
  clear R1a hb2
  have e0 := a0.cells.2.2
  have e1 := a2.cells.2.1
  have f1 := a2.frozen 1
  go_wp2_with fail
  clear e0 e1 f1
  replace a0 := a0.far (p := ⟨w.heap.size + 1 + 1, 1, none⟩) (by simp; omega) (.slice B2 N.ids.length d2)
  replace a1 := a1.far (p := ⟨w.heap.size + 1 + 1, 1, none⟩) (by simp) (.slice B2 N.ids.length d2)
  replace a2 := a2.set1 (.slice B2 N.ids.length d2)
  replace hw1 := hw1.setCell (p := ⟨w.heap.size + 1 + 1, 1, none⟩) (by simp; omega) (.slice B2 N.ids.length d2)
  have R1c := Lib.hid (ESSx.setCell R1b.out (p := ⟨w.heap.size + 1 + 1, 1, none⟩) (by left; simp; omega) (.slice B2 N.ids.length d2))
  have R2a := Lib.hid (R2.out.setCell (p := ⟨w.heap.size + 1 + 1, 1, none⟩) (by left; simp; omega) (.slice B2 N.ids.length d2))
  clear R1b R2
  refine (toIntS_any _ N.inputs lo hi _ (HN.out.below hw1 hhi) (by rw [size_setCell]; omega) (by omega)).mono ?_
  rintro e w3 ⟨r3, rfl, hr3, hb3⟩
  rw [size_setCell] at hr3 hb3
  have hs3 := hb3.size
  rw [size_setCell] at hs3
  have R3 := Lib.hid hr3
  obtain ⟨B3, d3, rfl⟩ := hr3.shape
  clear hr3
  replace a1 := a1.below hb3 (by omega)
  replace a2 := a2.below hb3 (by omega)
  replace hw1 := hw1.trans (hb3.mono (by omega))
  have R1d := Lib.hid (ESSx.below R1c.out hb3 (by omega))
  have R2b := Lib.hid (R2a.out.below hb3 (Nat.le_refl _))
  clear R1c R2a hb3 a0
  obtain ⟨e0, e1, e2⟩ := a2.cells
  obtain ⟨g0, g1, g2⟩ := a1.cells
  have f0 := a2.frozen 2
  have k0 := a1.frozen 0
  have k1 := a1.frozen 1
  have k2 := a1.frozen 2
  go_wp2_with fail
  clear e0 e1 e2 g0 g1 g2 f0 k0 k1 k2
  have z := ((((a1.far (p := ⟨w.heap.size + 1 + 1, 2, none⟩) (by simp) (.slice B3 N.inputs.length d3)).set0 (.slice B1 N.ends.length d1)).set1 (.slice B2 N.ids.length d2)).set2 (.slice B3 N.inputs.length d3)).cells
  refine bodyPost_ret (v := .agg #[.slice B1 N.ends.length d1, .slice B2 N.ids.length d2, .slice B3 N.inputs.length d3]) (by simp [results, Tryz.results9, go_sem, z.1, z.2.1, z.2.2]) rfl ⟨_, rfl, ?_, ?_⟩
  · have q1 := ESSx.setCell (ESSx.setCell (ESSx.setCell (ESSx.setCell R1d.out (p := ⟨w.heap.size + 1 + 1, 2, none⟩) (by left; simp; omega) (.slice B3 N.inputs.length d3)) (p := ⟨w.heap.size + 1, 0, none⟩) (by left; simp; omega) (.slice B1 N.ends.length d1)) (p := ⟨w.heap.size + 1, 1, none⟩) (by left; simp; omega) (.slice B2 N.ids.length d2)) (p := ⟨w.heap.size + 1, 2, none⟩) (by left; simp; omega) (.slice B3 N.inputs.length d3)
    have q2 := (((R2b.out.setCell (p := ⟨w.heap.size + 1 + 1, 2, none⟩) (by left; simp; omega) (.slice B3 N.inputs.length d3)).setCell (p := ⟨w.heap.size + 1, 0, none⟩) (by left; simp; omega) (.slice B1 N.ends.length d1)).setCell (p := ⟨w.heap.size + 1, 1, none⟩) (by left; simp; omega) (.slice B2 N.ids.length d2)).setCell (p := ⟨w.heap.size + 1, 2, none⟩) (by left; simp; omega) (.slice B3 N.inputs.length d3)
    have q3 := (((R3.out.setCell (p := ⟨w.heap.size + 1 + 1, 2, none⟩) (by left; simp; omega) (.slice B3 N.inputs.length d3)).setCell (p := ⟨w.heap.size + 1, 0, none⟩) (by left; simp; omega) (.slice B1 N.ends.length d1)).setCell (p := ⟨w.heap.size + 1, 1, none⟩) (by left; simp; omega) (.slice B2 N.ids.length d2)).setCell (p := ⟨w.heap.size + 1, 2, none⟩) (by left; simp; omega) (.slice B3 N.inputs.length d3)
    rw [size_setCell, size_setCell, size_setCell, size_setCell]
    exact ⟨_, _, _, w1.heap.size, w2.heap.size, rfl, by omega, hs2, hs3, ESSx.mono q1 (by omega) (Nat.le_refl _), q2, q3⟩
  · exact (((hw1.setCell (by simp; omega) _).setCell (by simp) _).setCell (by simp) _).setCell (by simp) _

set_option maxHeartbeats 1000000 in
theorem eqNetwork_same (v1 v2 : Value) (N : NetD) (lo1 hi1 lo2 hi2 : Nat) (w : World) (h1 : Net w lo1 hi1 v1 N) (h2 : Net w lo2 hi2 v2 N) (hh1 : hi1 ≤ w.heap.size) (hh2 : hi2 ≤ w.heap.size) :
    Calls Tryz.prog 14 #[v1, v2] w fun e w' => e = .returned (.bool true) ∧ Below w.heap.size w w' := by
  obtain ⟨ve, vi, vn, rfl, he, hi, hn⟩ := h1
  obtain ⟨ve', vi', vn', rfl, he', hi', hn'⟩ := h2
  have HE := Lib.hid he; have HI := Lib.hid hi; have HN := Lib.hid hn
  have HE' := Lib.hid he'; have HI' := Lib.hid hi'; have HN' := Lib.hid hn'
  obtain ⟨A1, c1, rfl⟩ := he.shape
  obtain ⟨A2, c2, rfl⟩ := hi.shape
  obtain ⟨A3, c3, rfl⟩ := hn.shape
  obtain ⟨A4, c4, rfl⟩ := he'.shape
  obtain ⟨A5, c5, rfl⟩ := hi'.shape
  obtain ⟨A6, c6, rfl⟩ := hn'.shape
  clear he hi hn he' hi' hn'
  go_enter Tryz.func14, Tryz.ntmps14
  go_wp2_with fail
  obtain ⟨W0, HW0⟩ : ∃ W0, Hid (W0 = (w.alloc (.cells #[.slice A1 N.ends.length c1, .slice A2 N.ids.length c2, .slice A3 N.inputs.length c3] 38)).alloc (.cells #[.slice A4 N.ends.length c4, .slice A5 N.ids.length c5, .slice A6 N.inputs.length c6] 38)) := ⟨_, Lib.hid rfl⟩
  rw [← HW0.out]
  have hb0 : Below w.heap.size w W0 := by rw [HW0.out]; exact below_a2 _ _ _
  have hs0 : w.heap.size + 2 ≤ W0.heap.size := by rw [HW0.out]; simp
  have b0 : Box3 W0 w.heap.size 38 (.slice A1 N.ends.length c1) (.slice A2 N.ids.length c2) (.slice A3 N.inputs.length c3) := by rw [HW0.out]; exact (Box3.new _ _ _ _ _).alloc _
  have b1 : Box3 W0 (w.heap.size + 1) 38 (.slice A4 N.ends.length c4) (.slice A5 N.ids.length c5) (.slice A6 N.inputs.length c6) := by
    rw [HW0.out]; have := Box3.new (w.alloc (.cells #[.slice A1 N.ends.length c1, .slice A2 N.ids.length c2, .slice A3 N.inputs.length c3] 38)) 38 (.slice A4 N.ends.length c4) (.slice A5 N.ids.length c5) (.slice A6 N.inputs.length c6); simpa using this
  clear HW0
  refine (eqEndSS_same _ _ N.ends lo1 hi1 lo2 hi2 _ (ESS.below HE.out hb0 hh1) (ESS.below HE'.out hb0 hh2) (by omega) (by omega)).mono ?_
  rintro e w1 ⟨rfl, hb1⟩
  have hs1 := hb1.size
  have a0 := b0.below hb1 (by omega)
  have a1 := b1.below hb1 (by omega)
  have hw1 := hb0.trans (hb1.mono (by omega))
  clear b0 b1 hb0 hb1
  have e0 := a0.cells.2.1
  have e1 := a1.cells.2.1
  go_wp2_with fail
  clear e0 e1
  refine (eqIntS_same _ _ N.ids lo1 hi1 lo2 hi2 _ (HI.out.below hw1 hh1) (HI'.out.below hw1 hh2) (by omega) (by omega)).mono ?_
  rintro e w2 ⟨rfl, hb2⟩
  have hs2 := hb2.size
  replace a0 := a0.below hb2 (by omega)
  replace a1 := a1.below hb2 (by omega)
  replace hw1 := hw1.trans (hb2.mono (by omega))
  clear hb2
  have e0 := a0.cells.2.2
  have e1 := a1.cells.2.2
  go_wp2_with fail
  clear e0 e1
  refine (eqIntS_same _ _ N.inputs lo1 hi1 lo2 hi2 _ (HN.out.below hw1 hh1) (HN'.out.below hw1 hh2) (by omega) (by omega)).mono ?_
  rintro e w3 ⟨rfl, hb3⟩
  go_wp2_with fail
  go_ret
  exact ⟨rfl, hw1.trans (hb3.mono (by omega))⟩

/-- what mark leaves in a network -/
def NetD.mk_ (k : Int) (N : NetD) : NetD := ⟨mkEndSS k N.ends, run (k + 2 * cntSS N.ends) N.ids.length, run (k + 2 * cntSS N.ends + N.ids.length) N.inputs.length⟩

set_option maxHeartbeats 1000000 in
theorem markNetwork_any (v : Value) (N : NetD) (k : Int) (lo hi : Nat) (w : World) (h : NetX w lo hi v N) (hhi : hi ≤ w.heap.size) (hk0 : 0 ≤ k) (hk1 : k ≤ 1073741824) (hn : N.cnt ≤ 1073741824) :
    Calls Tryz.prog 16 #[v, .int .i64 k] w fun e w' => e = .returned (.int .i64 (k + N.cnt)) ∧ NetX w' lo hi v (N.mk_ k) ∧ Turned lo hi w w' := by
  obtain ⟨ve, vi, vn, m1, m2, rfl, h1, h2, h3, he, hi, hn0⟩ := h
  have hz : N.cnt = 2 * cntSS N.ends + N.ids.length + N.inputs.length := rfl
  rw [hz] at hn
  have HZ := Lib.hid hz; clear hz
  have HE := Lib.hid he; have HI := Lib.hid hi; have HN := Lib.hid hn0
  obtain ⟨A1, c1, rfl⟩ := he.ss.shape
  obtain ⟨A2, c2, rfl⟩ := hi.shape
  obtain ⟨A3, c3, rfl⟩ := hn0.shape
  clear he hi hn0
  go_enter Tryz.func16, Tryz.ntmps16
  go_wp2_with fail
  obtain ⟨W0, HW0⟩ : ∃ W0, Hid (W0 = w.alloc (.cells #[.slice A1 N.ends.length c1, .slice A2 N.ids.length c2, .slice A3 N.inputs.length c3] 38)) := ⟨_, Lib.hid rfl⟩
  rw [← HW0.out]
  have hb0 : Below w.heap.size w W0 := by rw [HW0.out]; exact below_a1 _ _
  have hs0 : w.heap.size + 1 ≤ W0.heap.size := by rw [HW0.out]; simp
  have b0 : Box3 W0 w.heap.size 38 (.slice A1 N.ends.length c1) (.slice A2 N.ids.length c2) (.slice A3 N.inputs.length c3) := by rw [HW0.out]; exact Box3.new _ _ _ _ _
  clear HW0
  refine (markEndSS_any _ N.ends k lo m1 _ (ESSx.below HE.out hb0 (by omega)) (by omega) hk0 (by omega) (by omega)).mono ?_
  rintro e w1 ⟨rfl, hr1, ht1⟩
  have hs1 := ht1.size
  have R1 := Lib.hid hr1
  have a0 : Box3 w1 w.heap.size 38 (.slice A1 N.ends.length c1) (.slice A2 N.ids.length c2) (.slice A3 N.inputs.length c3) := (ht1.block _ (by omega) (by omega)).trans b0
  have T1 := (Turned.of_below hb0 (Nat.le_refl _)).trans (ht1.mono (Nat.le_refl _) (by omega : m1 ≤ hi))
  have I1 := Lib.hid ((HI.out.below hb0 (by omega)).turned ht1 (by omega) (by omega))
  have N1 := Lib.hid ((HN.out.below hb0 (by omega)).turned ht1 (by omega) (by omega))
  clear hr1 ht1 b0 hb0
  have e0 := a0.cells.2.1
  go_wp2_with fail
  clear e0
  refine (markIntS_any _ N.ids _ m1 m2 _ I1.out (by omega) (by omega) (by omega) (by omega)).mono ?_
  rintro e w2 ⟨rfl, hr2, hg2, hz2⟩
  have ht2 : Turned m1 m2 w1 w2 := Turned.of_row I1.out hg2
  have hs2 := ht2.size
  have R2 := Lib.hid hr2
  have R1b := Lib.hid (ESSx.turned R1.out ht2 (by omega) (by omega))
  replace a0 : Box3 w2 w.heap.size 38 (.slice A1 N.ends.length c1) (.slice A2 N.ids.length c2) (.slice A3 N.inputs.length c3) := (ht2.block _ (by omega) (by omega)).trans a0
  have T2 := T1.trans (ht2.mono h1 h3)
  have N2 := Lib.hid (N1.out.turned ht2 (by omega) (by omega))
  clear hr2 hg2 hz2 ht2 R1 T1 N1
  have e0 := a0.cells.2.2
  go_wp2_with fail
  clear e0
  refine (markIntS_any _ N.inputs _ m2 hi _ N2.out (by omega) (by omega) (by omega) (by omega)).mono ?_
  rintro e w3 ⟨rfl, hr3, hg3, hz3⟩
  have ht3 : Turned m2 hi w2 w3 := Turned.of_row N2.out hg3
  go_wp2_with fail
  go_ret
  have hzz := HZ.out
  refine ⟨ret_int (by omega), ⟨_, _, _, m1, m2, rfl, h1, h2, h3, ESSx.turned R1b.out ht3 (by omega) (by omega), R2.out.turned ht3 (by omega) (by omega), hr3⟩, T2.trans (ht3.mono (by omega) (Nat.le_refl _))⟩

end Go.Proofs.YtkcbocoimbhhaaaGreat

/- Plain laws on lists of numbers: sorting and looking for doubles say the same. -/
namespace Go.Proofs.YtkcbocoimbhhaaaGreat

def sortI (zs : List Int) : List Int := zs.mergeSort fun x y => decide (x ≤ y)
theorem sortI_perm (zs : List Int) : (sortI zs).Perm zs := List.mergeSort_perm _ _
theorem sortI_length (zs : List Int) : (sortI zs).length = zs.length := (sortI_perm zs).length_eq
theorem sortI_sorted (zs : List Int) : (sortI zs).Pairwise (· ≤ ·) := by
  have := List.pairwise_mergeSort (le := fun x y : Int => decide (x ≤ y)) (fun a b c h1 h2 => by simp at *; omega) (fun a b => by simp; omega) zs
  exact this.imp fun h => by simpa using h

theorem nth_lt_of_step {zs : List Int} (h : ∀ j, j + 1 < zs.length → nth zs j < nth zs (j + 1)) : ∀ i j, i < j → j < zs.length → nth zs i < nth zs j := by
  intro i j hij hj
  induction j with
  | zero => omega
  | succ j ih =>
    by_cases e : i = j
    · subst e; exact h i hj
    · have := ih (by omega) (by omega); have := h j hj; omega
theorem rising_iff (zs : List Int) (a b : Int) : rising zs a b = true ↔ (∀ x ∈ zs, inB x a b = true) ∧ zs.Pairwise (· < ·) := by
  constructor
  · intro h
    unfold rising at h
    rw [List.all_eq_true] at h
    have h' : ∀ j, j < zs.length → risingAt zs a b j = true := fun j hj => h j (List.mem_range.2 hj)
    refine ⟨fun x hx => ?_, ?_⟩
    · obtain ⟨j, hj, e⟩ := List.mem_iff_getElem.1 hx
      have := h' j hj
      simp only [risingAt, Bool.and_eq_true] at this
      rw [nth_eq hj, e] at this
      exact this.1
    · rw [List.pairwise_iff_getElem]
      intro i j hi hj hij
      rw [← nth_eq hi, ← nth_eq hj]
      refine nth_lt_of_step (fun k hk => ?_) i j hij hj
      have := h' (k + 1) hk
      simp only [risingAt, Bool.and_eq_true] at this
      simpa using this.2
  · rintro ⟨h1, h2⟩
    refine rising_true fun j hj => ?_
    simp only [risingAt, Bool.and_eq_true]
    refine ⟨h1 _ (nth_mem hj), ?_⟩
    by_cases h0 : j = 0
    · simp [h0]
    · rw [List.pairwise_iff_getElem] at h2
      have := h2 (j - 1) j (by omega) hj (by omega)
      rw [← nth_eq, ← nth_eq] at this
      simp [this]
theorem ids_iff (zs : List Int) : (List.range zs.length).all (idAt zs) = true ↔ (∀ x ∈ zs, inB x 1 999999 = true) ∧ zs.Nodup := by
  rw [List.all_eq_true]
  constructor
  · intro h
    have h' : ∀ j, j < zs.length → inB (nth zs j) 1 999999 = true ∧ nth zs j ∉ zs.take j := fun j hj => by
      have := h j (List.mem_range.2 hj)
      simpa [idAt] using this
    refine ⟨fun x hx => ?_, ?_⟩
    · obtain ⟨j, hj, e⟩ := List.mem_iff_getElem.1 hx
      have := (h' j hj).1
      rwa [nth_eq hj, e] at this
    · unfold List.Nodup
      rw [List.pairwise_iff_getElem]
      intro i j hi hj hij e
      apply (h' j hj).2
      rw [nth_eq hj, ← e]
      exact List.mem_iff_getElem.2 ⟨i, by rw [List.length_take]; omega, by simp⟩
  · rintro ⟨h1, h2⟩ j hj
    rw [List.mem_range] at hj
    simp only [idAt, Bool.and_eq_true, Bool.not_eq_true', decide_eq_false_iff_not]
    refine ⟨h1 _ (nth_mem hj), fun hm => ?_⟩
    obtain ⟨i, hi, e⟩ := List.mem_iff_getElem.1 hm
    rw [List.length_take] at hi
    unfold List.Nodup at h2
    rw [List.pairwise_iff_getElem] at h2
    have := h2 i j (by omega) hj (by omega)
    apply this
    rw [nth_eq hj] at e
    simpa using e
/-- the program's look at identifiers -/
def idsOkB (zs : List Int) (n : Int) : Bool := decide (zs.length = 0) || (decide ((zs.length : Int) = n) && rising (sortI zs) 1 999999)
theorem idsOk_eq (zs : List Int) (n : Int) : idsOkB zs n = idsGood zs n := by
  rcases Nat.eq_zero_or_pos zs.length with h0 | h0
  · have : zs = [] := List.eq_nil_of_length_eq_zero h0
    subst this
    rfl
  · have hz : decide (zs.length = 0) = false := by simp; intro e; subst e; simp at h0
    have hr : rising (sortI zs) 1 999999 = (List.range zs.length).all (idAt zs) := by
      rw [Bool.eq_iff_iff, rising_iff, ids_iff]
      have hp := sortI_perm zs
      constructor
      · rintro ⟨h1, h2⟩
        refine ⟨fun x hx => h1 x (hp.mem_iff.2 hx), ?_⟩
        have : (sortI zs).Nodup := h2.imp fun h => by omega
        exact hp.nodup_iff.1 this
      · rintro ⟨h1, h2⟩
        refine ⟨fun x hx => h1 x (hp.mem_iff.1 hx), ?_⟩
        have hn : (sortI zs).Nodup := hp.nodup_iff.2 h2
        have hs := sortI_sorted zs
        exact (List.Pairwise.and hs hn).imp fun h => by omega
    unfold idsOkB idsGood
    rw [hz, hr, Bool.false_or, Bool.false_or, Bool.and_comm]

end Go.Proofs.YtkcbocoimbhhaaaGreat

/- How two ends are compared. -/
namespace Go.Proofs.YtkcbocoimbhhaaaGreat
open Go.RowKit
theorem neq_end (a b c d : Int) (w : World) : (binOp .neq 72 (.agg #[.int .i64 a, .int .i64 b]) (.agg #[.int .i64 c, .int .i64 d])).run Tryz.prog w = .ok (.bool (!(a == c && b == d))) w := by
  rw [run_neq_struct, run_equalIn_agg _ _ _ _ _ (by kernel_rfl) (by kernel_rfl)]
  simp only [Program.fieldsOf, Tryz.underlying72]
  by_cases h1 : a = c <;> by_cases h2 : b = d <;> simp [go_sem, h1, h2, Tryz.underlying3]
end Go.Proofs.YtkcbocoimbhhaaaGreat

/- Contracts of IsNetwork (program) and neGood (reference): both say whether a network is one. -/
namespace Go.Proofs.YtkcbocoimbhhaaaGreat
open Go.ChangeShapes Go.WideShapes Go.ChangeAt Go.RowKit
set_option linter.unusedVariables false

set_option maxHeartbeats 400000 in
theorem hasNode_any (v : Value) (N : NetD) (x : Int) (lo hi : Nat) (w : World) (h : Net w lo hi v N) (hhi : hi ≤ w.heap.size) :
    Calls Tryz.prog 85 #[v, .int .i64 x] w fun e w' => e = .returned (.bool (inB x 0 ((N.ends.length : Int) - 1))) ∧ Below w.heap.size w w' := by
  obtain ⟨ve, vi, vn, rfl, he, hi1, hn1⟩ := h
  obtain ⟨A, c, rfl, hc1, hc2, _⟩ := he.form
  unfold maxLen at hc2
  obtain ⟨A2, c2, rfl⟩ := hi1.shape
  obtain ⟨A3, c3, rfl⟩ := hn1.shape
  clear he hi1 hn1
  go_enter Tryz.func85, Tryz.ntmps85
  go_wp2_with (go_at_call 55; refine (within_any _ _ _ _).mono ?_; rintro e w' ⟨rfl, rfl⟩)
  go_ret
  exact ⟨rfl, below_a1 _ _⟩

/-- a port of a network -/
def NetD.port (N : NetD) (x i : Int) : Bool := inB x 0 ((N.ends.length : Int) - 1) && inB i 0 (((nthL N.ends x.toNat).length : Int) - 1)

set_option maxHeartbeats 1000000 in
theorem hasPort_any (v : Value) (N : NetD) (x i : Int) (lo hi : Nat) (w : World) (h : Net w lo hi v N) (hhi : hi ≤ w.heap.size) :
    Calls Tryz.prog 58 #[v, .int .i64 x, .int .i64 i] w fun e w' => e = .returned (.bool (N.port x i)) ∧ Below w.heap.size w w' := by
  have HN := Lib.hid h
  obtain ⟨ve, vi, vn, rfl, he, hi1, hn1⟩ := h
  obtain ⟨A, c, rfl, hc1, hc2, hcell⟩ := he.form
  unfold maxLen at hc2
  obtain ⟨A2, c2, rfl⟩ := hi1.shape
  obtain ⟨A3, c3, rfl⟩ := hn1.shape
  clear he hi1 hn1
  have hb0 : Below w.heap.size w (w.alloc (.cells #[.slice A N.ends.length c, .slice A2 N.ids.length c2, .slice A3 N.inputs.length c3] 38)) := below_a1 _ _
  have HN1 := Lib.hid (HN.out.below hb0 hhi)
  have b0 := Box3.new w 38 (.slice A N.ends.length c) (.slice A2 N.ids.length c2) (.slice A3 N.inputs.length c3)
  by_cases hx : inB x 0 ((N.ends.length : Int) - 1) = true
  · obtain ⟨x0, x1⟩ := inB_le hx
    obtain ⟨n, rfl⟩ : ∃ n : Nat, x = n := ⟨x.toNat, by omega⟩
    obtain ⟨b, off, rfl, hb1, hb2, hcs⟩ := hcell (by omega)
    obtain ⟨u, hu, hR⟩ := hcs n (by omega)
    obtain ⟨A4, c4, rfl, hd1, hd2, _⟩ := hR.form
    unfold maxLen at hd2
    clear hcs hcell hR
    have hu' := (hb0.cell (p := ⟨b, off + n, none⟩) (by show b < _; omega)).trans hu
    go_enter Tryz.func58, Tryz.ntmps58
    go_wp2_with fail
    refine (hasNode_any _ N _ lo hi _ HN1.out (by simp; omega)).mono ?_
    rintro e w1 ⟨rfl, hbq⟩
    rw [hx]
    have q0 := (b0.below hbq (by simp)).cells.1
    have q1 := (hbq.cell (p := ⟨b, off + n, none⟩) (by simp; omega)).trans hu'
    go_wp2_with (go_at_call 55; refine (within_any _ _ _ _).mono ?_; rintro e w' ⟨rfl, rfl⟩)
    go_ret
    exact ⟨ret_bool (by unfold NetD.port; rw [hx, Int.toNat_natCast]; rfl), hb0.trans (hbq.mono (by simp))⟩
  · have hx' : inB x 0 ((N.ends.length : Int) - 1) = false := by simpa using hx
    clear hx hcell
    go_enter Tryz.func58, Tryz.ntmps58
    go_wp2_with fail
    refine (hasNode_any _ N _ lo hi _ HN1.out (by simp; omega)).mono ?_
    rintro e w1 ⟨rfl, hbq⟩
    rw [hx']
    go_wp2_with fail
    go_ret
    exact ⟨ret_bool (by unfold NetD.port; rw [hx']; rfl), hb0.trans (hbq.mono (by simp))⟩

/-- slices.Clone -/
theorem clone_any (v : Value) (zs : List Int) (lo hi : Nat) (w : World) (h : IntS w lo hi v zs) (hn : zs.length ≤ 16777216) :
    Calls Tryz.prog 82 #[v] w fun e w' => ∃ r, e = .returned r ∧ OwnI w' w.heap.size 3 r zs ∧ Below w.heap.size w w' := by
  obtain ⟨A, c, rfl, hc1, hc2, hcell⟩ := h.form
  rcases Nat.eq_zero_or_pos zs.length with h0 | h0
  · obtain rfl : zs = [] := List.eq_nil_of_length_eq_zero h0
    cases A with
    | none =>
      refine (Tryz.slices_Clone_int_nil _ _ _).mono ?_
      rintro e w' ⟨rfl, rfl⟩
      exact ⟨_, rfl, OwnI.nil _ _ _, Below.refl _ _⟩
    | some a =>
      refine (Tryz.slices_Clone_int_zero _ _ _).mono ?_
      rintro e w' ⟨r, rfl, h1, _, h2⟩
      exact ⟨_, rfl, h1, h2⟩
  · obtain ⟨b, off, rfl, hb1, hb2, hcs⟩ := hcell h0
    refine (Tryz.slices_Clone_int b off zs.length c zs w (Nat.le_refl _) (by omega) (fun j hj => (hcs j hj).1)).mono ?_
    rintro e w' ⟨r, rfl, h1, _, h2⟩
    rw [List.take_length] at h1
    exact ⟨_, rfl, by simpa [OwnI, Own] using h1, h2⟩

open Go.Sort in
/-- slices.Sort -/
theorem sort_any (v : Value) (zs : List Int) (lo hi : Nat) (w : World) (h : IntS w lo hi v zs) (hhi : hi ≤ w.heap.size) (hn : zs.length ≤ 16777216) :
    Calls Tryz.prog 83 #[v] w fun e w' => e = .returned (.tuple #[]) ∧ IntS w' lo hi v (sortI zs) ∧ w.grownBy w' (rowOf zs.length v) := by
  obtain ⟨A, c, rfl, hc1, hc2, hcell⟩ := h.form
  rcases Nat.eq_zero_or_pos zs.length with h0 | h0
  · obtain rfl : zs = [] := List.eq_nil_of_length_eq_zero h0
    refine (Tryz.slices_Sort_int_none _ _ _).mono ?_
    rintro e w' ⟨rfl, rfl⟩
    exact ⟨rfl, by simpa [sortI] using h, World.grownBy.refl _ _⟩
  · obtain ⟨b, off, rfl, hb1, hb2, hcs⟩ := hcell h0
    have hH : Holds (Value.int .i64) w b off zs.toArray := fun j hj => by
      have hj' : j < zs.length := by simpa using hj
      have := hcs j hj'
      rw [nth_eq hj'] at this
      simpa [hj'] using this
    refine (Tryz.slices_Sort_int b off c zs w hH (by omega) (by omega)).mono ?_
    rintro e w' ⟨rfl, n, os, rfl⟩
    have hs : (zs.mergeSort fun x y => decide (x ≤ y)).toArray.size = zs.toArray.size := by simp
    have hH2 := holds_grow (Value.int .i64) _ os b off _ (by simp; omega) (holds_putRow (Value.int .i64) (Sort.ahead w n) b off zs.toArray (zs.mergeSort fun x y => decide (x ≤ y)).toArray hH hs)
    refine ⟨rfl, ?_, ?_⟩
    · refine ⟨_, c, by rw [sortI_length], by rw [sortI_length]; exact hc1, hc2, fun _ => ⟨b, off, rfl, hb1, hb2, fun j hj => ?_⟩⟩
      have hj1 : j < (sortI zs).length := by omega
      obtain ⟨q1, q2⟩ := hH2 j (by simpa [sortI] using hj1)
      refine ⟨?_, q2⟩
      show _ = some (Value.int .i64 (nth (sortI zs) j))
      rw [q1, nth_eq hj1]
      have hj2 : j < (zs.mergeSort fun x y => decide (x ≤ y)).length := hj1
      simp only [sortI]
      rw [getElem!_pos _ j (by simpa using hj2)]
      simp
    · rw [rowOf_some h0]
      refine ⟨rfl, rfl, rfl, by simp, fun k hk hne => ?_⟩
      rw [heap_grow_old _ _ (by simpa using hk)]
      have hkb : b ≠ k := fun e => hne (by rw [e])
      simp [putRow, mapBlock, Array.getElem?_modify, hkb]

set_option maxHeartbeats 400000 in
theorem idsOk_any (v : Value) (zs : List Int) (n : Int) (lo hi : Nat) (w : World) (h : IntS w lo hi v zs) (hhi : hi ≤ w.heap.size) (hn : zs.length ≤ 16777216) :
    Calls Tryz.prog 56 #[v, .int .i64 n] w fun e w' => e = .returned (.bool (idsGood zs n)) ∧ Below w.heap.size w w' := by
  have HH := Lib.hid h
  obtain ⟨A, c, rfl⟩ := h.shape
  clear h
  by_cases h0 : zs.length = 0
  · have h0' : ((zs.length : Int) == 0) = true := by simp [h0]
    have H0 := Lib.hid h0
    clear h0
    go_enter Tryz.func56, Tryz.ntmps56
    go_wp2
    go_ret
    exact ⟨ret_bool (by rw [← idsOk_eq]; unfold idsOkB; rw [decide_eq_true H0.out]; rfl), Below.refl _ _⟩
  · have h0' : ((zs.length : Int) == 0) = false := by rw [beq_eq_false_iff_ne]; omega
    have H0 := Lib.hid h0
    clear h0
    go_enter Tryz.func56, Tryz.ntmps56
    go_wp2_with fail
    refine (clone_any _ zs lo hi _ HH.out hn).mono ?_
    rintro e w1 ⟨r, rfl, hr, hb1⟩
    have hr1 := hr.ints
    have R1 := Lib.hid hr1
    obtain ⟨B, d, rfl⟩ := hr1.shape
    clear hr1 hr
    go_wp2_with fail
    refine (sort_any _ zs _ _ _ R1.out (Nat.le_refl _) hn).mono ?_
    rintro e w2 ⟨rfl, hr2, hg⟩
    have hbw : Below w.heap.size w w2 := hb1.grown hg hb1.size (fun k hk => by rcases Sl.row R1.out with e | ⟨b, e, h1, _⟩ <;> rw [e] at hk <;> injection hk; omega)
    have R2 := Lib.hid hr2
    clear hr2 hg
    by_cases hl : (zs.length : Int) = n
    · have hl' : ((zs.length : Int) == n) = true := by simpa using hl
      have HL := Lib.hid hl
      clear hl
      go_wp2_with (go_at_call 84; refine (increasing_any _ (sortI zs) _ _ _ _ _ R2.out).mono ?_; rintro e w' ⟨rfl, rfl⟩)
      go_ret
      exact ⟨ret_bool (by rw [← idsOk_eq]; unfold idsOkB; rw [decide_eq_false H0.out, decide_eq_true HL.out]; rfl), hbw⟩
    · have hl' : ((zs.length : Int) == n) = false := by simpa using hl
      have HL := Lib.hid hl
      clear hl
      go_wp2_with fail
      go_ret
      exact ⟨ret_bool (by rw [← idsOk_eq]; unfold idsOkB; rw [decide_eq_false H0.out, decide_eq_false HL.out]; rfl), hbw⟩

def insGood (zs : List Int) (n : Int) : Bool := decide ((zs.length : Int) = n) && zs.all fun x => inB x 0 9
set_option maxHeartbeats 400000 in
theorem inputsOk_any (v : Value) (zs : List Int) (n : Int) (lo hi : Nat) (w : World) (h : IntS w lo hi v zs) (hhi : hi ≤ w.heap.size) :
    Calls Tryz.prog 57 #[v, .int .i64 n] w fun e w' => e = .returned (.bool (insGood zs n)) ∧ Below w.heap.size w w' := by
  have HH := Lib.hid h
  obtain ⟨A, c, rfl⟩ := h.shape
  clear h
  by_cases hl : (zs.length : Int) = n
  · have hl' : ((zs.length : Int) == n) = true := by simpa using hl
    have HL := Lib.hid hl
    clear hl
    go_enter Tryz.func57, Tryz.ntmps57
    go_wp2_with (go_at_call 61; refine (allWithin_any _ zs _ _ lo hi _ HH.out hhi).mono ?_; rintro e w' ⟨rfl, hb⟩)
    go_ret
    exact ⟨ret_bool (by unfold insGood; rw [decide_eq_true HL.out]; rfl), hb⟩
  · have hl' : ((zs.length : Int) == n) = false := by simpa using hl
    have HL := Lib.hid hl
    clear hl
    go_enter Tryz.func57, Tryz.ntmps57
    go_wp2_with fail
    go_ret
    exact ⟨ret_bool (by unfold insGood; rw [decide_eq_false HL.out]; rfl), Below.refl _ _⟩

def NetD.endOk (N : NetD) (v i : Nat) : Bool := N.port (nthE (nthL N.ends v) i).1 (nthE (nthL N.ends v) i).2 && decide (nthE (nthL N.ends (nthE (nthL N.ends v) i).1.toNat) (nthE (nthL N.ends v) i).2.toNat = ((v : Int), (i : Int)))
def NetD.rowOk (N : NetD) (v : Nat) : Bool := decide ((nthL N.ends v).length ≤ 6) && (List.range (nthL N.ends v).length).all (N.endOk v)
def NetD.headOk (N : NetD) : Bool := inB N.ends.length 1 40 && (idsGood N.ids N.ends.length && insGood N.inputs N.ends.length)
def NetD.good (N : NetD) : Bool := N.headOk && (List.range N.ends.length).all N.rowOk
theorem good_head {N : NetD} (h : N.headOk = false) : N.good = false := by unfold NetD.good; rw [h]; rfl
theorem good_row {N : NetD} {v : Nat} (hv : v < N.ends.length) (h : N.rowOk v = false) : N.good = false := by
  have : (List.range N.ends.length).all N.rowOk = false := by
    rw [Bool.eq_false_iff]; intro ha; rw [List.all_eq_true] at ha
    have := ha v (List.mem_range.2 hv); rw [h] at this; cases this
  unfold NetD.good; rw [this, Bool.and_false]
theorem good_yes {N : NetD} (h : N.headOk = true) (hr : ∀ v, v < N.ends.length → N.rowOk v = true) : N.good = true := by
  have : (List.range N.ends.length).all N.rowOk = true := by rw [List.all_eq_true]; intro v hv; exact hr v (List.mem_range.1 hv)
  unfold NetD.good; rw [this, h]; rfl
theorem row_wide {N : NetD} {v : Nat} (h : 6 < (nthL N.ends v).length) : N.rowOk v = false := by unfold NetD.rowOk; rw [decide_eq_false (by omega)]; rfl
theorem row_end {N : NetD} {v i : Nat} (hi : i < (nthL N.ends v).length) (h : N.endOk v i = false) : N.rowOk v = false := by
  have : (List.range (nthL N.ends v).length).all (N.endOk v) = false := by
    rw [Bool.eq_false_iff]; intro ha; rw [List.all_eq_true] at ha
    have := ha i (List.mem_range.2 hi); rw [h] at this; cases this
  unfold NetD.rowOk; rw [this, Bool.and_false]
theorem row_yes {N : NetD} {v : Nat} (h : (nthL N.ends v).length ≤ 6) (hr : ∀ i, i < (nthL N.ends v).length → N.endOk v i = true) : N.rowOk v = true := by
  have : (List.range (nthL N.ends v).length).all (N.endOk v) = true := by rw [List.all_eq_true]; intro i hi; exact hr i (List.mem_range.1 hi)
  unfold NetD.rowOk; rw [this, decide_eq_true h]; rfl

set_option maxHeartbeats 4000000 in
set_option maxRecDepth 100000 in
theorem neGood_any (v : Value) (N : NetD) (lo hi : Nat) (w : World) (h : Net w lo hi v N) (hhi : hi ≤ w.heap.size) (hsz : N.sz ≤ 1048576) :
    Calls Tryz.prog 22 #[v] w fun e w' => e = .returned (.bool N.good) ∧ Below w.heap.size w w' := by
  unfold NetD.sz at hsz
  obtain ⟨ve, vi, vn, rfl, he, hi1, hn1⟩ := h
  obtain ⟨A, c, rfl, hc1, hc2, hcell⟩ := he.form
  unfold maxLen at hc2
  have hle : N.ends.length ≤ 1048576 := by unfold szSS at hsz; omega
  have hb0 := fun o => below_a1 w o
  obtain ⟨A2, c2, rfl⟩ := hi1.shape
  obtain ⟨A3, c3, rfl⟩ := hn1.shape
  have b0 := Box3.new w 38 (.slice A N.ends.length c) (.slice A2 N.ids.length c2) (.slice A3 N.inputs.length c3)
  have HI := Lib.hid (hi1.below (hb0 (.cells #[.slice A N.ends.length c, .slice A2 N.ids.length c2, .slice A3 N.inputs.length c3] 38)) hhi)
  have HN := Lib.hid (hn1.below (hb0 (.cells #[.slice A N.ends.length c, .slice A2 N.ids.length c2, .slice A3 N.inputs.length c3] 38)) hhi)
  have HB0 := Lib.hid (hb0 (.cells #[.slice A N.ends.length c, .slice A2 N.ids.length c2, .slice A3 N.inputs.length c3] 38))
  clear he hi1 hn1 hb0
  by_cases g1 : inB N.ends.length 1 40 = true
  case neg =>
    have g1' : inB N.ends.length 1 40 = false := by simpa using g1
    clear g1 hcell
    go_enter Tryz.func22, Tryz.ntmps22
    go_wp2_with (go_at_call 42; refine (l1In_any _ _ _ _).mono ?_; rintro e w' ⟨rfl, rfl⟩)
    go_ret
    exact ⟨ret_bool (good_head (by unfold NetD.headOk; rw [g1']; rfl)).symm, HB0.out⟩
  by_cases g2 : idsGood N.ids N.ends.length = true
  case neg =>
    have g2' : idsGood N.ids N.ends.length = false := by simpa using g2
    clear g2 hcell
    go_enter Tryz.func22, Tryz.ntmps22
    go_wp2_with (first
      | (go_at_call 42; refine (l1In_any _ _ _ _).mono ?_; rintro e w' ⟨rfl, rfl⟩)
      | (go_at_call 43; refine (neIds_any _ N.ids _ lo hi _ HI.out).mono ?_; rintro e w' ⟨rfl, rfl⟩))
    go_ret
    exact ⟨ret_bool (good_head (by unfold NetD.headOk; rw [g2']; simp)).symm, HB0.out⟩
  by_cases g3 : N.inputs.length = N.ends.length
  case neg =>
    have g3' : ((N.inputs.length : Int) != (N.ends.length : Int)) = true := by simp; omega
    clear hcell
    go_enter Tryz.func22, Tryz.ntmps22
    go_wp2_with (first
      | (go_at_call 42; refine (l1In_any _ _ _ _).mono ?_; rintro e w' ⟨rfl, rfl⟩)
      | (go_at_call 43; refine (neIds_any _ N.ids _ lo hi _ HI.out).mono ?_; rintro e w' ⟨rfl, rfl⟩))
    go_ret
    exact ⟨ret_bool (good_head (by unfold NetD.headOk insGood; rw [decide_eq_false (by omega)]; simp)).symm, HB0.out⟩
  have g3' : ((N.inputs.length : Int) != (N.ends.length : Int)) = false := by simp [g3]
  have G3 := Lib.hid g3
  clear g3
  by_cases g4 : (N.inputs.all fun x => inB x 0 9) = true
  case neg =>
    have g4' : (N.inputs.all fun x => inB x 0 9) = false := by simpa using g4
    have G4 := Lib.hid g4'
    clear hcell g4 g4'
    go_enter Tryz.func22, Tryz.ntmps22
    go_wp2_with (first
      | (go_at_call 42; refine (l1In_any _ _ _ _).mono ?_; rintro e w' ⟨rfl, rfl⟩)
      | (go_at_call 43; refine (neIds_any _ N.ids _ lo hi _ HI.out).mono ?_; rintro e w' ⟨rfl, rfl⟩)
      | (go_at_call 44; refine (l1All_any _ N.inputs _ _ lo hi _ HN.out).mono ?_; rintro e w' ⟨rfl, rfl⟩; rw [G4.out]))
    go_ret
    exact ⟨ret_bool (good_head (by unfold NetD.headOk insGood; rw [G4.out]; simp)).symm, HB0.out⟩
  have G4 := Lib.hid g4
  have HD := Lib.hid (show N.headOk = true by unfold NetD.headOk insGood; rw [g1, g2, g4, decide_eq_true (by rw [G3.out])]; rfl)
  clear g4
  obtain ⟨n1, n40⟩ := inB_le g1
  obtain ⟨b, off, rfl, hb1, hb2, hcs⟩ := hcell (by omega)
  have HCS := Lib.hid hcs
  clear hcell hcs
  go_enter Tryz.func22, Tryz.ntmps22
  go_wp2_with (first
    | (go_at_call 42; refine (l1In_any _ _ _ _).mono ?_; rintro e w' ⟨rfl, rfl⟩)
    | (go_at_call 43; refine (neIds_any _ N.ids _ lo hi _ HI.out).mono ?_; rintro e w' ⟨rfl, rfl⟩)
    | (go_at_call 44; refine (l1All_any _ N.inputs _ _ lo hi _ HN.out).mono ?_; rintro e w' ⟨rfl, rfl⟩; rw [G4.out]))
  go_loopw [39] (fun i wr => ∃ k : Nat, k ≤ N.ends.length ∧ i = .int .i64 k ∧ Hid (∀ j, j < k → N.rowOk j = true) ∧ Box3 wr w.heap.size 38 (.slice (some ⟨b, off, none⟩) N.ends.length c) (.slice A2 N.ids.length c2) (.slice A3 N.inputs.length c3) ∧ Below w.heap.size w wr) (fun i _ => N.ends.length - (intOf i).toNat)
  case atStart => exact ⟨0, Nat.zero_le _, rfl, Lib.hid fun j hj => absurd hj (by omega), b0, HB0.out⟩
  case round =>
    clear b0
    obtain ⟨k, hk, rfl, HU, hbx, hb⟩ := hrel
    have hs0 := hb.size
    by_cases hlt : k < N.ends.length
    case neg =>
      obtain rfl : k = N.ends.length := by omega
      go_wp2
      go_ret
      exact ⟨ret_bool (good_yes HD.out HU.out).symm, hb⟩
    obtain ⟨u, hu, hR⟩ := HCS.out k hlt
    obtain ⟨A4, c4, rfl, hd1, hd2, hcell4⟩ := hR.form
    unfold maxLen at hd2
    have hck := (hb.cell (p := ⟨b, off + k, none⟩) (by show b < _; omega)).trans hu
    have HC4 := Lib.hid hcell4
    clear hu hcell4 hR
    by_cases hl6 : (nthL N.ends k).length ≤ 6
    case neg =>
      have hl6' : (6 : Int) < (nthL N.ends k).length := by omega
      go_wp2
      go_ret
      exact ⟨ret_bool (good_row hlt (row_wide (by omega))).symm, hb⟩
    obtain ⟨wo, rfl⟩ : ∃ wo : World, wo = wr := ⟨_, rfl⟩
    go_wp2
    go_loopw [49] (fun i wi => ∃ m : Nat, m ≤ (nthL N.ends k).length ∧ i = .int .i64 m ∧ Hid (∀ j, j < m → N.endOk k j = true) ∧ Box3 wi w.heap.size 38 (.slice (some ⟨b, off, none⟩) N.ends.length c) (.slice A2 N.ids.length c2) (.slice A3 N.inputs.length c3) ∧ Below w.heap.size w wi) (fun i _ => (nthL N.ends k).length - (intOf i).toNat)
    case atStart => exact ⟨0, Nat.zero_le _, rfl, Lib.hid fun j hj => absurd hj (by omega), hbx, hb⟩
    case round =>
      clear hbx hb hck
      obtain ⟨m, hm, rfl, HV, hbx, hb⟩ := hrel
      have hs1 := hb.size
      by_cases hml : m < (nthL N.ends k).length
      case neg =>
        obtain rfl : m = (nthL N.ends k).length := by omega
        go_wp2
        go_roundw
        case rel =>
          refine ⟨k + 1, by omega, by go_num, Lib.hid fun j hj => ?_, hbx, hb⟩
          by_cases e : j = k
          · subst e; exact row_yes hl6 HV.out
          · exact HU.out j (by omega)
        case measure => simp [intOf]; omega
      obtain ⟨b4, off4, rfl, hb5, hb6, hcs4⟩ := HC4.out (by omega)
      obtain ⟨x1, x2⟩ := hcs4 m hml
      have e1 := (hb.cell (p := ⟨b4, off4 + m * 2, none⟩) (by show b4 < _; omega)).trans x1
      have e2 := (hb.cell (p := ⟨b4, off4 + m * 2 + 1, none⟩) (by show b4 < _; omega)).trans x2
      clear hcs4 x1 x2
      obtain ⟨p1, p2, HP⟩ : ∃ p1 p2, Hid (nthE (nthL N.ends k) m = (p1, p2)) := ⟨_, _, Lib.hid rfl⟩
      rw [HP.out] at e1 e2
      dsimp only at e1 e2
      have q0 : (wr.alloc (.cells #[.int .i64 p1, .int .i64 p2] 72)).cell? ⟨w.heap.size, 0, none⟩ = some (.slice (some ⟨b, off, none⟩) N.ends.length c) := (hbx.alloc _).cells.1
      have hbW : Below w.heap.size w (wr.alloc (.cells #[.int .i64 p1, .int .i64 p2] 72)) := hb.alloc hs1 _
      have sub1 : IntKind.i64.wrap ((N.ends.length : Int) - 1) = (N.ends.length : Int) - 1 := IntWalk.i64_in _ (by omega)
      by_cases k1 : inB p1 0 ((N.ends.length : Int) - 1) = true
      case neg =>
        have k1' : inB p1 0 ((N.ends.length : Int) - 1) = false := by simpa using k1
        clear k1
        go_wp2
        go_quiet ((go_at_call 42; exact quiet_left (l1In_any _ _ _ _)))
        go_wp2
        go_ret
        exact ⟨ret_bool (good_row hlt (row_end hml (by unfold NetD.endOk; rw [HP.out]; dsimp only; unfold NetD.port; rw [k1']; rfl))).symm, below_drewN hbW _⟩
      obtain ⟨y1, y2⟩ := inB_le k1
      obtain ⟨t, rfl⟩ : ∃ t : Nat, p1 = t := ⟨p1.toNat, by omega⟩
      have htl : t < N.ends.length := by omega
      obtain ⟨u5, hu5, hR5⟩ := HCS.out t htl
      obtain ⟨A5, c5, rfl, hf1, hf2, hcell5⟩ := hR5.form
      unfold maxLen at hf2
      have q5 := (hbW.cell (p := ⟨b, off + t, none⟩) (by show b < _; omega)).trans hu5
      have sub2 : IntKind.i64.wrap (((nthL N.ends t).length : Int) - 1) = ((nthL N.ends t).length : Int) - 1 := IntWalk.i64_in _ (by omega)
      have hti : (t : Int) < N.ends.length := by omega
      clear hu5 hR5
      by_cases k2 : inB p2 0 (((nthL N.ends t).length : Int) - 1) = true
      case neg =>
        have k2' : inB p2 0 (((nthL N.ends t).length : Int) - 1) = false := by simpa using k2
        clear k2 hcell5
        go_wp2
        go_quiet ((go_at_call 42; exact quiet_left (l1In_any _ _ _ _)))
        go_wp2
        go_ret
        exact ⟨ret_bool (good_row hlt (row_end hml (by unfold NetD.endOk; rw [HP.out]; dsimp only; unfold NetD.port; rw [Int.toNat_natCast, k2']; simp))).symm, below_drewN hbW _⟩
      obtain ⟨z1, z2⟩ := inB_le k2
      obtain ⟨r, rfl⟩ : ∃ r : Nat, p2 = r := ⟨p2.toNat, by omega⟩
      have hrl : r < (nthL N.ends t).length := by omega
      have hri : (r : Int) < (nthL N.ends t).length := by omega
      obtain ⟨b6, off6, rfl, hb7, hb8, hcs6⟩ := hcell5 (by omega)
      obtain ⟨f1, f2⟩ := hcs6 r hrl
      have d1 := (hbW.cell (p := ⟨b6, off6 + r * 2, none⟩) (by show b6 < _; omega)).trans f1
      have d2 := (hbW.cell (p := ⟨b6, off6 + r * 2 + 1, none⟩) (by show b6 < _; omega)).trans f2
      obtain ⟨s1, s2, HQ⟩ : ∃ s1 s2, Hid (nthE (nthL N.ends t) r = (s1, s2)) := ⟨_, _, Lib.hid rfl⟩
      rw [HQ.out] at d1 d2
      dsimp only at d1 d2
      clear f1 f2 hcs6 hcell5
      by_cases k3 : ((s1, s2) : Int × Int) = ((k : Int), (m : Int))
      case neg =>
        have k3' : ∀ w, (binOp .neq 72 (.agg #[.int .i64 s1, .int .i64 s2]) (.agg #[.int .i64 k, .int .i64 m])).run Tryz.prog w = .ok (.bool true) w := fun w => by
          rw [neq_end, show (!(s1 == (k : Int) && s2 == (m : Int))) = true by
            rw [Bool.not_eq_true', Bool.and_eq_false_iff]; simp only [Prod.mk.injEq] at k3; by_cases q : s1 = (k : Int)
            · right; simpa using fun e => k3 ⟨q, e⟩
            · left; simpa using q]
        have K3 := Lib.hid k3
        clear k3
        go_wp2
        go_quiet ((go_at_call 42; exact quiet_left (l1In_any _ _ _ _)))
        go_wp2
        go_ret
        exact ⟨ret_bool (good_row hlt (row_end hml (by unfold NetD.endOk; rw [HP.out]; dsimp only; rw [Int.toNat_natCast, Int.toNat_natCast, HQ.out, decide_eq_false K3.out, Bool.and_false]))).symm, below_drewN hbW _⟩
      have k3' : ∀ w, (binOp .neq 72 (.agg #[.int .i64 s1, .int .i64 s2]) (.agg #[.int .i64 k, .int .i64 m])).run Tryz.prog w = .ok (.bool false) w := fun w => by
        simp only [Prod.mk.injEq] at k3
        rw [neq_end, k3.1, k3.2]; simp
      have K3 := Lib.hid k3
      clear k3
      go_wp2
      go_quiet ((go_at_call 42; exact quiet_left (l1In_any _ _ _ _)))
      go_wp2
      go_roundw
      case rel =>
        refine ⟨m + 1, by omega, by go_num, Lib.hid fun j hj => ?_, hbx.alloc _, below_drewN hbW _⟩
        by_cases e : j = m
        · subst e
          unfold NetD.endOk
          rw [HP.out]
          dsimp only
          rw [Int.toNat_natCast, Int.toNat_natCast, HQ.out, decide_eq_true K3.out, Bool.and_true]
          unfold NetD.port
          rw [k1, Int.toNat_natCast, k2]
          rfl
        · exact HV.out j (by omega)
      case measure => simp [intOf]; omega

end Go.Proofs.YtkcbocoimbhhaaaGreat
