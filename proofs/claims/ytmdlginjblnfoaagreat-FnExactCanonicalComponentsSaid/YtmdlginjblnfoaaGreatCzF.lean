/-
  Several texts in one: Reg, Ite, PartM, PartN, MrkB, Held. No condition on any program.
-/
import Derived.OrdersHeld
import Derived.StillTail
import Derived.Deep.RegionHeld
import Derived.Lib.Hide
import Derived.Laws.OwnMore
import Derived.Test.YtmdlginjblnfoaaGreatCzA
import Derived.Test.YtmdlginjblnfoaaGreatCzE
import Derived.Test.YtmdlginjblnfoaaGreatCzC

/- Regions that draw their order, whose last operations store into cells that the others load: a condition on the world that need hold only behind the operations before number T; each operation from T on waits for all of these. No condition on any program. -/
namespace Go.Proofs.YtmdlginjblnfoaaGreat
open Go.RowKit
set_option linter.unusedVariables false

section
variable {P : Program} {md : Region.Mode} {ops : Array Oper} {Q : Exit → Act → World → Prop} {S : World → Prop} {T : List Nat}
/-- whatever order is drawn; behind each operation before number T the condition S holds -/
def anyU (P : Program) (md : Region.Mode) (ops : Array Oper) (Q : Exit → Act → World → Prop) (S : World → Prop) (T : List Nat) : Nat → Array Bool → Act → World → Prop
  | 0, listed, a, w => Region.ready md ops listed = [] ∧ Q .normal a w
  | fuel + 1, listed, a, w => (Region.ready md ops listed = [] → Q .normal a w) ∧
    ∀ i ∈ Region.ready md ops listed, wpOp P ops Q i (fun a' w' => (T.contains i = false → S w') ∧ anyU P md ops Q S T fuel (listed.setIfInBounds i true) a' w') a w
theorem any_of_U : ∀ (fuel : Nat) (listed : Array Bool) (a : Act) (w : World), anyU P md ops Q S T fuel listed a w → wpAny P md ops Q fuel listed a w
  | 0, _, _, _, h => h
  | fuel + 1, _, _, _, h => ⟨h.1, fun i hi => wpOp_mono (fun _ _ k => any_of_U fuel _ _ _ k.2) (h.2 i hi)⟩
/-- whom an operation waits for -/
def onsOf (md : Region.Mode) (ops : Array Oper) (j : Nat) : List Nat := match ops[j]? with
  | some oj => (oj.after.toList.filter fun e => Region.binds md e).map fun e => e.on
  | none => []
/-- number j waits for number i, at first or at second hand -/
def ancB (md : Region.Mode) (ops : Array Oper) : Nat → Nat → Nat → Bool
  | 0, j, i => (onsOf md ops j).contains i
  | f + 1, j, i => (onsOf md ops j).contains i || (onsOf md ops j).any fun k => ancB md ops f k i
/-- each of the operations T has come up, or waits for number i -/
def waitsB (md : Region.Mode) (ops : Array Oper) (T : List Nat) (listed : Array Bool) (i : Nat) : Bool := T.all fun t => listed.getD t false || ancB md ops 7 t i
def Closed (md : Region.Mode) (ops : Array Oper) (listed : Array Bool) : Prop := ∀ j k, listed.getD j false = true → k ∈ onsOf md ops j → listed.getD k false = true
def closedB (md : Region.Mode) (ops : Array Oper) (listed : Array Bool) : Bool := (List.range ops.size).all fun j => !listed.getD j false || (onsOf md ops j).all fun k => listed.getD k false
theorem closedB_is {listed : Array Bool} (h : closedB md ops listed = true) : Closed md ops listed := fun j k hj hk => by
  have hjl : j < ops.size := by
    unfold onsOf at hk
    split at hk
    · rename_i oj ho; exact (Array.getElem?_eq_some_iff.1 ho).1
    · cases hk
  have := List.all_eq_true.1 h j (List.mem_range.2 hjl)
  rw [hj, Bool.not_true, Bool.false_or, List.all_eq_true] at this
  exact this k hk
theorem ready_ons {listed : Array Bool} {j : Nat} (h : j ∈ Region.ready md ops listed) : ∀ k ∈ onsOf md ops j, listed.getD k false = true := fun k hk => by
  obtain ⟨_, oj, hoj, hall⟩ := mem_ready.1 h
  unfold onsOf at hk
  rw [hoj] at hk
  simp only [List.mem_map, List.mem_filter] at hk
  obtain ⟨e, ⟨he, hb⟩, rfl⟩ := hk
  exact hall e (by simpa using he) hb
theorem anc_listed {listed : Array Bool} (hc : Closed md ops listed) : ∀ {f j i : Nat}, ancB md ops f j i = true → (∀ k ∈ onsOf md ops j, listed.getD k false = true) → listed.getD i false = true
  | 0, j, i, h, hj => hj i (by simpa [ancB] using h)
  | f + 1, j, i, h, hj => by
    rw [ancB, Bool.or_eq_true] at h
    rcases h with h | h
    · exact hj i (by simpa using h)
    · obtain ⟨k, hk, h⟩ := List.any_eq_true.1 h
      exact anc_listed hc h fun m hm => hc k m (hj k hk) hm
theorem Closed.set {listed : Array Bool} {j : Nat} (hc : Closed md ops listed) (h : j ∈ Region.ready md ops listed) : Closed md ops (listed.setIfInBounds j true) := fun a k ha hk => by
  by_cases e : j = a
  · subst e; exact getD_set_true (ready_ons h k hk)
  · rw [getD_set_ne false e] at ha
    exact getD_set_true (hc a k ha hk)
theorem anyU_first {i : Nat} {oi : Oper} {v : Value} (hi : ops[i]? = some oi) (hsel : ∀ (j : Nat) (o : Oper) cs b, ops[j]? = some o → o.op ≠ .select cs b)
    (hQ : ∀ c a w, Q (.panic c) (a.put oi.dst v) w → Q (.panic c) a w) :
    ∀ (fuel : Nat) (listed : Array Bool) (a : Act) (w : World),
      (∀ j oj, ops[j]? = some oj → j ≠ i → listed.getD j true = false → (∀ e ∈ oj.after, Region.binds md e = true → e.on ≠ i) → oi.apart ops oj = true) →
      Closed md ops listed → waitsB md ops T listed i = true → i ∈ Region.ready md ops listed → YieldsIf P ops S oi v a → S w →
      anyU P md ops Q S T fuel (listed.setIfInBounds i true) (a.put oi.dst v) w → anyU P md ops Q S T (fuel + 1) listed a w := by
  -- nobody who waits for number i is ready while i is not listed
  have hno : ∀ (listed : Array Bool) (j : Nat) (oj : Oper), i ∈ Region.ready md ops listed → (∀ e ∈ oj.after, Region.binds md e = true → listed.getD e.on false = true) → ∀ e ∈ oj.after, Region.binds md e = true → e.on ≠ i := by
    intro listed j oj hr hall e he hb heq
    have h1 := hall e he hb
    have h0 := (mem_ready.1 hr).1
    rw [heq] at h1
    rcases Nat.lt_or_ge i listed.size with h' | h'
    · simp [h'] at h0 h1; rw [h0] at h1; cases h1
    · simp [Array.getElem?_eq_none h'] at h1
  have hlow : ∀ (listed : Array Bool) (j : Nat), Closed md ops listed → waitsB md ops T listed i = true → i ∈ Region.ready md ops listed → j ∈ Region.ready md ops listed → T.contains j = false := by
    intro listed j hc hw hr hj
    rw [Bool.eq_false_iff]
    intro hT
    have h2 := List.all_eq_true.1 hw j (by simpa using hT)
    have hju := (mem_ready.1 hj).1
    have hjn : listed.getD j false = false := by
      rcases Nat.lt_or_ge j listed.size with h' | h'
      · simp [h'] at hju ⊢; exact hju
      · simp [Array.getElem?_eq_none h']
    rw [hjn, Bool.false_or] at h2
    have h1 := anc_listed hc h2 (ready_ons hj)
    have h0 := (mem_ready.1 hr).1
    rcases Nat.lt_or_ge i listed.size with h' | h'
    · simp [h'] at h0 h1; rw [h0] at h1; cases h1
    · simp [Array.getElem?_eq_none h'] at h1
  intro fuel
  induction fuel with
  | zero =>
    intro listed a w _ hc hw hr hy hS H
    refine ⟨fun h => (by rw [h] at hr; cases hr), fun j hj => ?_⟩
    by_cases hji : j = i
    · subst hji; exact hy.wpOp hi hS ⟨fun _ => hS, H⟩
    · have h1 := ready_mono hj hji
      rw [H.1] at h1; cases h1
  | succ fuel ih =>
    intro listed a w hfree hc hw hr hy hS H
    refine ⟨fun h => (by rw [h] at hr; cases hr), fun j hj => ?_⟩
    by_cases hji : j = i
    · subst hji; exact hy.wpOp hi hS ⟨fun _ => hS, H⟩
    · have hjT := hlow listed j hc hw hr hj
      have h1 := H.2 j (ready_mono hj hji)
      obtain ⟨hjun, oj, hoj, hall⟩ := mem_ready.1 hj
      have h2 := wpOp_putIf hoj (hfree j oj hoj hji hjun (hno listed j oj hr hall)) (fun cs b => hsel i oi cs b hi) (fun cs b => hsel j oj cs b hoj) hQ hy h1
      refine wpOp_mono (fun a' w' h3 => ⟨h3.2.1, ih (listed.setIfInBounds j true) a' w' (fun k ok hk hki hun hn => ?_) (hc.set hj) ?_ (ready_mono hr (Ne.symm hji)) h3.1 (h3.2.1 hjT) ?_⟩) h2
      · refine hfree k ok hk hki ?_ hn
        by_cases hjk : j = k
        · rw [← hjk]; exact hjun
        · rwa [getD_set_ne true hjk] at hun
      · unfold waitsB at hw ⊢
        rw [List.all_eq_true] at hw ⊢
        intro t ht
        have h5 := hw t ht
        rw [Bool.or_eq_true] at h5 ⊢
        exact h5.imp getD_set_true id
      · rw [Array.setIfInBounds_comm _ _ hji]
        exact h3.2.2
theorem anyU_take {i : Nat} {oi : Oper} {v : Value} {fuel : Nat} {listed : Array Bool} {a : Act} {w : World} (hi : ops[i]? = some oi)
    (hs : (Region.noSelect ops && waitsB md ops T listed i) = true) (hf : (Region.free md ops listed i && closedB md ops listed) = true) (hr : (Region.ready md ops listed).contains i = true)
    (hQ : ∀ c a w, Q (.panic c) (a.put oi.dst v) w → Q (.panic c) a w) (hy : Region.wanted oi (yielded ops a.tmps) = true ∧ ∀ w, S w → (execOp a.eval oi).run P w = .ok (.value v) w) (hS : S w)
    (h : anyU P md ops Q S T fuel (listed.setIfInBounds i true) (a.put oi.dst v) w) : anyU P md ops Q S T (fuel + 1) listed a w := by
  rw [Bool.and_eq_true] at hs hf
  exact anyU_first hi (Region.noSelect_spec hs.1) hQ fuel listed a w (Region.free_spec hi hf.1) (closedB_is hf.2) hs.2 (by simpa using hr) (.inl hy) hS h
/-- each of these comes up next -/
def ReadyU (P : Program) (md : Region.Mode) (ops : Array Oper) (Q : Exit → Act → World → Prop) (S : World → Prop) (T : List Nat) (fuel : Nat) (listed : Array Bool) (a : Act) (w : World) (rs : List Nat) : Prop :=
  ∀ i ∈ rs, wpOp P ops Q i (fun a' w' => (T.contains i = false → S w') ∧ anyU P md ops Q S T fuel (listed.setIfInBounds i true) a' w') a w
theorem ReadyU.nil {fuel : Nat} {listed : Array Bool} {a : Act} {w : World} : ReadyU P md ops Q S T fuel listed a w [] := fun _ h => by cases h
theorem ReadyU.cons {fuel : Nat} {listed : Array Bool} {a : Act} {w : World} {i : Nat} {o : Oper} {rs : List Nat} (ho : ops[i]? = some o)
    (h : ∀ K' : Act → World → Prop, Shut (∀ a w, ((T.contains i = false → S w) ∧ anyU P md ops Q S T fuel (listed.setIfInBounds i true) a w) → K' a w) → if Region.wanted o (yielded ops a.tmps) = true then Oper.wp P o a w K' Q else K' (a.put o.dst undef) w)
    (hs : ReadyU P md ops Q S T fuel listed a w rs) : ReadyU P md ops Q S T fuel listed a w (i :: rs) := fun j hj => by
  rcases List.mem_cons.1 hj with rfl | hj
  · exact wpOp_step ho (fun K' hK => h K' hK)
  · exact hs j hj
theorem anyU_ready {rs : List Nat} {fuel : Nat} {listed : Array Bool} {a : Act} {w : World} (hr : Region.ready md ops listed = rs) (hne : rs ≠ [])
    (h : ReadyU P md ops Q S T fuel listed a w rs) : anyU P md ops Q S T (fuel + 1) listed a w := ⟨fun h0 => absurd (hr ▸ h0) hne, hr ▸ h⟩
theorem anyU_done {listed : Array Bool} {a : Act} {w : World} (hr : Region.ready md ops listed = []) (h : Q .normal a w) : ∀ fuel, anyU P md ops Q S T fuel listed a w
  | 0 => ⟨hr, h⟩
  | _ + 1 => ⟨fun _ => h, by rw [hr]; simp⟩
theorem nameU {fuel : Nat} {listed : Array Bool} {a : Act} {w : World} (h : ∀ W, Hid (W = w) → anyU P md ops Q S T fuel listed a W) : anyU P md ops Q S T fuel listed a w := h w (Lib.hid rfl)
theorem wp_region_U {id : Nat} {a : Act} {w : World} (S : World → Prop) (T : List Nat) (hm : P.follows .mixedOrders = true)
    (h : anyU P .any ops Q S T ops.size (Array.replicate ops.size false) a w.drew) : (Code.region id ops true).wp P Q a w :=
  wp_region_any hm (any_of_U _ _ _ _ h)
end

/-- what two rows' growing leaves: blocks that are neither's row are as they were -/
structure Grown2 (w w' : World) (r1 r2 : Option Nat) : Prop where
  os : w'.os = w.os
  tape : w'.tape = w.tape
  output : w'.output = w.output
  size : w.heap.size ≤ w'.heap.size
  block : ∀ k, k < w.heap.size → some k ≠ r1 → some k ≠ r2 → w'.heap[k]? = w.heap[k]?
theorem Grown2.refl (w : World) (r1 r2 : Option Nat) : Grown2 w w r1 r2 := ⟨rfl, rfl, rfl, Nat.le_refl _, fun _ _ _ _ => rfl⟩
theorem Grown2.none {a b c : World} {r1 r2 : Option Nat} (h : Grown2 a b r1 r2) (k : b.grownBy c none) : Grown2 a c r1 r2 :=
  ⟨k.os.trans h.os, k.tape.trans h.tape, k.output.trans h.output, Nat.le_trans h.size k.size, fun i hi h1 h2 => (k.block i (Nat.lt_of_lt_of_le hi h.size) (by simp)).trans (h.block i hi h1 h2)⟩
theorem Grown2.fst {a b c : World} {r1 r2 : Option Nat} (h : Grown2 a b r1 r2) (k : b.grownBy c r1) : Grown2 a c r1 r2 :=
  ⟨k.os.trans h.os, k.tape.trans h.tape, k.output.trans h.output, Nat.le_trans h.size k.size, fun i hi h1 h2 => (k.block i (Nat.lt_of_lt_of_le hi h.size) h1).trans (h.block i hi h1 h2)⟩
end Go.Proofs.YtmdlginjblnfoaaGreat

/- One small lemma. No condition on any program. -/
namespace Go.Proofs.YtmdlginjblnfoaaGreat
theorem ite_is {c : Prop} [Decidable c] {x y : Prop} (h : c) (k : x) : if c then x else y := by rw [if_pos h]; exact k
end Go.Proofs.YtmdlginjblnfoaaGreat

/- Memory of the network that a call builds out of kept ports: a map of ends to ends of the call's own; three slices that grow in one struct. No condition on any program. -/
namespace Go.Proofs.YtmdlginjblnfoaaGreat
open Go.ChangeShapes Go.WideShapes Go.ChangeAt Go.RowKit
set_option linter.unusedVariables false

theorem results_cell1 {fn : Func} {t : Tmp} {ty : TypeId} (h : fn.results = #[.cell t ty]) (tmps : Array Value) (P : Program) (w : World) {p : Addr} {v : Value} (ha : tmps.getD t undef = .pointer (some p)) (hl : (loadVar ty p).run P w = .ok v w) :
    (results fn tmps).run P w = .ok v w := by
  have ha' : tmps[t]?.getD undef = .pointer (some p) := by simpa using ha
  simp [results, h, ha', asAddr, hl]
theorem load_net {w : World} {g : Nat} {a b c : Value} (h : BoxN w g #[a, b, c] 32) : (loadVar 32 ⟨g, 0, none⟩).run Tryz.prog w = .ok (.agg #[a, b, c]) w := by
  have k0 : w.cell? ⟨g, 0, none⟩ = some a := h.cell 0 (by simp)
  have k1 : w.cell? ⟨g, 1, none⟩ = some b := h.cell 1 (by simp)
  have k2 : w.cell? ⟨g, 2, none⟩ = some c := h.cell 2 (by simp)
  unfold loadVar
  simp [go_sem, k0, k1, k2]
/-- a map whose values are held as they are -/
def rdH (v : Value) : Option (DataW Value × List MemPlace) := some (.held v, [])
/-- an end as a value -/
def endP (p : Po) : Value := .agg #[.int .i64 ((p.1 : Nat) : Int), .int .i64 ((p.2 : Nat) : Int)]
/-- block b is a map with ends as keys that reads as U; it has at most m entries -/
def MpE (w : World) (b : Nat) (U : Int → Int → Po) (m : Nat) : Prop :=
  ∃ (n : Nat) (D : DataW Value), n ≤ m ∧ w.ownsMap Tryz.prog 66 rdH b n D ∧ Maps.IsMap D ∧ ∀ x y, I64 x → I64 y → D.atKey (kl x y) (.held (endP (0, 0))) = .held (endP (U x y))
def setUE (U : Int → Int → Po) (x y : Int) (v : Po) : Int → Int → Po := fun a b => if a = x ∧ b = y then v else U a b
theorem setUE_at (U : Int → Int → Po) (x y : Int) (v : Po) : setUE U x y v x y = v := by unfold setUE; rw [if_pos ⟨rfl, rfl⟩]
theorem setUE_ne {U : Int → Int → Po} {x y a b : Int} {v : Po} (h : ¬ (a = x ∧ b = y)) : setUE U x y v a b = U a b := by unfold setUE; rw [if_neg h]
section
variable {w w' : World} {b m : Nat} {U : Int → Int → Po}
theorem MpE.new (w : World) : MpE (w.alloc (.map #[] 0)) w.heap.size (fun _ _ => (0, 0)) 0 :=
  ⟨0, .map [], Nat.le_refl _, World.ownsMap_made _ _ _ _, Maps.isMap_empty, fun x y _ _ => rfl⟩
theorem MpE.lt (h : MpE w b U m) : b < w.heap.size := let ⟨_, _, _, h, _⟩ := h; h.lt
theorem MpE.mono (h : MpE w b U m) {m' : Nat} (hm : m ≤ m') : MpE w b U m' := let ⟨n, D, h1, h2⟩ := h; ⟨n, D, by omega, h2⟩
theorem MpE.kept {row : Option Nat} (h : MpE w b U m) (hg : w.grownBy w' row) (hr : some b ≠ row) : MpE w' b U m := let ⟨n, D, h1, h2, h3⟩ := h; ⟨n, D, h1, h2.kept hg hr, h3⟩
theorem MpE.far {row : Option Nat} (h : MpE w b U m) (hg : w.grownBy w' row) (hr : ∀ g, row = some g → g ≠ b) : MpE w' b U m := h.kept hg (fun e => hr b e.symm rfl)
theorem MpE.still (h : MpE w b U m) (hg : w.grownBy w' none) : MpE w' b U m := h.kept hg (by simp)
theorem MpE.look (h : MpE w b U m) {x y : Int} (hx : I64 x) (hy : I64 y) : (Instr.lookup 84 (.map (some b)) (.agg #[.int .i64 x, .int .i64 y]) false).run Tryz.prog w = .ok (endP (U x y)) w := by
  obtain ⟨n, D, _, h2, h3, h4⟩ := h
  obtain ⟨v, ps, hrun, hv⟩ := h2.lookup (R := rdH) Tryz.keyedE Tryz.underlying84 (show (zeroValue 66).run Tryz.prog w = .ok (endP (0, 0)) w by kernel_rfl) rfl (keyE hx hy)
  rw [h4 x y hx hy] at hv
  have hv1 : some ((DataW.held v : DataW Value), ([] : List MemPlace)) = some (DataW.held (endP (U x y)), ps) := hv
  have hv2 := Option.some.inj hv1
  have this : v = endP (U x y) := DataW.held.inj (Prod.mk.inj hv2).1
  rw [hrun, this]
theorem MpE.put (h : MpE w b U m) (hm : m < 1099511627776) {x y : Int} (hx : I64 x) (hy : I64 y) (v : Po) :
    ∃ w', (Instr.mapUpdate 84 (.map (some b)) (.agg #[.int .i64 x, .int .i64 y]) (endP v)).run Tryz.prog w = .ok () w' ∧ w.grownBy w' (some b) ∧ MpE w' b (setUE U x y v) (m + 1) := by
  obtain ⟨n, D, h1, h2, h3, h4⟩ := h
  obtain ⟨w', hU, hown, hg⟩ := h2.update (R := rdH) Tryz.keyedE Tryz.underlying84 (show n < maxLen by unfold maxLen; omega) (keyE hx hy) (show rdH (endP v) = some (.held (endP v), []) from rfl)
  refine ⟨w', hU, hg, n + 1, D.put (kl x y) (.held (endP v)), by omega, hown, h3.put _ _, fun a c ha hc => ?_⟩
  by_cases e : a = x ∧ c = y
  · obtain ⟨rfl, rfl⟩ := e
    rw [Maps.atKey_put_same h3 (by trivial), setUE_at]
  · rw [Maps.atKey_put_other (fun e2 => e (kl_inj ha hc hx hy e2)), h4 a c ha hc, setUE_ne e]
end

/-- no two own one block -/
def Ap (u v : Value) : Prop := ∀ g, u.ownBlock = some g → v.ownBlock ≠ some g
theorem Ap.symm {u v : Value} (h : Ap u v) : Ap v u := fun g h1 h2 => h g h2 h1
theorem Ap.nil (v : Value) : Ap (.slice none 0 0) v := fun g h => by cases h
theorem Ap.keeps {u v : Value} (h : Ap u v) : u.ownBlock = none ∨ u.ownBlock ≠ v.ownBlock := by
  cases hu : u.ownBlock with
  | none => exact .inl rfl
  | some g => right; exact fun e => h g hu e.symm
theorem Ap.new {u v v' : Value} {n : Nat} (h : Ap u v) (hu : ∀ g, u.ownBlock = some g → g < n) (hv : v'.ownBlock = v.ownBlock ∨ ∃ g, v'.ownBlock = some g ∧ n ≤ g) : Ap u v' := fun g h1 h2 => by
  rcases hv with e | ⟨g', e, hg⟩
  · exact h g h1 (by rw [← e]; exact h2)
  · rw [e] at h2; injection h2 with h2; have := hu g h1; omega
theorem OwnE.weak {w : World} {base base' : Nat} {e : TypeId} {v : Value} {l : List Po} (h : OwnE w base e v l) (hb : base' ≤ base) : OwnE w base' e v l := by
  obtain ⟨h1, h2⟩ := h
  refine ⟨h1, ?_⟩
  rcases h2 with h2 | ⟨g, cap, cur, e1, hg, hh, hn, hm, hs, ht⟩
  · exact .inl h2
  · exact .inr ⟨g, cap, cur, e1, Nat.le_trans hb hg, hh, hn, hm, hs, ht⟩
theorem own_appP {w : World} {base : Nat} {e : TypeId} {v : Value} {ps : List Int} {z : Int} (h : w.ownsRow base e 1 v (ps.length + 1) (ps.map (Value.int .i64) ++ [.int .i64 z])) : OwnI w base e v (ps ++ [z]) := by
  unfold OwnI Own
  rw [List.map_append]
  simpa using h
theorem netIds {w : World} {lo hi : Nat} {v1 v2 v3 : Value} {N : NetD} (h : Net w lo hi (.agg #[v1, v2, v3]) N) : IntS w lo hi v2 N.ids := by
  obtain ⟨a, b, c, e, _, h1, _⟩ := h
  simp only [Value.agg.injEq, Array.mk.injEq, List.cons.injEq, and_true] at e
  obtain ⟨rfl, rfl, rfl⟩ := e
  exact h1
theorem netIns {w : World} {lo hi : Nat} {v1 v2 v3 : Value} {N : NetD} (h : Net w lo hi (.agg #[v1, v2, v3]) N) : IntS w lo hi v3 N.inputs := by
  obtain ⟨a, b, c, e, _, _, h1⟩ := h
  simp only [Value.agg.injEq, Array.mk.injEq, List.cons.injEq, and_true] at e
  obtain ⟨rfl, rfl, rfl⟩ := e
  exact h1
/-- three slices that a call owns: rows of ends, and two rows of numbers -/
structure GN (w : World) (base : Nat) (vE vD vI : Value) (rows : List (List Po)) (ids ins : List Int) : Prop where
  intro ::
  all : ∃ us : List Value, us.length = rows.length ∧ Own w base 64 vE us ∧ OwnI w base 3 vD ids ∧ OwnI w base 3 vI ins ∧
    (∀ j, j < rows.length → ∃ u, us[j]? = some u ∧ OwnE w base 66 u (nthL rows j) ∧ Ap u vE ∧ Ap u vD ∧ Ap u vI) ∧ Ap vE vD ∧ Ap vE vI ∧ Ap vD vI
section
variable {w w' : World} {base : Nat} {vE vD vI : Value} {rows : List (List Po)} {ids ins : List Int}
theorem GN.nil (w : World) (base : Nat) : GN w base (.slice none 0 0) (.slice none 0 0) (.slice none 0 0) [] [] [] :=
  ⟨[], rfl, Own.nil _ _ _, OwnI.nil _ _ _, OwnI.nil _ _ _, fun j hj => absurd hj (by simp), Ap.nil _, Ap.nil _, Ap.nil _⟩
theorem GN.ltE (h : GN w base vE vD vI rows ids ins) : ∀ g, vE.ownBlock = some g → base ≤ g ∧ g < w.heap.size := let ⟨_, _, h, _⟩ := h.all; h.lt
theorem GN.ltD (h : GN w base vE vD vI rows ids ins) : ∀ g, vD.ownBlock = some g → base ≤ g ∧ g < w.heap.size := let ⟨_, _, _, h, _⟩ := h.all; h.lt
theorem GN.ltI (h : GN w base vE vD vI rows ids ins) : ∀ g, vI.ownBlock = some g → base ≤ g ∧ g < w.heap.size := let ⟨_, _, _, _, h, _⟩ := h.all; h.lt
theorem GN.idsO (h : GN w base vE vD vI rows ids ins) : OwnI w base 3 vD ids := let ⟨_, _, _, h, _⟩ := h.all; h
theorem GN.insO (h : GN w base vE vD vI rows ids ins) : OwnI w base 3 vI ins := let ⟨_, _, _, _, h, _⟩ := h.all; h
theorem GN.lenE (h : GN w base vE vD vI rows ids ins) : ∃ A c, vE = .slice A rows.length c ∧ rows.length ≤ c ∧ c ≤ maxLen := by
  obtain ⟨us, h1, h2, _⟩ := h.all
  obtain ⟨A, c, e, a1, a2, _⟩ := h2.form
  exact ⟨A, c, by rw [e, h1], by omega, a2⟩
/-- writes elsewhere -/
theorem GN.keptB {row : Option Nat} (h : GN w base vE vD vI rows ids ins) (hg : w.grownBy w' row) (hr : ∀ g, row = some g → g < base) : GN w' base vE vD vI rows ids ins := by
  obtain ⟨us, h1, h2, h3, h4, h5, h6⟩ := h.all
  have hk : ∀ v : Value, (∀ g, v.ownBlock = some g → base ≤ g ∧ g < w.heap.size) → v.ownBlock = none ∨ v.ownBlock ≠ row := fun v hv => by
    cases e : v.ownBlock with
    | none => exact .inl rfl
    | some g => right; intro e2; have := hr g e2.symm; have := (hv g e).1; omega
  refine ⟨us, h1, h2.kept hg (hk _ h2.lt), OwnI.kept h3 hg (hk _ h3.lt), OwnI.kept h4 hg (hk _ h4.lt), fun j hj => ?_, h6⟩
  obtain ⟨u, a1, a2, a3⟩ := h5 j hj
  exact ⟨u, a1, a2.kept hg (hk _ a2.lt), a3⟩
theorem GN.still (h : GN w base vE vD vI rows ids ins) (hg : w.grownBy w' none) : GN w' base vE vD vI rows ids ins := h.keptB hg (fun g e => by cases e)
/-- numbers behind the third -/
theorem GN.addI (h : GN w base vE vD vI rows ids ins) {vI' : Value} {x : Int} (hg : w.grownBy w' vI.ownBlock) (ho : OwnI w' base 3 vI' (ins ++ [x])) (hv : vI'.ownBlock = vI.ownBlock ∨ ∃ g, vI'.ownBlock = some g ∧ w.heap.size ≤ g) : GN w' base vE vD vI' rows ids (ins ++ [x]) := by
  obtain ⟨us, h1, h2, h3, h4, h5, h6, h7, h8⟩ := h.all
  refine ⟨us, h1, h2.kept hg h7.keeps, OwnI.kept h3 hg h8.keeps, ho, fun j hj => ?_, h6, h7.new (fun g e => (h2.lt g e).2) hv, h8.new (fun g e => (h3.lt g e).2) hv⟩
  obtain ⟨u, a1, a2, a3, a4, a5⟩ := h5 j hj
  exact ⟨u, a1, a2.kept hg a5.keeps, a3, a4, a5.new (fun g e => (a2.lt g e).2) hv⟩
/-- numbers behind the second -/
theorem GN.addD (h : GN w base vE vD vI rows ids ins) {vD' : Value} {x : Int} (hg : w.grownBy w' vD.ownBlock) (ho : OwnI w' base 3 vD' (ids ++ [x])) (hv : vD'.ownBlock = vD.ownBlock ∨ ∃ g, vD'.ownBlock = some g ∧ w.heap.size ≤ g) : GN w' base vE vD' vI rows (ids ++ [x]) ins := by
  obtain ⟨us, h1, h2, h3, h4, h5, h6, h7, h8⟩ := h.all
  refine ⟨us, h1, h2.kept hg h6.keeps, ho, OwnI.kept h4 hg h8.symm.keeps, fun j hj => ?_, h6.new (fun g e => (h2.lt g e).2) hv, h7, ((h8.symm).new (fun g e => (h4.lt g e).2) hv).symm⟩
  obtain ⟨u, a1, a2, a3, a4, a5⟩ := h5 j hj
  exact ⟨u, a1, a2.kept hg a4.keeps, a3, a4.new (fun g e => (a2.lt g e).2) hv, a5⟩
/-- what it reads as -/
theorem GN.net (h : GN w base vE vD vI rows ids ins) : Net w base w.heap.size (.agg #[vE, vD, vI]) ⟨rows.map castL, ids, ins⟩ := by
  obtain ⟨us, h1, h2, h3, h4, h5, _⟩ := h.all
  refine ⟨vE, vD, vI, rfl, ⟨fun j => us.getD j undef, ?_, fun j hj => ?_⟩, h3.ints, h4.ints⟩
  · have := Sl.of_own (f := fun j => us.getD j undef) h2 (fun j hj => by simp at hj; simp [hj])
    show Sl w base w.heap.size 1 vE (rows.map castL).length _
    rw [List.length_map, ← h1]
    exact this
  · simp only [List.length_map] at hj
    obtain ⟨u, a1, a2, _⟩ := h5 j hj
    have e : us.getD j undef = u := by simp [a1]
    show EndS w base w.heap.size (us.getD j undef) _
    rw [e]
    have := a2.ends
    have e2 : nthL (rows.map castL) j = castL (nthL rows j) := by simp [nthL, hj]
    show EndS w base w.heap.size u (nthL (rows.map castL) j)
    rw [e2]; exact this
end

theorem good_insl {N : NetD} (hg : N.good = true) : N.inputs.length = N.ends.length := by
  unfold NetD.good NetD.headOk at hg
  simp only [Bool.and_eq_true] at hg
  have hi := hg.1.2.2
  unfold insGood at hi
  simp only [Bool.and_eq_true, decide_eq_true_eq] at hi
  omega
theorem good_idsl {N : NetD} (hg : N.good = true) : N.ids.length = 0 ∨ N.ids.length = N.ends.length := by
  unfold NetD.good NetD.headOk at hg
  simp only [Bool.and_eq_true] at hg
  have hi := hg.1.2.1
  unfold idsGood at hi
  simp only [Bool.and_eq_true, Bool.or_eq_true, decide_eq_true_eq] at hi
  omega
/-! plain: what the network of kept ports is -/
def cntK (kp : Nat → Nat → Bool) (v m : Nat) : Nat := ((List.range m).filter (kp v)).length
theorem cntK_succ (kp : Nat → Nat → Bool) (v m : Nat) : cntK kp v (m + 1) = cntK kp v m + if kp v m = true then 1 else 0 := by
  unfold cntK
  rw [List.range_succ, List.filter_append, List.length_append]
  by_cases h : kp v m = true
  · rw [if_pos h]; simp [h]
  · rw [if_neg h]; simp [h]
theorem cntK_le (kp : Nat → Nat → Bool) (v m : Nat) : cntK kp v m ≤ m := by
  unfold cntK; exact Nat.le_trans (List.length_filter_le _ _) (by simp)
/-- the places of the kept ports of the node with index k, up to port m -/
def rowU (kp : Nat → Nat → Bool) (U : Int → Int → Po) (v k : Nat) : Nat → Int → Int → Po
  | 0 => U
  | m + 1 => if kp v m = true then setUE (rowU kp U v k m) v m (k, cntK kp v m) else rowU kp U v k m
def allU (N : NetD) (kp : Nat → Nat → Bool) (zs : List Int) : Nat → Int → Int → Po
  | 0 => fun _ _ => (0, 0)
  | k + 1 => rowU kp (allU N kp zs k) (nth zs k).toNat k (nthL N.ends (nth zs k).toNat).length
def partRow (N : NetD) (kp : Nat → Nat → Bool) (U : Int → Int → Po) (v m : Nat) : List Po := ((List.range m).filter (kp v)).map fun i => U (nthE (nthL N.ends v) i).1 (nthE (nthL N.ends v) i).2
theorem partRow_len (N : NetD) (kp : Nat → Nat → Bool) (U : Int → Int → Po) (v m : Nat) : (partRow N kp U v m).length = cntK kp v m := by simp [partRow, cntK]
theorem partRow_yes {N : NetD} {kp : Nat → Nat → Bool} {U : Int → Int → Po} {v m : Nat} (h : kp v m = true) : partRow N kp U v (m + 1) = partRow N kp U v m ++ [U (nthE (nthL N.ends v) m).1 (nthE (nthL N.ends v) m).2] := by simp [partRow, List.range_succ, h]
theorem partRow_no {N : NetD} {kp : Nat → Nat → Bool} {U : Int → Int → Po} {v m : Nat} (h : kp v m = false) : partRow N kp U v (m + 1) = partRow N kp U v m := by simp [partRow, List.range_succ, h]
def partRows (N : NetD) (kp : Nat → Nat → Bool) (U : Int → Int → Po) (zs : List Int) : List (List Po) := zs.map fun z => partRow N kp U z.toNat (nthL N.ends z.toNat).length
def pickL (l zs : List Int) : List Int := zs.map fun z => nth l z.toNat
def partN (N : NetD) (zs : List Int) (kp : Nat → Nat → Bool) : NetD :=
  ⟨(partRows N kp (allU N kp zs zs.length) zs).map castL, if 0 < N.ids.length then pickL N.ids zs else [], pickL N.inputs zs⟩
theorem partRows_take {N : NetD} {kp : Nat → Nat → Bool} {U : Int → Int → Po} {zs : List Int} {k : Nat} (h : k < zs.length) : partRows N kp U (zs.take (k + 1)) = partRows N kp U (zs.take k) ++ [partRow N kp U (nth zs k).toNat (nthL N.ends (nth zs k).toNat).length] := by
  unfold partRows; rw [List.take_succ_eq_append_getElem h, List.map_append, nth_eq h]; rfl
theorem pickL_take {l zs : List Int} {k : Nat} (h : k < zs.length) : pickL l (zs.take (k + 1)) = pickL l (zs.take k) ++ [nth l (nth zs k).toNat] := by
  unfold pickL; rw [List.take_succ_eq_append_getElem h, List.map_append, nth_eq h]; rfl
theorem partRows_len (N : NetD) (kp : Nat → Nat → Bool) (U : Int → Int → Po) (zs : List Int) : (partRows N kp U zs).length = zs.length := by simp [partRows]
theorem pickL_len (l zs : List Int) : (pickL l zs).length = zs.length := by simp [pickL]

end Go.Proofs.YtmdlginjblnfoaaGreat

/- Three slices that grow in turn, the rows apart from each other; a network whose slices lie in blocks of their own, in no order. -/
namespace Go.Proofs.YtmdlginjblnfoaaGreat
open Go.ChangeShapes Go.WideShapes Go.ChangeAt Go.RowKit
set_option linter.unusedVariables false

/-- three slices that a call owns: rows of ends, and two rows of numbers -/
structure GNT (w : World) (base T : Nat) (vE vD vI : Value) (rows : List (List Po)) (ids ins : List Int) : Prop where
  intro ::
  all : ∃ us : List Value, us.length = rows.length ∧ Own w base 64 vE us ∧ OwnI w base 3 vD ids ∧ OwnI w base 3 vI ins ∧
    (∀ j, j < rows.length → ∃ u, us[j]? = some u ∧ OwnE w base 66 u (nthL rows j) ∧ Ap u vE ∧ Ap u vD ∧ Ap u vI) ∧ Ap vE vD ∧ Ap vE vI ∧ Ap vD vI ∧
    (∀ (j : Nat) (u : Value), us[j]? = some u → ∀ g, u.ownBlock = some g → g < T) ∧ (∀ (i j : Nat) (u u' : Value), i < j → us[i]? = some u → us[j]? = some u' → Ap u u')
section
variable {w w' : World} {base T : Nat} {vE vD vI : Value} {rows : List (List Po)} {ids ins : List Int}
theorem GNT.nil (w : World) (base T : Nat) : GNT w base T (.slice none 0 0) (.slice none 0 0) (.slice none 0 0) [] [] [] :=
  ⟨[], rfl, Own.nil _ _ _, OwnI.nil _ _ _, OwnI.nil _ _ _, fun j hj => absurd hj (by simp), Ap.nil _, Ap.nil _, Ap.nil _, fun j u h => absurd h (by simp), fun i j u u' _ h => absurd h (by simp)⟩
theorem GNT.ltE (h : GNT w base T vE vD vI rows ids ins) : ∀ g, vE.ownBlock = some g → base ≤ g ∧ g < w.heap.size := let ⟨_, _, h, _⟩ := h.all; h.lt
theorem GNT.ltD (h : GNT w base T vE vD vI rows ids ins) : ∀ g, vD.ownBlock = some g → base ≤ g ∧ g < w.heap.size := let ⟨_, _, _, h, _⟩ := h.all; h.lt
theorem GNT.ltI (h : GNT w base T vE vD vI rows ids ins) : ∀ g, vI.ownBlock = some g → base ≤ g ∧ g < w.heap.size := let ⟨_, _, _, _, h, _⟩ := h.all; h.lt
theorem GNT.idsO (h : GNT w base T vE vD vI rows ids ins) : OwnI w base 3 vD ids := let ⟨_, _, _, h, _⟩ := h.all; h
theorem GNT.insO (h : GNT w base T vE vD vI rows ids ins) : OwnI w base 3 vI ins := let ⟨_, _, _, _, h, _⟩ := h.all; h
theorem GNT.lenE (h : GNT w base T vE vD vI rows ids ins) : ∃ A c, vE = .slice A rows.length c ∧ rows.length ≤ c ∧ c ≤ maxLen := by
  obtain ⟨us, h1, h2, _⟩ := h.all
  obtain ⟨A, c, e, a1, a2, _⟩ := h2.form
  exact ⟨A, c, by rw [e, h1], by omega, a2⟩
/-- writes elsewhere -/
theorem GNT.keptB {row : Option Nat} (h : GNT w base T vE vD vI rows ids ins) (hg : w.grownBy w' row) (hr : ∀ g, row = some g → g < base) : GNT w' base T vE vD vI rows ids ins := by
  obtain ⟨us, h1, h2, h3, h4, h5, h6⟩ := h.all
  have hk : ∀ v : Value, (∀ g, v.ownBlock = some g → base ≤ g ∧ g < w.heap.size) → v.ownBlock = none ∨ v.ownBlock ≠ row := fun v hv => by
    cases e : v.ownBlock with
    | none => exact .inl rfl
    | some g => right; intro e2; have := hr g e2.symm; have := (hv g e).1; omega
  refine ⟨us, h1, h2.kept hg (hk _ h2.lt), OwnI.kept h3 hg (hk _ h3.lt), OwnI.kept h4 hg (hk _ h4.lt), fun j hj => ?_, h6⟩
  obtain ⟨u, a1, a2, a3⟩ := h5 j hj
  exact ⟨u, a1, a2.kept hg (hk _ a2.lt), a3⟩
theorem GNT.still (h : GNT w base T vE vD vI rows ids ins) (hg : w.grownBy w' none) : GNT w' base T vE vD vI rows ids ins := h.keptB hg (fun g e => by cases e)
/-- numbers behind the third -/
theorem GNT.addI (h : GNT w base T vE vD vI rows ids ins) {vI' : Value} {x : Int} (hg : w.grownBy w' vI.ownBlock) (ho : OwnI w' base 3 vI' (ins ++ [x])) (hv : vI'.ownBlock = vI.ownBlock ∨ ∃ g, vI'.ownBlock = some g ∧ w.heap.size ≤ g) : GNT w' base T vE vD vI' rows ids (ins ++ [x]) := by
  obtain ⟨us, h1, h2, h3, h4, h5, h6, h7, h8, h9⟩ := h.all
  refine ⟨us, h1, h2.kept hg h7.keeps, OwnI.kept h3 hg h8.keeps, ho, fun j hj => ?_, h6, h7.new (fun g e => (h2.lt g e).2) hv, h8.new (fun g e => (h3.lt g e).2) hv, h9⟩
  obtain ⟨u, a1, a2, a3, a4, a5⟩ := h5 j hj
  exact ⟨u, a1, a2.kept hg a5.keeps, a3, a4, a5.new (fun g e => (a2.lt g e).2) hv⟩
/-- numbers behind the second -/
theorem GNT.addD (h : GNT w base T vE vD vI rows ids ins) {vD' : Value} {x : Int} (hg : w.grownBy w' vD.ownBlock) (ho : OwnI w' base 3 vD' (ids ++ [x])) (hv : vD'.ownBlock = vD.ownBlock ∨ ∃ g, vD'.ownBlock = some g ∧ w.heap.size ≤ g) : GNT w' base T vE vD' vI rows (ids ++ [x]) ins := by
  obtain ⟨us, h1, h2, h3, h4, h5, h6, h7, h8, h9⟩ := h.all
  refine ⟨us, h1, h2.kept hg h6.keeps, ho, OwnI.kept h4 hg h8.symm.keeps, fun j hj => ?_, h6.new (fun g e => (h2.lt g e).2) hv, h7, ((h8.symm).new (fun g e => (h4.lt g e).2) hv).symm, h9⟩
  obtain ⟨u, a1, a2, a3, a4, a5⟩ := h5 j hj
  exact ⟨u, a1, a2.kept hg a4.keeps, a3, a4.new (fun g e => (a2.lt g e).2) hv, a5⟩
/-- what it reads as -/
theorem GNT.net (h : GNT w base T vE vD vI rows ids ins) : Net w base w.heap.size (.agg #[vE, vD, vI]) ⟨rows.map castL, ids, ins⟩ := by
  obtain ⟨us, h1, h2, h3, h4, h5, _⟩ := h.all
  refine ⟨vE, vD, vI, rfl, ⟨fun j => us.getD j undef, ?_, fun j hj => ?_⟩, h3.ints, h4.ints⟩
  · have := Sl.of_own (f := fun j => us.getD j undef) h2 (fun j hj => by simp at hj; simp [hj])
    show Sl w base w.heap.size 1 vE (rows.map castL).length _
    rw [List.length_map, ← h1]
    exact this
  · simp only [List.length_map] at hj
    obtain ⟨u, a1, a2, _⟩ := h5 j hj
    have e : us.getD j undef = u := by simp [a1]
    show EndS w base w.heap.size (us.getD j undef) _
    rw [e]
    have := a2.ends
    have e2 : nthL (rows.map castL) j = castL (nthL rows j) := by simp [nthL, hj]
    show EndS w base w.heap.size u (nthL (rows.map castL) j)
    rw [e2]; exact this
end

/-- append of one row of ends onto the first, the row's slice just laid in a block of its own -/
theorem append_gnt {P : Program} {ops : Array Oper} {rest : List Oper} {o : Oper} {a : Act} {Q : Exit → Act → World → Prop} {t : TypeId} {bytes : Nat}
    (ht : P.underlying t = some (.slice 64)) (hinfo : (P.info? 64).map (fun i => (i.zero, i.size, i.bytes)) = some (some (.slice none 0 0), 1, bytes)) (hby : bytes ≤ 64)
    (w : World) (hgd : o.guard = none) {s : Operand} (x : Operand) (ho : o.op = .call { callee := .builtin .append, args := #[s, x], argTypes := #[t, t] })
    {base T : Nat} {vE vD vI : Value} {rows : List (List Po)} {ids ins : List Int} (hown : GNT w base T vE vD vI rows ids ins) {u : Value} {l : List Po} (hu : OwnE w base 66 u l) (huT : ∀ g, u.ownBlock = some g → T ≤ g) (hE : Ap u vE) (hD : Ap u vD) (hI : Ap u vI)
    (te : TypeId) (hs : a.eval s = vE) (hx : a.eval x = .slice (some ⟨w.heap.size, 0, none⟩) 1 1) (hlen : rows.length < 1099511627776) (hbase : base ≤ w.heap.size) (hTw : T ≤ w.heap.size)
    (h : ∀ v' w', GNT w' base w'.heap.size v' vD vI (rows ++ [l]) ids ins → w.grownBy w' vE.ownBlock → wpList P ops Q rest (a.put o.dst v') w') :
    wpList P ops Q (o :: rest) a (w.alloc (.cells #[u] te)) := by
  obtain ⟨us, h1, h2, h3, h4, h5, h6, h7, h8, h9, h10⟩ := hown.all
  obtain ⟨A, c, hf, _⟩ := hu.len
  refine append1 ht hinfo rfl hby w hgd x ho h2 _ te hs hx (by rw [hf]; rfl) (by omega) hbase fun v' w' ho' hg' hat' => h v' w' ?_ hg'
  have hat2 : v'.ownBlock = vE.ownBlock ∨ ∃ g, v'.ownBlock = some g ∧ w.heap.size ≤ g := hat'.imp id fun e => ⟨_, e, by omega⟩
  refine ⟨us ++ [u], by simp [h1], ho', OwnI.kept h3 hg' h6.symm.keeps, OwnI.kept h4 hg' h7.symm.keeps, fun j hj => ?_, ((h6.symm).new (fun g e => (h3.lt g e).2) hat2).symm, ((h7.symm).new (fun g e => (h4.lt g e).2) hat2).symm, h8, fun j u' he g hg => ?_, fun i j ui uj hij hi hj => ?_⟩
  rotate_left
  · have hgs := hg'.size
    rcases Nat.lt_or_ge j us.length with hl | hl
    · rw [List.getElem?_append_left hl] at he
      have := h9 j u' he g hg
      omega
    · have : j = us.length := by have := (List.getElem?_eq_some_iff.1 he).1; simp at this; omega
      subst this
      simp at he
      subst he
      have := (hu.lt g hg).2
      omega
  · rcases Nat.lt_or_ge j us.length with hl | hl
    · rw [List.getElem?_append_left hl] at hj
      rw [List.getElem?_append_left (by omega)] at hi
      exact h10 i j ui uj hij hi hj
    · have : j = us.length := by have := (List.getElem?_eq_some_iff.1 hj).1; simp at this; omega
      subst this
      simp at hj
      subst hj
      rw [List.getElem?_append_left (by omega)] at hi
      intro g hg hg2
      have := h9 i ui hi g hg
      have := huT g hg2
      omega
  by_cases e1 : j < rows.length
  · obtain ⟨u', a1, a2, a3, a4, a5⟩ := h5 j e1
    rw [nthL_append_left e1]
    exact ⟨u', by rw [List.getElem?_append_left (by omega)]; exact a1, a2.kept hg' a3.keeps, a3.new (fun g e => (a2.lt g e).2) hat2, a4, a5⟩
  · obtain rfl : j = rows.length := by simp at hj; omega
    rw [nthL_append_at]
    exact ⟨u, by rw [← h1]; simp, hu.kept hg' hE.keeps, hE.new (fun g e => (hu.lt g e).2) hat2, hD, hI⟩


/-- the blocks of two slices apart (n, m: their lengths) -/
def RA (n : Nat) (v : Value) (m : Nat) (u : Value) : Prop := ∀ g, rowOf n v = some g → rowOf m u ≠ some g
theorem RA.symm {n m : Nat} {v u : Value} (h : RA n v m u) : RA m u n v := fun g h1 h2 => h g h2 h1
theorem Ap.ra {v u : Value} (h : Ap v u) (n m : Nat) : RA n v m u := fun g h1 h2 => by
  unfold rowOf at h1 h2
  split at h1
  · cases h1
  · split at h2
    · cases h2
    · exact h g h1 h2
/-- a network whose slices lie in blocks of their own -/
def NetB (w : World) (lo hi : Nat) (v : Value) (N : NetD) : Prop :=
  ∃ (vE vD vI : Value) (vs : Nat → Value), v = .agg #[vE, vD, vI] ∧ Sl w lo hi 1 vE N.ends.length vs ∧ (∀ i, i < N.ends.length → EndS w lo hi (vs i) (nthL N.ends i)) ∧ IntS w lo hi vD N.ids ∧ IntS w lo hi vI N.inputs ∧
    (∀ i j, i < j → j < N.ends.length → RA (nthL N.ends i).length (vs i) (nthL N.ends j).length (vs j)) ∧
    (∀ i, i < N.ends.length → RA (nthL N.ends i).length (vs i) N.ends.length vE ∧ RA (nthL N.ends i).length (vs i) N.ids.length vD ∧ RA (nthL N.ends i).length (vs i) N.inputs.length vI) ∧
    RA N.ends.length vE N.ids.length vD ∧ RA N.ends.length vE N.inputs.length vI ∧ RA N.ids.length vD N.inputs.length vI
section
variable {w w' : World} {lo hi lo' hi' B l2 h2 : Nat} {v : Value} {N : NetD}
theorem NetB.net (h : NetB w lo hi v N) : Net w lo hi v N := by
  obtain ⟨vE, vD, vI, vs, e, h1, h2, h3, h4, _⟩ := h
  exact ⟨vE, vD, vI, e, ⟨vs, h1, h2⟩, h3, h4⟩
theorem NetB.below (h : NetB w lo hi v N) (hb : Below B w w') (hB : hi ≤ B) : NetB w' lo hi v N := by
  obtain ⟨vE, vD, vI, vs, e, h1, h2, h3, h4, h5⟩ := h
  exact ⟨vE, vD, vI, vs, e, Sl.below h1 hb hB, fun i hi => (h2 i hi).below hb hB, h3.below hb hB, h4.below hb hB, h5⟩
theorem NetB.turned (h : NetB w lo hi v N) (hb : Turned l2 h2 w w') (hB : hi ≤ w.heap.size) (hd : hi ≤ l2 ∨ h2 ≤ lo) : NetB w' lo hi v N := by
  obtain ⟨vE, vD, vI, vs, e, h1, h2, h3, h4, h5⟩ := h
  exact ⟨vE, vD, vI, vs, e, Sl.turned h1 hb hB hd, fun i hi => (h2 i hi).turned hb hB hd, h3.turned hb hB hd, h4.turned hb hB hd, h5⟩
theorem NetB.mono (h : NetB w lo hi v N) (k1 : lo' ≤ lo) (k2 : hi ≤ hi') : NetB w lo' hi' v N := by
  obtain ⟨vE, vD, vI, vs, e, h1, h2, h3, h4, h5⟩ := h
  exact ⟨vE, vD, vI, vs, e, Sl.mono h1 k1 k2, fun i hi => (h2 i hi).mono k1 k2, h3.mono k1 k2, h4.mono k1 k2, h5⟩
end
theorem GNT.up {w : World} {base T T' : Nat} {vE vD vI : Value} {rows : List (List Po)} {ids ins : List Int} (h : GNT w base T vE vD vI rows ids ins) (hT : T ≤ T') : GNT w base T' vE vD vI rows ids ins := by
  obtain ⟨us, h1, h2, h3, h4, h5, h6, h7, h8, h9, h10⟩ := h.all
  exact ⟨us, h1, h2, h3, h4, h5, h6, h7, h8, fun j u he g hg => by have := h9 j u he g hg; omega, h10⟩
theorem GNT.netB {w : World} {base T : Nat} {vE vD vI : Value} {rows : List (List Po)} {ids ins : List Int} (h : GNT w base T vE vD vI rows ids ins) : NetB w base w.heap.size (.agg #[vE, vD, vI]) ⟨rows.map castL, ids, ins⟩ := by
  obtain ⟨us, h1, h2, h3, h4, h5, h6, h7, h8, h9, h10⟩ := h.all
  have hu : ∀ j, j < rows.length → ∃ u, us[j]? = some u ∧ us.getD j undef = u ∧ OwnE w base 66 u (nthL rows j) ∧ Ap u vE ∧ Ap u vD ∧ Ap u vI := fun j hj => by
    obtain ⟨u, a1, a2⟩ := h5 j hj
    exact ⟨u, a1, by simp [a1], a2⟩
  have hl : (rows.map castL).length = rows.length := List.length_map ..
  refine ⟨vE, vD, vI, fun j => us.getD j undef, rfl, ?_, fun j hj => ?_, h3.ints, h4.ints, fun i j hij hj => ?_, fun j hj => ?_, h6.ra _ _, h7.ra _ _, h8.ra _ _⟩
  · have := Sl.of_own (f := fun j => us.getD j undef) h2 (fun j hj => by simp at hj; simp [hj])
    show Sl w base w.heap.size 1 vE (rows.map castL).length _
    rw [hl, ← h1]
    exact this
  · replace hj : j < rows.length := by rw [← hl]; exact hj
    obtain ⟨u, _, e, a2, _⟩ := hu j hj
    show EndS w base w.heap.size (us.getD j undef) (nthL (rows.map castL) j)
    rw [e, show nthL (rows.map castL) j = castL (nthL rows j) by simp [nthL, hj]]
    exact a2.ends
  · replace hj : j < rows.length := by rw [← hl]; exact hj
    obtain ⟨u, a1, e, _⟩ := hu j hj
    obtain ⟨u', b1, e', _⟩ := hu i (by omega)
    dsimp only
    rw [e, e']
    exact (h10 i j u' u hij b1 a1).ra _ _
  · replace hj : j < rows.length := by rw [← hl]; exact hj
    obtain ⟨u, _, e, _, a3, a4, a5⟩ := hu j hj
    dsimp only
    rw [e]
    exact ⟨a3.ra _ _, a4.ra _ _, a5.ra _ _⟩
end Go.Proofs.YtmdlginjblnfoaaGreat

/- The law's markEndSS on rows in blocks of their own. -/
namespace Go.Proofs.YtmdlginjblnfoaaGreat
open Go.ChangeShapes Go.WideShapes Go.ChangeAt Go.RowKit
set_option linter.unusedVariables false

theorem RA.or {n m : Nat} {v u : Value} (h : RA n v m u) : rowOf n v = none ∨ rowOf n v ≠ rowOf m u := by
  cases e : rowOf n v with
  | none => exact .inl rfl
  | some g => exact .inr fun e2 => h g e e2.symm
set_option maxHeartbeats 2000000 in
theorem markEndSSb_any (v : Value) (xss : List (List (Int × Int))) (vs : Nat → Value) (k : Int) (lo hi : Nat) (w : World) (hsl : Sl w lo hi 1 v xss.length vs) (hvs : ∀ i, i < xss.length → EndS w lo hi (vs i) (nthL xss i))
    (hap0 : ∀ i j, i < j → j < xss.length → RA (nthL xss i).length (vs i) (nthL xss j).length (vs j)) (hao0 : ∀ i, i < xss.length → RA (nthL xss i).length (vs i) xss.length v)
    (hhi : hi ≤ w.heap.size) (hk0 : 0 ≤ k) (hk1 : k ≤ 1099511627776) (hn : cntSS xss ≤ 1099511627776) :
    Calls Tryz.prog 27 #[v, .int .i64 k] w fun e w' => e = .returned (.int .i64 (k + 2 * cntSS xss)) ∧ (∀ i, i < xss.length → EndS w' lo hi (vs i) (runE (k + 2 * sumL xss i) (nthL xss i).length)) ∧ Turned lo hi w w' ∧
      (∀ q, q < w.heap.size → (∀ i, i < xss.length → rowOf (nthL xss i).length (vs i) ≠ some q) → w'.heap[q]? = w.heap[q]?) := by
  have hap := fun i j hij hj => (hap0 i j hij hj).or
  have hao := fun i hi => (hao0 i hi).or
  clear hap0 hao0
  have hsl' := hsl
  obtain ⟨A, c, rfl, hc1, hc2, hcell⟩ := hsl'
  unfold maxLen at hc2
  have HV := Lib.hid hvs
  have HA := Lib.hid hap
  have HO := Lib.hid hao
  clear hvs hap hao
  go_enter Tryz.func27, Tryz.ntmps27
  go_wp2
  go_loopw [5, 1] (fun i kv wr => ∃ m : Nat, m ≤ xss.length ∧ i = .int .i64 m ∧ kv = .int .i64 (k + 2 * sumL xss m) ∧ Sl wr lo hi 1 (.slice A xss.length c) xss.length vs ∧
      (∀ j, j < m → EndS wr lo hi (vs j) (runE (k + 2 * sumL xss j) (nthL xss j).length)) ∧ (∀ j, m ≤ j → j < xss.length → EndS wr lo hi (vs j) (nthL xss j)) ∧ Turned lo hi w wr ∧ Hid (wr.heap.size = w.heap.size) ∧ Hid (∀ q, q < w.heap.size → (∀ i, i < xss.length → rowOf (nthL xss i).length (vs i) ≠ some q) → wr.heap[q]? = w.heap[q]?)) (fun i _ _ => xss.length - (intOf i).toNat)
  case atStart => exact ⟨0, Nat.zero_le _, rfl, by rw [sumL_zero]; simp, hsl, fun j hj => absurd hj (by omega), fun j _ hj => HV.out j hj, Turned.refl _ _ _, Lib.hid rfl, Lib.hid fun q _ _ => rfl⟩
  case round =>
    obtain ⟨m, hm, rfl, rfl, hs, hl, hr, ht, HS, HK⟩ := hrel
    have HL := Lib.hid hl
    have HR := Lib.hid hr
    clear hl hr
    have hmo := sumL_mono xss m hm
    have hcs : sumL xss xss.length ≤ 1099511627776 := hn
    have hsz : w.heap.size ≤ wr.heap.size := ht.size
    by_cases hlt : m < xss.length
    · obtain ⟨b, off, rfl, hb1, hb2, _⟩ := hcell (by omega)
      obtain ⟨hck, hfk⟩ := hs.at_ (j := m) (by omega)
      have hu := HR.out m (Nat.le_refl _) hlt
      have HU := Lib.hid hu
      have HSU := Lib.hid (sumL_succ xss m hlt)
      have hmo2 := sumL_mono xss (m + 1) (by omega)
      have hlen : (nthL xss m).length ≤ 1099511627776 := by have := HSU.out; omega
      obtain ⟨A2, c2, e2, hd1, hd2, _⟩ := hu.form
      rw [e2] at hck
      rw [e2] at HU
      have E2 := Lib.hid e2
      clear hu e2 hcell hfk
      go_wp2_with fail
      refine (markEndS_any _ (nthL xss m) _ lo hi _ HU.out (by omega) (by omega) (by omega) (by omega)).mono ?_
      rintro e w1 ⟨rfl, hr1, hg1, hz1⟩
      have HR1 := Lib.hid hr1
      have HZ1 := Lib.hid hz1
      clear hr1 hz1
      go_wp2_with fail
      go_roundw
      case rel =>
        have hT : Turned lo hi wr w1 := Turned.of_row (HU.out) hg1
        refine ⟨m + 1, by omega, by go_num, by rw [HSU.out]; go_num, ?_, ?_, ?_, ht.trans hT, Lib.hid (by rw [HZ1.out]; exact HS.out), Lib.hid fun q hq hqn => (hg1.block q (by omega) (by have := hqn m hlt; rw [E2.out] at this; exact fun e => this e.symm)).trans (HK.out q hq hqn)⟩
        · refine hs.grown hg1 (by omega) ?_
          have := HO.out m hlt
          rw [E2.out] at this
          rcases this with e | e
          · right; rw [e, rowOf_some (by omega)]; simp
          · exact .inr fun e3 => e e3.symm
        · intro j hj
          by_cases e : j = m
          · subst e; rw [E2.out]; exact HR1.out
          · refine Sl.grown (HL.out j (by omega)) hg1 (by omega) ?_
            rw [runE_length]
            have := HA.out j m (by omega) hlt
            rw [E2.out] at this
            exact this
        · intro j hj hjl
          refine Sl.grown (HR.out j (by omega) hjl) hg1 (by omega) ?_
          have := HA.out m j (by omega) hjl
          rw [E2.out] at this
          rcases this with e | e
          · cases hq : rowOf (nthL xss j).length (vs j) with
            | none => exact .inl rfl
            | some q => right; rw [e]; simp
          · exact .inr fun e3 => e e3.symm
      case measure => simp [intOf]; omega
    · obtain rfl : m = xss.length := by omega
      go_wp2
      go_ret
      exact ⟨rfl, fun i hi => HL.out i hi, ht, HK.out⟩

end Go.Proofs.YtmdlginjblnfoaaGreat

/- Contracts of the law's heldEndS, heldEndSS, heldNetwork: what mark has left is still there. -/
namespace Go.Proofs.YtmdlginjblnfoaaGreat
open Go.ChangeShapes Go.WideShapes Go.ChangeAt Go.RowKit
set_option linter.unusedVariables false

set_option maxHeartbeats 1000000 in
theorem heldEndS_yes (v : Value) (zs : List (Int × Int)) (k : Int) (lo hi : Nat) (w : World) (h : EndS w lo hi v (runE k zs.length)) (hhi : hi ≤ w.heap.size) (hk0 : 0 ≤ k) (hk1 : k ≤ 1152921504606846976) (hn : zs.length ≤ 576460752303423488) :
    Calls Tryz.prog 59 #[v, .int .i64 k] w fun e w' => e = .returned (.int .i64 (k + 2 * zs.length)) ∧ Below w.heap.size w w' := by
  generalize zs.length = n at *
  have HV := Lib.hid (show Sl w lo hi 2 v n (endCell (runE k n)) from by have h2 := h; unfold EndS at h2; rw [runE_length] at h2; exact h2)
  obtain ⟨A, c, rfl, hc1, hc2, hcell⟩ := h.form
  clear h
  simp only [runE_length] at *
  go_enter Tryz.func59, Tryz.ntmps59
  go_wp2
  go_loop [5, 1] (fun i kv => ∃ m : Nat, m ≤ n ∧ i = .int .i64 m ∧ kv = .int .i64 (k + 2 * m)) (fun i _ => n - (intOf i).toNat)
  case atStart => exact ⟨0, Nat.zero_le _, rfl, by simp⟩
  case round =>
    obtain ⟨m, hm, rfl, rfl⟩ := hrel
    by_cases hlt : m < n
    · obtain ⟨b, off, rfl, hb1, hb2, hcs⟩ := hcell (by omega)
      obtain ⟨xe, xe'⟩ := hcs m hlt
      rw [nthE_runE _ _ _ hlt] at xe xe'
      dsimp only at xe xe'
      clear hcs HV
      clear hcell
      have hmi : (m : Int) < n := by omega
      go_wp2
      go_round
      case rel => exact ⟨m + 1, by omega, by go_num, by go_num⟩
      case measure => simp [intOf]; omega
    · obtain rfl : m = n := by omega
      go_wp2
      go_ret
      exact ⟨rfl, Below.refl _ _⟩
set_option maxHeartbeats 1000000 in
theorem heldEndSS_yes (v : Value) (xss : List (List (Int × Int))) (k : Int) (lo hi : Nat) (w : World) (h : EndSS w lo hi v (mkEndSS k xss)) (hhi : hi ≤ w.heap.size) (hk0 : 0 ≤ k) (hk1 : k ≤ 1099511627776) (hn : cntSS xss ≤ 1099511627776) :
    Calls Tryz.prog 29 #[v, .int .i64 k] w fun e w' => e = .returned (.int .i64 (k + 2 * cntSS xss)) ∧ Below w.heap.size w w' := by
  obtain ⟨A, c, rfl, hc1, hc2, hcell⟩ := h.form
  rw [mkEndSS_length] at *
  unfold maxLen at hc2
  go_enter Tryz.func29, Tryz.ntmps29
  go_wp2
  go_loopw [5, 1] (fun i kv wr => ∃ m : Nat, m ≤ xss.length ∧ i = .int .i64 m ∧ kv = .int .i64 (k + 2 * sumL xss m) ∧ Below w.heap.size w wr) (fun i _ _ => xss.length - (intOf i).toNat)
  case atStart => exact ⟨0, Nat.zero_le _, rfl, by rw [sumL_zero]; simp, Below.refl _ _⟩
  case round =>
    obtain ⟨m, hm, rfl, rfl, hb⟩ := hrel
    have hmo := sumL_mono xss m hm
    have hcs : sumL xss xss.length ≤ 1099511627776 := hn
    have hs0 := hb.size
    by_cases hlt : m < xss.length
    · obtain ⟨b, off, rfl, hb1, hb2, hcs2⟩ := hcell (by omega)
      obtain ⟨u, x1, r1⟩ := hcs2 m hlt
      rw [nthL_mkEndSS _ _ _ hlt] at r1
      have p1 := (hb.cell (p := ⟨b, off + m, none⟩) (by show b < _; omega)).trans x1
      have R1 := Lib.hid (r1.below hb (by omega))
      have HSU := Lib.hid (sumL_succ xss m hlt)
      have hmo2 := sumL_mono xss (m + 1) (by omega)
      have hlen : (nthL xss m).length ≤ 1099511627776 := by have := HSU.out; omega
      obtain ⟨A2, c2, rfl, hd1, hd2, _⟩ := r1.form
      clear hcs2 x1 r1 hcell
      have hrl := runE_length (k + 2 * sumL xss m) (nthL xss m).length
      have HRL := Lib.hid hrl
      clear hrl
      go_wp2_with fail
      refine (heldEndS_yes _ (nthL xss m) _ lo hi _ R1.out (by omega) (by omega) (by omega) (by omega)).mono ?_
      rintro e w1 ⟨rfl, hbq⟩
      go_wp2_with fail
      go_roundw
      case rel => exact ⟨m + 1, by omega, by go_num, by rw [HSU.out]; go_num, hb.trans (hbq.mono hs0)⟩
      case measure => simp [intOf]; omega
    · obtain rfl : m = xss.length := by omega
      go_wp2
      go_ret
      exact ⟨rfl, hb⟩

end Go.Proofs.YtmdlginjblnfoaaGreat
