/-
  Several texts in one: ConnP, Conn, AdjP, Adj, Adj2, Adj3, Gro2, Adj4, Adj5, CcP, Cc. No condition on any program.
-/
import Derived.Test.YtkobodoboeoaiaaElectP
import Derived.Test.YtkobodoboeoaiaaReg
import Derived.Test.YtkobodoboeoaiaaExt
import Derived.Test.YtkobodoboeoaiaaIsNet
import Derived.Test.YtkobodoboeoaiaaPut
import Derived.Test.YtkobodoboeoaiaaDistI
import Derived.Test.YtkobodoboeoaiaaNearP
import Derived.Test.YtkobodoboeoaiaaDomP
import Derived.Test.YtkobodoboeoaiaaPut2
import Derived.Test.YtkobodoboeoaiaaGrow
import Derived.Test.YtkobodoboeoaiaaComp
import Derived.Test.YtkobodoboeoaiaaDom
import Derived.Test.YtkobodoboeoaiaaEdge
import Derived.Test.YtkobodoboeoaiaaClus
import Derived.Test.YtkobodoboeoaiaaDeco
import Derived.Test.YtkobodoboeoaiaaPerm
import Derived.Test.YtkobodoboeoaiaaDecLaw
import Derived.Deep.AppendLies

/- Plain: the nodes that are reached from the first one, in the order in which they are found. -/
namespace Go.Proofs.Ytkobodoboeoaiaa
set_option linter.unusedVariables false

structure CoInv (N : NetD) (k : Nat) (out : List Int) : Prop where
  nodup : out.Nodup
  node : ∀ x ∈ out, ∃ v : Nat, x = v ∧ v < N.ends.length ∧ 0 ≤ nth (dist N 0) v
  root : (0 : Int) ∈ out
  done : ∀ i, i < k → ∀ t, Adj N (nth out i).toNat t → (t : Int) ∈ out
  kle : k ≤ out.length
theorem CoInv.start {N : NetD} (hg : N.good = true) : CoInv N 0 [(0 : Int)] := by
  have hn := good_n hg
  refine ⟨by simp, fun x hx => ?_, by simp, fun i hi => absurd hi (by omega), Nat.zero_le _⟩
  have hx' : x = 0 := by simpa using hx
  exact ⟨0, hx', by omega, by rw [dist_self (good_nodes hg) (by omega)]; omega⟩
theorem CoInv.len {N : NetD} {k : Nat} {out : List Int} (h : CoInv N k out) : out.length ≤ N.ends.length := by
  have := nodup_sub_len out ((List.range N.ends.length).map fun (k : Nat) => (k : Int)) h.nodup (fun x hx => by
    obtain ⟨v, rfl, hv, _⟩ := h.node x hx
    exact List.mem_map.2 ⟨v, List.mem_range.2 hv, rfl⟩)
  simpa using this
theorem CoInv.at_ {N : NetD} {k : Nat} {out : List Int} (h : CoInv N k out) {i : Nat} (hi : i < out.length) : ∃ v : Nat, nth out i = v ∧ v < N.ends.length ∧ 0 ≤ nth (dist N 0) v := by
  obtain ⟨v, e, hv, h0⟩ := h.node _ (nth_mem hi); exact ⟨v, e, hv, h0⟩
theorem reach_step {N : NetD} (hg : N.good = true) {v t : Nat} (h0 : 0 ≤ nth (dist N 0) v) (ha : Adj N v t) : 0 ≤ nth (dist N 0) t :=
  (dist_le (k := (nth (dist N 0) v).toNat + 1) (good_nodes hg) (by have := good_n hg; omega) (show way N ((nth (dist N 0) v).toNat + 1) 0 t from ⟨v, dist_way (good_nodes hg) (by have := good_n hg; omega) ha.1 h0, ha⟩)).1
theorem CoInv.add {N : NetD} {k : Nat} {out : List Int} (h : CoInv N k out) {t : Nat} (ht : t < N.ends.length) (h0 : 0 ≤ nth (dist N 0) t) (hm : (t : Int) ∉ out) : CoInv N k (out ++ [(t : Int)]) := by
  refine ⟨?_, fun x hx => ?_, by simp [h.root], fun i hi u hu => ?_, by simp; have := h.kle; omega⟩
  · rw [List.nodup_append]
    exact ⟨h.nodup, by simp, fun a ha b hb => by simp at hb; subst hb; rintro rfl; exact hm ha⟩
  · rw [List.mem_append, List.mem_singleton] at hx
    rcases hx with hx | hx
    · exact h.node x hx
    · exact ⟨t, hx, ht, h0⟩
  · rw [nth_append_left (by have := h.kle; omega)] at hu
    exact List.mem_append.2 (.inl (h.done i hi u hu))
theorem CoInv.next {N : NetD} {k v : Nat} {out : List Int} (h : CoInv N k out) (hk : k < out.length) (hv : nth out k = v) (hall : ∀ i, i < (nthL N.ends v).length → (nthE (nthL N.ends v) i).1 ∈ out) : CoInv N (k + 1) out := by
  refine ⟨h.nodup, h.node, h.root, fun i hi t ht => ?_, hk⟩
  by_cases e : i = k
  · subst e
    rw [hv, Int.toNat_natCast] at ht
    obtain ⟨_, _, j, hj, he⟩ := ht
    rw [← he]; exact hall j hj
  · exact h.done i (by omega) t ht
theorem CoInv.all {N : NetD} (hg : N.good = true) {out : List Int} (h : CoInv N out.length out) {t : Nat} (ht : t < N.ends.length) : (t : Int) ∈ out ↔ 0 ≤ nth (dist N 0) t := by
  have hn := good_n hg
  constructor
  · intro hm
    obtain ⟨v, e, _, h0⟩ := h.node _ hm
    obtain rfl : t = v := by omega
    exact h0
  · intro h0
    have key : ∀ k t, way N k 0 t → (t : Int) ∈ out := by
      intro k
      induction k with
      | zero => intro t e; rw [← (show 0 = t from e)]; exact h.root
      | succ k ih =>
        intro t ⟨s, h1, h2⟩
        obtain ⟨i, hi, e⟩ := List.mem_iff_getElem.1 (ih s h1)
        refine h.done i hi t ?_
        rw [nth_eq hi, e, Int.toNat_natCast]
        exact h2
    exact key _ t (dist_way (good_nodes hg) (by omega) ht h0)
theorem CoInv.conn {N : NetD} (hg : N.good = true) {out : List Int} (h : CoInv N out.length out) : decide (out.length = N.ends.length) = conn N := by
  have hn := good_n hg
  have hd := good_nodes hg
  rw [Bool.eq_iff_iff, decide_eq_true_eq]
  constructor
  · intro e
    have hmem : ∀ t : Nat, t < N.ends.length → (t : Int) ∈ out := fun t ht => Classical.byContradiction fun hm => by
      have := nodup_sub_len ((t : Int) :: out) ((List.range N.ends.length).map fun (k : Nat) => (k : Int)) (List.nodup_cons.2 ⟨hm, h.nodup⟩) (fun x hx => by
        rcases List.mem_cons.1 hx with rfl | hx
        · exact List.mem_map.2 ⟨t, List.mem_range.2 ht, rfl⟩
        · obtain ⟨v, rfl, hv, _⟩ := h.node x hx
          exact List.mem_map.2 ⟨v, List.mem_range.2 hv, rfl⟩)
      simp at this
      omega
    unfold Go.Proofs.Ytkobodoboeoaiaa.conn
    rw [Bool.not_eq_true']
    refine decide_eq_false fun hm => ?_
    obtain ⟨j, hj, e2⟩ := List.mem_iff_getElem.1 hm
    rw [dist_len hd (by omega)] at hj
    have := (h.all hg hj).1 (hmem j hj)
    rw [← nth_eq] at e2
    omega
  · intro hc
    have h1 := h.len
    have h2 := nodup_sub_len ((List.range N.ends.length).map fun (k : Nat) => (k : Int)) out (by unfold List.Nodup; rw [List.pairwise_map]; have := List.nodup_range (n := N.ends.length); unfold List.Nodup at this; exact this.imp fun hne e => hne (by omega)) (fun x hx => by
      obtain ⟨t, ht, rfl⟩ := List.mem_map.1 hx
      exact (h.all hg (List.mem_range.1 ht)).2 (conn_way hg hc (List.mem_range.1 ht)))
    simp at h2
    omega

end Go.Proofs.Ytkobodoboeoaiaa

/- Contracts: is a network connected (program and reference). -/
namespace Go.Proofs.Ytkobodoboeoaiaa
open Go.ChangeShapes Go.WideShapes Go.ChangeAt Go.RowKit
set_option linter.unusedVariables false

theorem OwnI.one (w : World) (base : Nat) (e : TypeId) (x : Int) {g : Nat} (hg : w.heap.size = g) (hb : base ≤ g) : OwnI (w.alloc (.cells #[.int .i64 x] e)) base e (.slice (some ⟨g, 0, none⟩) 1 1) [x] := by
  subst hg
  refine ⟨by simp, .inr ⟨w.heap.size, 1, #[.int .i64 x], by simp, hb, heap_alloc_new w _, Nat.le_refl _, by unfold maxLen; omega, rfl, rfl⟩⟩
section
variable {P : Program} {md : Region.Mode} {ops : Array Oper} {Q : Exit → Act → World → Prop} {S : World → Prop} {T : List Nat}
theorem anyU_skip {i : Nat} {oi : Oper} {fuel : Nat} {listed : Array Bool} {a : Act} {w : World} (hi : ops[i]? = some oi)
    (hs : (Region.noSelect ops && waitsB md ops T listed i) = true) (hf : (Region.free md ops listed i && closedB md ops listed) = true) (hr : (Region.ready md ops listed).contains i = true)
    (hQ : ∀ c a w, Q (.panic c) (a.put oi.dst undef) w → Q (.panic c) a w) (hy : Region.wanted oi (yielded ops a.tmps) = false) (hS : S w)
    (h : anyU P md ops Q S T fuel (listed.setIfInBounds i true) (a.put oi.dst undef) w) : anyU P md ops Q S T (fuel + 1) listed a w := by
  rw [Bool.and_eq_true] at hs hf
  exact anyU_first hi (Region.noSelect_spec hs.1) hQ fuel listed a w (Region.free_spec hi hf.1) (closedB_is hf.2) hs.2 (by simpa using hr) (.inr ⟨hy, rfl⟩) hS h
end

end Go.Proofs.Ytkobodoboeoaiaa

/- Plain: the adjacent clusters of each cluster; no condition on any program. -/
namespace Go.Proofs.Ytkobodoboeoaiaa
set_option linter.unusedVariables false

/-- an edge leads from cluster c into the other cluster x -/
def hit (N : NetD) (l : List Int) (c : Nat) (x : Int) : Prop := (c : Int) ≠ x ∧ ∃ v w, Adj N v w ∧ nth l v = c ∧ nth l w = x
def hitB (N : NetD) (l : List Int) (c d : Nat) : Bool := !decide (c = d) && (List.range N.ends.length).any fun v => decide (nth l v = c) && (nbs N v).any fun x => decide (nth l x.toNat = d)
theorem hitB_iff {N : NetD} (hg : N.good = true) {l : List Int} {c d : Nat} : hitB N l c d = true ↔ hit N l c d := by
  unfold hitB hit
  simp only [Bool.and_eq_true, Bool.not_eq_true', decide_eq_false_iff_not, List.any_eq_true, List.mem_range, decide_eq_true_eq]
  constructor
  · rintro ⟨h1, v, hv, h2, x, hx, h3⟩
    obtain ⟨i, hi, e⟩ := nbs_mem.1 hx
    obtain ⟨t, et, ht⟩ := good_nodes hg v hv i hi
    rw [et] at e
    subst e
    exact ⟨by omega, v, t, ⟨hv, ht, i, hi, et⟩, h2, by simpa using h3⟩
  · rintro ⟨h1, v, w, ⟨hv, hw, i, hi, e⟩, h2, h3⟩
    exact ⟨by omega, v, hv, h2, (w : Int), nbs_mem.2 ⟨i, hi, e⟩, by simpa using h3⟩
def adjRow (N : NetD) (l : List Int) (m c : Nat) : List Int := ((List.range m).filter (hitB N l c)).map fun (d : Nat) => (d : Int)
def adjCl (N : NetD) (l : List Int) (m : Nat) : List (List Int) := (List.range m).map (adjRow N l m)
theorem adjCl_length (N : NetD) (l : List Int) (m : Nat) : (adjCl N l m).length = m := by simp [adjCl]
theorem nthL_adjCl (N : NetD) (l : List Int) {m c : Nat} (h : c < m) : nthL (adjCl N l m) c = adjRow N l m c := by simp [nthL, adjCl, h]
theorem adjRow_rise (N : NetD) (l : List Int) (m c : Nat) : (adjRow N l m c).Pairwise (· < ·) := by
  unfold adjRow
  rw [List.pairwise_map]
  refine List.Pairwise.filter _ ?_
  exact List.pairwise_lt_range.imp fun h => by omega
theorem adjRow_len (N : NetD) (l : List Int) (m c : Nat) : (adjRow N l m c).length ≤ m := by
  unfold adjRow; rw [List.length_map]; exact Nat.le_trans (List.length_filter_le _ _) (by simp)
theorem mem_adjRow {N : NetD} (hg : N.good = true) {l : List Int} {m c : Nat} (hm : ∀ v, v < N.ends.length → ∃ t : Nat, nth l v = t ∧ t < m) {x : Int} : x ∈ adjRow N l m c ↔ hit N l c x := by
  unfold adjRow
  rw [List.mem_map]
  constructor
  · rintro ⟨d, hd, rfl⟩
    rw [List.mem_filter] at hd
    exact (hitB_iff hg).1 hd.2
  · intro h
    obtain ⟨v, w, ha, h1, h2⟩ := h.2
    obtain ⟨t, et, ht⟩ := hm w ha.2.1
    have e : x = (t : Int) := by omega
    subst e
    exact ⟨t, by rw [List.mem_filter, List.mem_range]; exact ⟨ht, (hitB_iff hg).2 h⟩, rfl⟩
/-- a strictly rising row with those members is the row -/
theorem adjRow_is {N : NetD} (hg : N.good = true) {l : List Int} {m c : Nat} (hm : ∀ v, v < N.ends.length → ∃ t : Nat, nth l v = t ∧ t < m) {r : List Int} (hr : r.Pairwise (· < ·)) (h : ∀ x, x ∈ r ↔ hit N l c x) : r = adjRow N l m c :=
  rise_ext hr (adjRow_rise N l m c) fun x => by rw [h, mem_adjRow hg hm]

/-- the program: an edge between two clusters names each at the other -/
def qHit (l : List Int) (q : Quad) (c : Nat) (x : Int) : Prop := nth l q.v.toNat ≠ nth l q.w.toNat ∧ ((nth l q.v.toNat = c ∧ x = nth l q.w.toNat) ∨ (nth l q.w.toNat = c ∧ x = nth l q.v.toNat))
structure PAdj (l : List Int) (es : List Quad) (k m : Nat) (xss : List (List Int)) : Prop where
  len : xss.length = m
  cnt : ∀ c, c < m → (nthL xss c).length ≤ k
  mem : ∀ c, c < m → ∀ x, x ∈ nthL xss c ↔ ∃ i, i < k ∧ qHit l (nthQ es i) c x
theorem nthL_nils {m c : Nat} : nthL (List.replicate m ([] : List Int)) c = [] := by
  unfold nthL
  rw [List.getD_eq_getElem?_getD, List.getElem?_replicate]
  split <;> rfl
theorem PAdj.zero (l : List Int) (es : List Quad) (m : Nat) : PAdj l es 0 m (List.replicate m []) :=
  ⟨by simp, fun c _ => by rw [nthL_nils]; exact Nat.zero_le _, fun c _ x => by rw [nthL_nils]; simp⟩
theorem PAdj.same {l : List Int} {es : List Quad} {k m : Nat} {xss : List (List Int)} (h : PAdj l es k m xss) (he : nth l (nthQ es k).v.toNat = nth l (nthQ es k).w.toNat) : PAdj l es (k + 1) m xss :=
  ⟨h.len, fun c hc => Nat.le_succ_of_le (h.cnt c hc), fun c hc x => by
    rw [h.mem c hc]
    constructor
    · rintro ⟨i, hi, e⟩; exact ⟨i, by omega, e⟩
    · rintro ⟨i, hi, e⟩
      by_cases e2 : i = k
      · subst e2; exact absurd he e.1
      · exact ⟨i, by omega, e⟩⟩
theorem PAdj.two {l : List Int} {es : List Quad} {k m : Nat} {xss : List (List Int)} (h : PAdj l es k m xss) {a b : Nat} (ha : nth l (nthQ es k).v.toNat = a) (hb : nth l (nthQ es k).w.toNat = b) (hab : a ≠ b) (ham : a < m) (hbm : b < m) :
    PAdj l es (k + 1) m ((xss.set a (nthL xss a ++ [(b : Int)])).set b (nthL xss b ++ [(a : Int)])) := by
  have hl := h.len
  have hrow : ∀ c, c < m → nthL ((xss.set a (nthL xss a ++ [(b : Int)])).set b (nthL xss b ++ [(a : Int)])) c = if c = b then nthL xss b ++ [(a : Int)] else if c = a then nthL xss a ++ [(b : Int)] else nthL xss c := fun c hc => by
    rw [nthL_set (by rw [List.length_set]; omega)]
    by_cases e : c = b
    · rw [if_pos e, if_pos e]
    · rw [if_neg e, if_neg e, nthL_set (by omega)]
  have hq : ∀ c x, qHit l (nthQ es k) c x ↔ (c = a ∧ x = (b : Int)) ∨ (c = b ∧ x = (a : Int)) := fun c x => by
    unfold qHit
    rw [ha, hb]
    constructor
    · rintro ⟨_, ⟨e1, e2⟩ | ⟨e1, e2⟩⟩
      · exact .inl ⟨by omega, e2⟩
      · exact .inr ⟨by omega, e2⟩
    · rintro (⟨e1, e2⟩ | ⟨e1, e2⟩)
      · exact ⟨by omega, .inl ⟨by omega, e2⟩⟩
      · exact ⟨by omega, .inr ⟨by omega, e2⟩⟩
  refine ⟨by rw [List.length_set, List.length_set]; exact hl, fun c hc => ?_, fun c hc x => ?_⟩
  · have h1 := h.cnt c hc
    have h2 := h.cnt a ham
    have h3 := h.cnt b hbm
    rw [hrow c hc]
    split
    · rw [List.length_append, List.length_singleton]; omega
    · split
      · rw [List.length_append, List.length_singleton]; omega
      · omega
  · have hsucc : (∃ i, i < k + 1 ∧ qHit l (nthQ es i) c x) ↔ (∃ i, i < k ∧ qHit l (nthQ es i) c x) ∨ qHit l (nthQ es k) c x := by
      constructor
      · rintro ⟨i, hi, e⟩
        by_cases e2 : i = k
        · subst e2; exact .inr e
        · exact .inl ⟨i, by omega, e⟩
      · rintro (⟨i, hi, e⟩ | e)
        · exact ⟨i, by omega, e⟩
        · exact ⟨k, by omega, e⟩
    rw [hsucc, hq, ← h.mem c hc, hrow c hc]
    by_cases e : c = b
    · subst e
      rw [if_pos rfl, List.mem_append, List.mem_singleton]
      constructor
      · rintro (h1 | h1)
        · exact .inl h1
        · exact .inr (.inr ⟨rfl, h1⟩)
      · rintro (h1 | ⟨h1, _⟩ | ⟨_, h1⟩)
        · exact .inl h1
        · exact absurd h1.symm hab
        · exact .inr h1
    · rw [if_neg e]
      by_cases e2 : c = a
      · subst e2
        rw [if_pos rfl, List.mem_append, List.mem_singleton]
        constructor
        · rintro (h1 | h1)
          · exact .inl h1
          · exact .inr (.inl ⟨rfl, h1⟩)
        · rintro (h1 | ⟨_, h1⟩ | ⟨h1, _⟩)
          · exact .inl h1
          · exact .inr h1
          · exact absurd h1 e
      · rw [if_neg e2]
        constructor
        · exact .inl
        · rintro (h1 | ⟨h1, _⟩ | ⟨h1, _⟩)
          · exact h1
          · exact absurd h1 e2
          · exact absurd h1 e
theorem qHit_all {N : NetD} (hg : N.good = true) {l : List Int} {c : Nat} {x : Int} : (∃ i, i < (edges N).length ∧ qHit l (nthQ (edges N) i) c x) ↔ hit N l c x := by
  have hex : (∃ i, i < (edges N).length ∧ qHit l (nthQ (edges N) i) c x) ↔ ∃ q, q ∈ edges N ∧ qHit l q c x := by
    constructor
    · rintro ⟨i, hi, e⟩; exact ⟨_, nthQ_mem hi, e⟩
    · rintro ⟨q, hq, e⟩
      obtain ⟨i, hi, e2⟩ := List.mem_iff_getElem.1 hq
      exact ⟨i, hi, by rw [nthQ_eq hi, e2]; exact e⟩
  rw [hex]
  constructor
  · rintro ⟨q, hq, hne, h⟩
    obtain ⟨v, i, t, r, rfl, h1, h2, h3, h4, e1, e2, _⟩ := edge_nat hg hq
    have hA : Adj N v t := ⟨h1, h3, i, h2, by rw [e1]⟩
    simp only [Int.toNat_natCast] at h hne
    rcases h with ⟨a, b⟩ | ⟨a, b⟩
    · exact ⟨by rw [← a, b]; exact hne, v, t, hA, a, b.symm⟩
    · exact ⟨by rw [← a, b]; exact fun e => hne e.symm, t, v, hA.symm hg, a, b.symm⟩
  · rintro ⟨hne, v, w, ⟨hv, hw, i, hi, e⟩, h1, h2⟩
    obtain ⟨t, r, e1, ht, hr, e2⟩ := good_end hg hv hi
    rw [e1] at e
    dsimp only at e
    obtain rfl : t = w := by omega
    by_cases hf : firstB N v i = true
    · refine ⟨quadAt N v i, mem_edges.2 ⟨v, i, hv, hi, hf, rfl⟩, ?_⟩
      have hv' : (quadAt N v i).v.toNat = v := by simp [quadAt]
      have hw' : (quadAt N v i).w.toNat = t := by unfold quadAt; rw [e1]; simp
      unfold qHit
      rw [hv', hw']
      exact ⟨by omega, .inl ⟨h1, h2.symm⟩⟩
    · refine ⟨quadAt N t r, mem_edges.2 ⟨t, r, hw, hr, ?_, rfl⟩, ?_⟩
      · unfold firstB at hf ⊢
        rw [e1] at hf
        rw [e2]
        simp at hf ⊢
        omega
      have hv' : (quadAt N t r).v.toNat = t := by simp [quadAt]
      have hw' : (quadAt N t r).w.toNat = v := by unfold quadAt; rw [e2]; simp
      unfold qHit
      rw [hv', hw']
      exact ⟨by omega, .inr ⟨h1, h2.symm⟩⟩
theorem PAdj.row {N : NetD} (hg : N.good = true) {l : List Int} {m : Nat} {xss : List (List Int)} (h : PAdj l (edges N) (edges N).length m xss) (hm : ∀ v, v < N.ends.length → ∃ t : Nat, nth l v = t ∧ t < m) {c : Nat} (hc : c < m) :
    Lib.compact (sortI (nthL xss c)) = adjRow N l m c :=
  adjRow_is hg hm (compact_rise (sortI_sorted _)) fun x => by rw [compact_mem (sortI_sorted _), (sortI_perm _).mem_iff, h.mem c hc, qHit_all hg]

/-- the reference: port i of node v is next -/
structure SAdj (N : NetD) (l : List Int) (v i m : Nat) (xss : List (List Int)) : Prop where
  len : xss.length = m
  rise : ∀ c, c < m → (nthL xss c).Pairwise (· < ·)
  mem : ∀ c, c < m → ∀ x, x ∈ nthL xss c ↔ (c : Int) ≠ x ∧ ∃ u j, (u < v ∧ j < (nthL N.ends u).length ∨ u = v ∧ j < i) ∧ nth l u = c ∧ nth l (nthE (nthL N.ends u) j).1.toNat = x
theorem SAdj.zero (N : NetD) (l : List Int) (m : Nat) : SAdj N l 0 0 m (List.replicate m []) :=
  ⟨by simp, fun c _ => by rw [nthL_nils]; exact List.Pairwise.nil, fun c _ x => by
    rw [nthL_nils]
    constructor
    · intro h; cases h
    · rintro ⟨_, u, j, h | h, _⟩ <;> omega⟩
theorem SAdj.turn {N : NetD} {l : List Int} {v m : Nat} {xss : List (List Int)} (h : SAdj N l v (nthL N.ends v).length m xss) : SAdj N l (v + 1) 0 m xss :=
  ⟨h.len, h.rise, fun c hc x => by
    rw [h.mem c hc]
    constructor
    · rintro ⟨h0, u, j, h1, h2⟩
      refine ⟨h0, u, j, .inl ?_, h2⟩
      rcases h1 with h1 | h1
      · exact ⟨by omega, h1.2⟩
      · exact ⟨by omega, by rw [h1.1]; exact h1.2⟩
    · rintro ⟨h0, u, j, h1, h2⟩
      refine ⟨h0, u, j, ?_, h2⟩
      rcases h1 with h1 | h1
      · by_cases e : u = v
        · subst e; exact .inr ⟨rfl, h1.2⟩
        · exact .inl ⟨by omega, h1.2⟩
      · omega⟩
theorem SAdj.same {N : NetD} {l : List Int} {v i m : Nat} {xss : List (List Int)} (h : SAdj N l v i m xss) (he : nth l (nthE (nthL N.ends v) i).1.toNat = nth l v) : SAdj N l v (i + 1) m xss :=
  ⟨h.len, h.rise, fun c hc x => by
    rw [h.mem c hc]
    constructor
    · rintro ⟨h0, u, j, h1, h2⟩
      exact ⟨h0, u, j, h1.imp id (fun h => ⟨h.1, by omega⟩), h2⟩
    · rintro ⟨h0, u, j, h1, h2, h3⟩
      refine ⟨h0, u, j, ?_, h2, h3⟩
      rcases h1 with h1 | h1
      · exact .inl h1
      · refine .inr ⟨h1.1, ?_⟩
        by_cases e : j = i
        · rw [h1.1] at h2
          rw [h1.1, e, he, h2] at h3
          exact absurd h3 h0
        · omega⟩
theorem SAdj.put {N : NetD} {l : List Int} {v i m : Nat} {xss : List (List Int)} (h : SAdj N l v i m xss) {c : Nat} {x : Int} (hc : c < m) (hv : nth l v = c) (hx : nth l (nthE (nthL N.ends v) i).1.toNat = x) (hne : (c : Int) ≠ x)
    {r : List Int} (hr : r.Pairwise (· < ·)) (hm : ∀ y, y ∈ r ↔ y ∈ nthL xss c ∨ y = x) : SAdj N l v (i + 1) m (xss.set c r) := by
  have hl := h.len
  refine ⟨by rw [List.length_set]; exact hl, fun d hd => ?_, fun d hd y => ?_⟩
  · rw [nthL_set (by omega)]
    split
    · exact hr
    · exact h.rise d hd
  · rw [nthL_set (by omega)]
    have hold := h.mem d hd y
    by_cases e : d = c
    · rw [if_pos e, hm]
      subst e
      rw [hold]
      constructor
      · rintro (⟨h0, u, j, h1, h2⟩ | rfl)
        · exact ⟨h0, u, j, h1.imp id (fun h => ⟨h.1, by omega⟩), h2⟩
        · exact ⟨hne, v, i, .inr ⟨rfl, by omega⟩, hv, hx⟩
      · rintro ⟨h0, u, j, h1, h2, h3⟩
        rcases h1 with h1 | h1
        · exact .inl ⟨h0, u, j, .inl h1, h2, h3⟩
        · by_cases e2 : j = i
          · rw [h1.1, e2, hx] at h3
            exact .inr h3.symm
          · exact .inl ⟨h0, u, j, .inr ⟨h1.1, by omega⟩, h2, h3⟩
    · rw [if_neg e, hold]
      constructor
      · rintro ⟨h0, u, j, h1, h2⟩
        exact ⟨h0, u, j, h1.imp id (fun h => ⟨h.1, by omega⟩), h2⟩
      · rintro ⟨h0, u, j, h1, h2, h3⟩
        refine ⟨h0, u, j, ?_, h2, h3⟩
        rcases h1 with h1 | h1
        · exact .inl h1
        · rw [h1.1, hv] at h2
          exact absurd (by omega) e
theorem SAdj.row {N : NetD} (hg : N.good = true) {l : List Int} {m : Nat} {xss : List (List Int)} (h : SAdj N l N.ends.length 0 m xss) (hm : ∀ v, v < N.ends.length → ∃ t : Nat, nth l v = t ∧ t < m) {c : Nat} (hc : c < m) :
    nthL xss c = adjRow N l m c :=
  adjRow_is hg hm (h.rise c hc) fun x => by
    rw [h.mem c hc]
    unfold hit
    constructor
    · rintro ⟨h0, u, j, h1, h2, h3⟩
      have h1' : u < N.ends.length ∧ j < (nthL N.ends u).length := by
        rcases h1 with h1 | h1
        · exact h1
        · omega
      obtain ⟨t, et, ht⟩ := good_nodes hg u h1'.1 j h1'.2
      rw [et, Int.toNat_natCast] at h3
      exact ⟨h0, u, t, ⟨h1'.1, ht, j, h1'.2, et⟩, h2, h3⟩
    · rintro ⟨h0, u, w, ⟨hu, hw, j, hj, e⟩, h2, h3⟩
      exact ⟨h0, u, j, .inl ⟨hu, hj⟩, h2, by rw [e, Int.toNat_natCast]; exact h3⟩
theorem SAdj.all {N : NetD} (hg : N.good = true) {l : List Int} {m : Nat} {xss : List (List Int)} (h : SAdj N l N.ends.length 0 m xss) (hm : ∀ v, v < N.ends.length → ∃ t : Nat, nth l v = t ∧ t < m) : xss = adjCl N l m := by
  have hl := h.len
  apply List.ext_getElem
  · rw [adjCl_length]; exact hl
  · intro i h1 h2
    have e := h.row hg hm (c := i) (by omega)
    rw [← nthL_adjCl N l (m := m) (by omega)] at e
    unfold nthL at e
    simpa [h1, h2] using e
theorem ad_after_put (v : Int) : ∀ (S : List Int), S.Pairwise (· < ·) → v ∉ S → ∀ y ∈ S.dropWhile (fun y => decide (y < v)), v < y
  | [], _, _, y, hy => by simp at hy
  | z :: S, hs, hv, y, hy => by
    rw [List.pairwise_cons] at hs
    rw [List.dropWhile_cons] at hy
    by_cases h : z < v
    · rw [if_pos (by simpa using h)] at hy
      exact ad_after_put v S hs.2 (fun h => hv (List.mem_cons_of_mem _ h)) y hy
    · rw [if_neg (by simpa using h)] at hy
      have hne : z ≠ v := fun e => hv (by simp [e])
      rcases List.mem_cons.1 hy with rfl | hy
      · omega
      · have := hs.1 y hy; omega
theorem ad_before_put (v : Int) : ∀ (S : List Int), ∀ y ∈ S.takeWhile (fun y => decide (y < v)), y < v
  | [], y, hy => by simp at hy
  | z :: S, y, hy => by
    rw [List.takeWhile_cons] at hy
    by_cases h : z < v
    · rw [if_pos (by simpa using h)] at hy
      rcases List.mem_cons.1 hy with rfl | hy
      · exact h
      · exact ad_before_put v S y hy
    · rw [if_neg (by simpa using h)] at hy; cases hy
theorem ad_put_parts (S : List Int) (v : Int) : S.take (putK S v) = S.takeWhile (fun y => decide (y < v)) ∧ S.drop (putK S v) = S.dropWhile (fun y => decide (y < v)) := by
  have h := List.takeWhile_append_dropWhile (p := fun y => decide (y < v)) (l := S)
  unfold putK
  constructor
  · conv => lhs; arg 2; rw [← h]
    rw [List.take_left']; rfl
  · conv => lhs; arg 2; rw [← h]
    rw [List.drop_left']; rfl
theorem dw_head {p : Int → Bool} : ∀ {zs : List Int} {d : Int} {r : List Int}, zs.dropWhile p = d :: r → p d = false
  | [], d, r, h => by simp at h
  | z :: zs, d, r, h => by
    rw [List.dropWhile_cons] at h
    by_cases hp : p z = true
    · rw [if_pos hp] at h; exact dw_head h
    · rw [if_neg hp] at h
      injection h with h1 h2
      rw [← h1]; simpa using hp
/-- putting a number into a strictly rising list -/
theorem putL_mem {zs : List Int} {x y : Int} : y ∈ putL zs x ↔ y ∈ zs ∨ y = x := by
  unfold putL
  by_cases h : putK zs x < zs.length ∧ nth zs (putK zs x) = x
  · rw [if_pos h]
    constructor
    · exact .inl
    · rintro (h1 | rfl)
      · exact h1
      · rw [← h.2]; exact nth_mem h.1
  · rw [if_neg h, List.mem_append, List.mem_append, List.mem_singleton]
    have hs := List.take_append_drop (putK zs x) zs
    constructor
    · rintro ((h1 | h1) | h1)
      · exact .inl (List.mem_of_mem_take h1)
      · exact .inr h1
      · exact .inl (List.mem_of_mem_drop h1)
    · rintro (h1 | h1)
      · rw [← hs, List.mem_append] at h1
        rcases h1 with h1 | h1
        · exact .inl (.inl h1)
        · exact .inr h1
      · exact .inl (.inr h1)
theorem putL_rise {zs : List Int} (hz : zs.Pairwise (· < ·)) (x : Int) : (putL zs x).Pairwise (· < ·) := by
  unfold putL
  by_cases h : putK zs x < zs.length ∧ nth zs (putK zs x) = x
  · rw [if_pos h]; exact hz
  · rw [if_neg h]
    obtain ⟨e1, e2⟩ := ad_put_parts zs x
    have hsplit := List.takeWhile_append_dropWhile (p := fun y => decide (y < x)) (l := zs)
    have hbefore := ad_before_put x zs
    have hpw : (zs.takeWhile (fun y => decide (y < x)) ++ zs.dropWhile (fun y => decide (y < x))).Pairwise (· < ·) := by rw [hsplit]; exact hz
    have hnot : x ∉ zs := fun hx => by
      rw [← hsplit, List.mem_append] at hx
      rcases hx with hx | hx
      · have := hbefore x hx; omega
      · cases hd : zs.dropWhile (fun y => decide (y < x)) with
        | nil => rw [hd] at hx; cases hx
        | cons d r =>
          have hp := dw_head hd
          rw [decide_eq_false_iff_not] at hp
          have hdx : d = x := by
            rw [hd] at hx hpw
            rcases List.mem_cons.1 hx with e | hx
            · exact e.symm
            · have := (List.pairwise_cons.1 (List.pairwise_append.1 hpw).2.1).1 x hx; omega
          apply h
          have hlen := congrArg List.length hsplit
          rw [hd] at hlen
          simp only [List.length_append, List.length_cons] at hlen
          have hk : putK zs x = (zs.takeWhile (fun y => decide (y < x))).length := rfl
          refine ⟨by omega, ?_⟩
          have hg : zs[putK zs x]? = some d := by
            conv => lhs; arg 1; rw [← hsplit, hd]
            rw [hk, List.getElem?_append_right (Nat.le_refl _), Nat.sub_self]; rfl
          unfold nth
          rw [List.getD_eq_getElem?_getD, hg]
          exact hdx
    have hafter := ad_after_put x zs hz hnot
    rw [e1, e2]
    rw [List.pairwise_append] at hpw
    rw [List.pairwise_append, List.pairwise_append]
    refine ⟨⟨hpw.1, by simp, fun a ha b hb => ?_⟩, hpw.2.1, fun a ha b hb => ?_⟩
    · simp at hb; subst hb; exact hbefore a ha
    · have h2 := hafter b hb
      rcases List.mem_append.1 ha with ha | ha
      · have := hbefore a ha; omega
      · simp at ha; subst ha; exact h2

end Go.Proofs.Ytkobodoboeoaiaa

/- l1Put once more (where its row lies); rows that grow; the reference's deAdjacent. -/
namespace Go.Proofs.Ytkobodoboeoaiaa
open Go.ChangeShapes Go.WideShapes Go.ChangeAt Go.RowKit
set_option linter.unusedVariables false

set_option maxHeartbeats 4000000 in
set_option maxRecDepth 100000 in
theorem l1Put_new (v : Value) (zs : List Int) (x : Int) (base : Nat) (w : World) (h : OwnI w base 3 v zs) (hb : base ≤ w.heap.size) (hz : zs.length ≤ 1048576) :
    Calls Try.prog 108 #[v, .int .i64 x] w fun e w' => ∃ r, e = .returned r ∧ OwnI w' base 3 r (putL zs x) ∧ (∀ g, r.ownBlock = some g → v.ownBlock = some g ∨ w.heap.size ≤ g) ∧ Below w.heap.size w w' := by
  have HO := Lib.hid h
  have HI := Lib.hid h.ints
  obtain ⟨i0, hi0, hzz0⟩ := Option.map_eq_some_iff.1 Try.info3
  rcases h.2 with ⟨rfl, hn⟩ | ⟨g, cap, cur, rfl, hg, hh, hn, hm, hs, ht⟩
  · -- nothing there yet
    have hnil : zs = [] := by simpa using hn
    subst hnil
    clear h hzz0 hn
    go_enter Try.func108, Try.ntmps108
    go_wp2_with fail
    go_loop [5] (fun c => c = .int .i64 0) (fun c => 0)
    case atStart => rfl
    case round =>
      obtain rfl := hrel
      have HE := Lib.hid (OwnI.empty w w.heap.size 3 rfl (Nat.le_refl _))
      go_wp2_with (first | (at_builtin; refine wpList_append_own_none (w := w.alloc (.cells #[] 3)) rfl (.tmp 34) (.tmp 37) 23 rfl w.heap.size 3 i0 1 Try.underlying23 hi0 _ _ _ rfl HE.out rfl ?_) | (at_builtin; refine append_int (s := .tmp 39) Try.underlying23 Try.info3 (by decide) (w.alloc (.cells #[] 3)) rfl _ rfl HE.out x _ rfl (by simp [Act.eval, go_sem]) (by simp) (by simp) ?_; intro v' w' ho' hg' hat'; have HO' := Lib.hid ho') | (at_builtin; refine wpList_append_own_none rfl (.tmp 43) (.tmp 46) 23 rfl w.heap.size 3 i0 1 Try.underlying23 hi0 _ _ _ rfl HO'.out rfl ?_))
      obtain ⟨Av, cv, rfl, _, _⟩ := HO'.out.ints.dims
      go_ret
      refine ⟨_, rfl, HO'.out.lower hb, fun g hg => .inr (HO'.out.lt g hg).1, ?_⟩
      exact (below_a1 w _).grown hg' (by simp) fun g hg => by have := HE.out.lt g hg; omega
  · have hcap : zs.length ≤ cap := by simpa using hn
    have hcap2 : cap ≤ 9223372036854775807 := hm
    have hgw : g < w.heap.size := (Array.getElem?_eq_some_iff.1 hh).1
    have hl : (zs.map (Value.int .i64)).length = zs.length := by simp
    simp only [List.length_map] at HO HI ⊢
    clear h hzz0 hn hm hs ht hh hl
    go_enter Try.func108, Try.ntmps108
    go_wp2_with fail
    go_loop [5] (fun c => ∃ k : Nat, c = .int .i64 k ∧ k ≤ zs.length ∧ Hid (∀ j, j < k → nth zs j < x)) (fun c => zs.length - (intOf c).toNat)
    case atStart => exact ⟨0, rfl, Nat.zero_le _, Lib.hid fun j hj => absurd hj (by omega)⟩
    case round =>
      obtain ⟨k, rfl, hk, HU⟩ := hrel
      by_cases hlt : k < zs.length
      case neg =>
        obtain rfl : k = zs.length := by omega
        by_cases hc : cap = zs.length
        · subst hc
          have HK := Lib.hid (putK_is (Nat.le_refl _) HU.out (fun h => absurd h (by omega)))
          have hk2 : zs.length ≤ zs.length := by omega
          have W1C := Lib.hid (fun j (hj : j < zs.length) => show (w.alloc (.cells #[] 3)).cell? ⟨g, 0 + j, none⟩ = some (.int .i64 (nth (zs.take zs.length) j)) by rw [(below_a1 w (.cells #[] 3)).cell (p := ⟨g, 0 + j, none⟩) (by show g < _; omega), nth_take hj]; exact (HI.out.at_ (by omega)).1)
          have HE := Lib.hid (OwnI.empty w w.heap.size 3 rfl (Nat.le_refl _))
          have hbw1 := below_a1 w (.cells #[] 3)
          have htl : (zs.take zs.length).length = zs.length := by rw [List.length_take]; omega
          have hdl : (zs.drop zs.length).length = 0 := by simp
          have HTL := Lib.hid htl
          have HDL := Lib.hid hdl
          clear htl hdl
          go_wp2_with (first
            | (at_builtin; refine append_ints (s := .tmp 34) Try.underlying23 Try.info3 (by decide) (w.alloc (.cells #[] 3)) rfl (.tmp 37) rfl HE.out rfl (g := g) (off := 0) (zs.take zs.length) HTL.out rfl W1C.out (by simp; omega) (by simp) ?_; intro v1 w1 ho1 hg1; have hb1 : Below w.heap.size w w1 := hbw1.grown hg1 (by simp) (fun g hg => by have := HE.out.lt g hg; omega); have HO1 := Lib.hid ho1; have hz1 := hb1.size)
            | (at_builtin; refine append_int (s := .tmp 39) Try.underlying23 Try.info3 (by decide) w1 rfl _ rfl HO1.out x _ rfl (by simp [Act.eval, go_sem]) (by rw [List.nil_append, HTL.out]; omega) (by omega) ?_; intro v2 w2 ho2 hg2 _; have hb2 : Below w.heap.size w w2 := hb1.grown hg2 (by omega) (fun g hg => by have := HO1.out.lt g hg; omega); have HO2 := Lib.hid ho2; have hz2 := hb2.size; have HC3 := Lib.hid (fun j (hj : j < 0) => show w2.cell? ⟨g, 0 + j, none⟩ = some (.int .i64 (nth (zs.drop zs.length) j)) by omega))
            | (at_builtin; refine append_ints (s := .tmp 43) Try.underlying23 Try.info3 (by decide) w2 rfl (.tmp 46) rfl HO2.out rfl (g := g) (off := 0) (zs.drop zs.length) HDL.out rfl HC3.out (by rw [List.length_append, List.length_append, HTL.out]; simp; omega) (by omega) ?_; intro v3 w3 ho3 hg3; have hb3 : Below w.heap.size w w3 := hb2.grown hg3 (by omega) (fun g hg => by have := HO2.out.lt g hg; omega); have HO3 := Lib.hid ho3))
          obtain ⟨Av, cv, rfl, _, _⟩ := HO3.out.ints.dims
          go_ret
          refine ⟨_, rfl, ?_, fun g hg => .inr (HO3.out.lt g hg).1, hb3⟩
          have e : putL zs x = ([] ++ zs.take zs.length) ++ [x] ++ zs.drop zs.length := by unfold putL; rw [HK.out, if_neg (by omega)]; simp
          rw [e]
          exact HO3.out.lower hb
        · have hc2 : zs.length < cap := by omega
          have HK := Lib.hid (putK_is (Nat.le_refl _) HU.out (fun h => absurd h (by omega)))
          have hk2 : zs.length ≤ zs.length := by omega
          have W1C := Lib.hid (fun j (hj : j < zs.length) => show (w.alloc (.cells #[] 3)).cell? ⟨g, 0 + j, none⟩ = some (.int .i64 (nth (zs.take zs.length) j)) by rw [(below_a1 w (.cells #[] 3)).cell (p := ⟨g, 0 + j, none⟩) (by show g < _; omega), nth_take hj]; exact (HI.out.at_ (by omega)).1)
          have HE := Lib.hid (OwnI.empty w w.heap.size 3 rfl (Nat.le_refl _))
          have hbw1 := below_a1 w (.cells #[] 3)
          have htl : (zs.take zs.length).length = zs.length := by rw [List.length_take]; omega
          have hdl : (zs.drop zs.length).length = 0 := by simp
          have HTL := Lib.hid htl
          have HDL := Lib.hid hdl
          clear htl hdl
          go_wp2_with (first
            | (at_builtin; refine append_ints (s := .tmp 34) Try.underlying23 Try.info3 (by decide) (w.alloc (.cells #[] 3)) rfl (.tmp 37) rfl HE.out rfl (g := g) (off := 0) (zs.take zs.length) HTL.out rfl W1C.out (by simp; omega) (by simp) ?_; intro v1 w1 ho1 hg1; have hb1 : Below w.heap.size w w1 := hbw1.grown hg1 (by simp) (fun g hg => by have := HE.out.lt g hg; omega); have HO1 := Lib.hid ho1; have hz1 := hb1.size)
            | (at_builtin; refine append_int (s := .tmp 39) Try.underlying23 Try.info3 (by decide) w1 rfl _ rfl HO1.out x _ rfl (by simp [Act.eval, go_sem]) (by rw [List.nil_append, HTL.out]; omega) (by omega) ?_; intro v2 w2 ho2 hg2 _; have hb2 : Below w.heap.size w w2 := hb1.grown hg2 (by omega) (fun g hg => by have := HO1.out.lt g hg; omega); have HO2 := Lib.hid ho2; have hz2 := hb2.size; have HC3 := Lib.hid (fun j (hj : j < 0) => show w2.cell? ⟨g, zs.length + j, none⟩ = some (.int .i64 (nth (zs.drop zs.length) j)) by rw [hb2.cell (p := ⟨g, zs.length + j, none⟩) (by show g < _; omega), nth_drop]; have := (HI.out.at_ (j := zs.length + j) (by omega)).1; rwa [Nat.zero_add] at this))
            | (at_builtin; refine append_ints (s := .tmp 43) Try.underlying23 Try.info3 (by decide) w2 rfl (.tmp 46) rfl HO2.out rfl (g := g) (off := zs.length) (zs.drop zs.length) HDL.out rfl HC3.out (by rw [List.length_append, List.length_append, HTL.out]; simp; omega) (by omega) ?_; intro v3 w3 ho3 hg3; have hb3 : Below w.heap.size w w3 := hb2.grown hg3 (by omega) (fun g hg => by have := HO2.out.lt g hg; omega); have HO3 := Lib.hid ho3))
          obtain ⟨Av, cv, rfl, _, _⟩ := HO3.out.ints.dims
          go_ret
          refine ⟨_, rfl, ?_, fun g hg => .inr (HO3.out.lt g hg).1, hb3⟩
          have e : putL zs x = ([] ++ zs.take zs.length) ++ [x] ++ zs.drop zs.length := by unfold putL; rw [HK.out, if_neg (by omega)]; simp
          rw [e]
          exact HO3.out.lower hb
      obtain ⟨x1, _⟩ := HI.out.at0 hlt
      obtain ⟨y, HY⟩ : ∃ y, Hid (nth zs k = y) := ⟨_, Lib.hid rfl⟩
      rw [HY.out] at x1
      by_cases hy : y < x
      · go_wp2_with fail
        go_round
        case rel =>
          refine ⟨k + 1, by go_num, by omega, Lib.hid fun j hj => ?_⟩
          by_cases e : j = k
          · rw [e, HY.out]; exact hy
          · exact HU.out j (by omega)
        case measure => simp [intOf]; omega
      by_cases he : y = x
      · have he' : (y == x) = true := by simpa using he
        have HE2 := Lib.hid he; clear he
        go_wp2_with fail
        go_ret
        refine ⟨_, rfl, ?_, fun g hg => .inl hg, Below.refl _ _⟩
        have hk2 := putK_is hk HU.out (fun _ => by rw [HY.out]; omega)
        have e : putL zs x = zs := by unfold putL; rw [hk2, if_pos ⟨hlt, by rw [HY.out, HE2.out]⟩]
        rw [e]
        exact HO.out
      have he' : (y == x) = false := by simpa using he
      have HE2 := Lib.hid he; clear he
      have HK := Lib.hid (putK_is hk HU.out (fun _ => by rw [HY.out]; omega))
      have hk2 : k ≤ zs.length := by omega
      have W1C := Lib.hid (fun j (hj : j < k) => show (w.alloc (.cells #[] 3)).cell? ⟨g, 0 + j, none⟩ = some (.int .i64 (nth (zs.take k) j)) by rw [(below_a1 w (.cells #[] 3)).cell (p := ⟨g, 0 + j, none⟩) (by show g < _; omega), nth_take hj]; exact (HI.out.at_ (by omega)).1)
      have HE := Lib.hid (OwnI.empty w w.heap.size 3 rfl (Nat.le_refl _))
      have hbw1 := below_a1 w (.cells #[] 3)
      have htl : (zs.take k).length = k := by rw [List.length_take]; omega
      have hdl : (zs.drop k).length = zs.length - k := List.length_drop
      have HTL := Lib.hid htl
      have HDL := Lib.hid hdl
      clear htl hdl
      go_wp2_with (first
        | (at_builtin; refine append_ints (s := .tmp 34) Try.underlying23 Try.info3 (by decide) (w.alloc (.cells #[] 3)) rfl (.tmp 37) rfl HE.out rfl (g := g) (off := 0) (zs.take k) HTL.out rfl W1C.out (by simp; omega) (by simp) ?_; intro v1 w1 ho1 hg1; have hb1 : Below w.heap.size w w1 := hbw1.grown hg1 (by simp) (fun g hg => by have := HE.out.lt g hg; omega); have HO1 := Lib.hid ho1; have hz1 := hb1.size)
        | (at_builtin; refine append_int (s := .tmp 39) Try.underlying23 Try.info3 (by decide) w1 rfl _ rfl HO1.out x _ rfl (by simp [Act.eval, go_sem]) (by rw [List.nil_append, HTL.out]; omega) (by omega) ?_; intro v2 w2 ho2 hg2 _; have hb2 : Below w.heap.size w w2 := hb1.grown hg2 (by omega) (fun g hg => by have := HO1.out.lt g hg; omega); have HO2 := Lib.hid ho2; have hz2 := hb2.size; have HC3 := Lib.hid (fun j (hj : j < zs.length - k) => show w2.cell? ⟨g, k + j, none⟩ = some (.int .i64 (nth (zs.drop k) j)) by rw [hb2.cell (p := ⟨g, k + j, none⟩) (by show g < _; omega), nth_drop]; have := (HI.out.at_ (j := k + j) (by omega)).1; rwa [Nat.zero_add] at this))
        | (at_builtin; refine append_ints (s := .tmp 43) Try.underlying23 Try.info3 (by decide) w2 rfl (.tmp 46) rfl HO2.out rfl (g := g) (off := k) (zs.drop k) HDL.out rfl HC3.out (by rw [List.length_append, List.length_append, HTL.out]; simp; omega) (by omega) ?_; intro v3 w3 ho3 hg3; have hb3 : Below w.heap.size w w3 := hb2.grown hg3 (by omega) (fun g hg => by have := HO2.out.lt g hg; omega); have HO3 := Lib.hid ho3))
      obtain ⟨Av, cv, rfl, _, _⟩ := HO3.out.ints.dims
      go_ret
      refine ⟨_, rfl, ?_, fun g hg => .inr (HO3.out.lt g hg).1, hb3⟩
      have e : putL zs x = ([] ++ zs.take k) ++ [x] ++ zs.drop k := by unfold putL; rw [HK.out, if_neg (fun h => HE2.out (by rw [← HY.out]; exact h.2))]; simp
      rw [e]
      exact HO3.out.lower hb

theorem Apart.fresh {w : World} {base : Nat} {e : TypeId} {v1 v2 v2' : Value} {xs : List Value} (h : Apart v1 v2) (ho : Own w base e v1 xs) (hn : ∀ g, v2'.ownBlock = some g → v2.ownBlock = some g ∨ w.heap.size ≤ g) : Apart v1 v2' := by
  cases hg : v2'.ownBlock with
  | none => exact .inr (.inl hg)
  | some g =>
    rcases hn g hg with e1 | e1
    · rcases h with h | h | h
      · exact .inl h
      · rw [e1] at h; cases h
      · exact .inr (.inr (by rw [hg, ← e1]; exact h))
    · rcases ho.block with e2 | ⟨g2, e2, _, e3⟩
      · exact .inl e2
      · refine .inr (.inr ?_)
        rw [hg, e2]
        intro e4; injection e4; omega

/-- one row, and what an append onto it with the store behind it leaves -/
theorem Gro.open2 {w : World} {b : Nat} {e : TypeId} {xss : List (List Int)} (h : Gro w b e xss) {i : Nat} (hi : i < xss.length) :
    ∃ u, w.cell? ⟨b, i, none⟩ = some u ∧ w.frozen? ⟨b, i, none⟩ = false ∧ OwnI w (b + 1) e u (nthL xss i) ∧ b < w.heap.size ∧
      ∀ v' w' zs', OwnI w' (b + 1) e v' zs' → w.grownBy w' u.ownBlock → (∀ g, v'.ownBlock = some g → u.ownBlock = some g ∨ w.heap.size ≤ g) → Gro (w'.setCell ⟨b, i, none⟩ v') b e (xss.set i zs') := by
  obtain ⟨vs, h1, h2, h3, h4⟩ := h
  have hat := h1.at_ (j := i) (by omega)
  rw [Nat.zero_add] at hat
  refine ⟨vs i, hat.1, hat.2, h3 i hi, h2, fun v' w' zs' ho hg hb => ?_⟩
  have hub : ∀ g, (vs i).ownBlock = some g → b + 1 ≤ g := fun g e => ((h3 i hi).lt g e).1
  have hs := hg.size
  have h1' : Sl w' b (b + 1) 1 (.slice (some ⟨b, 0, none⟩) xss.length xss.length) xss.length vs := Sl.keep h1 fun k a1 a2 => hg.block k (by omega) (fun e => by have := hub k e.symm; omega)
  have hset := h1'.set (j := i) (by omega) v'
  rw [Nat.zero_add] at hset
  have hgs : w'.grownBy (w'.setCell ⟨b, i, none⟩ v') (some b) := grown_set w' ⟨b, i, none⟩ _
  refine ⟨fun j => if j = i then v' else vs j, ?_, by rw [size_setCell]; omega, fun j hj => ?_, fun j k hj hk hjk => ?_⟩
  · rw [List.length_set]; exact hset
  · rw [List.length_set] at hj
    rw [nthL_set hi]
    dsimp only
    by_cases ej : j = i
    · rw [if_pos ej, if_pos ej]
      exact ho.far hgs fun g e => .inl (by injection e; omega)
    · rw [if_neg ej, if_neg ej]
      exact ((h3 j hj).kept hg (h4 j i hj hi ej).keeps).far hgs fun g e => .inl (by injection e; omega)
  · rw [List.length_set] at hj hk
    dsimp only
    by_cases ej : j = i
    · rw [if_pos ej, if_neg (by omega)]
      subst ej
      exact (Apart.fresh (h4 k j hk hi (fun e => hjk e.symm)) (h3 k hk) hb).symm
    · rw [if_neg ej]
      by_cases ek : k = i
      · rw [if_pos ek]
        subst ek
        exact Apart.fresh (h4 j k hj hi ej) (h3 j hj) hb
      · rw [if_neg ek]; exact h4 j k hj hk hjk

theorem Try.infoRowA : (Try.prog.info? 23).map (fun i => (i.zero, i.size, i.bytes)) = some (some (.slice none 0 0), 1, 24) := by kernel_rfl
theorem row_len {xs : List Int} {m : Nat} (hr : xs.Pairwise (· < ·)) (hb : ∀ x ∈ xs, 0 ≤ x ∧ x < m) : xs.length ≤ m := by
  have h := nodup_sub_len xs ((List.range m).map fun (k : Nat) => (k : Int)) (hr.imp fun h => by omega) fun x hx => by
    obtain ⟨h1, h2⟩ := hb x hx
    exact List.mem_map.2 ⟨x.toNat, List.mem_range.2 (by omega), by omega⟩
  simpa using h
theorem SAdj.small {N : NetD} (hg : N.good = true) {l : List Int} {v i m : Nat} {xss : List (List Int)} (h : SAdj N l v i m xss) (hm : ∀ v, v < N.ends.length → ∃ t : Nat, nth l v = t ∧ t < m) (hv : v ≤ N.ends.length) (hi : 0 < i → v < N.ends.length ∧ i ≤ (nthL N.ends v).length) {c : Nat} (hc : c < m) : (nthL xss c).length ≤ m :=
  row_len (h.rise c hc) fun x hx => by
    obtain ⟨_, u, j, h1, _, h3⟩ := (h.mem c hc x).1 hx
    have h4 : u < N.ends.length ∧ j < (nthL N.ends u).length := by
      rcases h1 with h1 | h1
      · exact ⟨by omega, h1.2⟩
      · have := hi (by omega); rw [h1.1]; exact ⟨this.1, by omega⟩
    obtain ⟨t, et, ht⟩ := good_nodes hg u h4.1 j h4.2
    rw [et, Int.toNat_natCast] at h3
    obtain ⟨s, es, hs⟩ := hm t ht
    omega

end Go.Proofs.Ytkobodoboeoaiaa

/- Contract of the reference's deAdjacent. -/
namespace Go.Proofs.Ytkobodoboeoaiaa
open Go.ChangeShapes Go.WideShapes Go.ChangeAt Go.RowKit
set_option linter.unusedVariables false

theorem clus_label {N : NetD} {l : List Int} (hc : Clus N l) {m0 : Nat} (em0 : mostI l = m0) : ∀ v, v < N.ends.length → ∃ t : Nat, nth l v = t ∧ t < m0 + 1 := fun v hv => by
  obtain ⟨t, et, ht⟩ := hc.nat hv
  have := (mostI_spec l).2.1 _ (nth_mem (zs := l) (i := v) (by have := hc.len; omega))
  exact ⟨t, et, by omega⟩

set_option maxHeartbeats 4000000 in
set_option maxRecDepth 100000 in
theorem deAdjacent_any (v1 : Value) (N : NetD) (lo1 hi1 : Nat) (v2 : Value) (l : List Int) (lo2 hi2 : Nat) (w : World) (h1 : Net w lo1 hi1 v1 N) (hh1 : hi1 ≤ w.heap.size) (h2 : IntS w lo2 hi2 v2 l) (hh2 : hi2 ≤ w.heap.size) (hg : N.good = true) (hc : Clus N l) :
    Calls Try.prog 52 #[v1, v2] w fun e w' => ∃ r, e = .returned (r) ∧ IntSSx w' w.heap.size w'.heap.size r (adjCl N l ((mostI l).toNat + 1)) ∧ Below w.heap.size w w' := by
  obtain ⟨n1, n40⟩ := good_n hg
  have HG := Lib.hid hg; clear hg
  have hll := hc.len
  obtain ⟨m0, em0, hm0⟩ := hc.most HG.out
  have hml0 := clus_label hc em0
  obtain ⟨k, hk0⟩ : ∃ k, k = m0 + 1 := ⟨_, rfl⟩
  rw [← hk0] at hml0
  have HML := Lib.hid hml0; clear hml0
  have ek : (mostI l).toNat + 1 = k := by omega
  rw [ek]
  clear ek
  have HLL := Lib.hid hll
  have HM0 := Lib.hid em0; clear em0
  have hwm : IntKind.i64.wrap ((m0 : Int) + 1) = (k : Int) := by rw [IntWalk.i64_in _ (by omega)]; omega
  have hmk := fun W => run_make_row' (P := Try.prog) 27 23 (.slice none 0 0) 24 Try.underlying27 Try.infoRowA rfl .i64 .i64 k (by omega) (by omega) W
  have hkn : k ≤ N.ends.length := by omega
  have hlle : l.length ≤ N.ends.length := by omega
  clear hll hk0 hm0
  have F1 := Lib.hid h1
  obtain ⟨A1, c1, A1', c1', A1'', c1'', rfl, hc1, hd1, _⟩ := h1.parts
  obtain ⟨b1, o1, _, _, rfl, _⟩ := Net.rowAt F1.out (u := 0) (by omega)
  clear h1
  have F2 := Lib.hid h2
  obtain ⟨A2, c2, rfl, hc2, hd2⟩ := h2.dims
  clear h2
  obtain ⟨WA, HWA⟩ : ∃ W, Hid (W = (w.alloc (.cells #[.slice (some ⟨b1, o1, none⟩) N.ends.length c1, .slice A1' N.ids.length c1', .slice A1'' N.inputs.length c1''] 32))) := ⟨_, Lib.hid rfl⟩
  have hbA : Below w.heap.size w WA := by rw [HWA.out]; exact ((Below.refl _ _).alloc (Nat.le_refl _) _)
  have hsA : w.heap.size + 1 ≤ WA.heap.size := by rw [HWA.out]; simp; try omega
  have bx1 : BoxN WA (w.heap.size) #[.slice (some ⟨b1, o1, none⟩) N.ends.length c1, .slice A1' N.ids.length c1', .slice A1'' N.inputs.length c1''] 32 := by rw [HWA.out]; exact (BoxN.new' _ _ _ (by simp))
  have G1 := Lib.hid (Net.below F1.out hbA hh1); clear F1
  have G2 := Lib.hid (IntS.below F2.out hbA hh2); clear F2
  go_enter Try.func52, Try.ntmps52
  go_upto_region 1 with (fail)
  rw [← HWA.out]; clear HWA
  go_upto_region 2 with ((go_at_call 68; refine (meMost_any _ l _ _ _ G2.out (by omega)).mono ?_; rintro e w' ⟨rfl, rfl⟩; rw [HM0.out]))
  refine nameC ?_
  intro W1 HW1
  have hg1 : WA.grownBy W1 none := by rw [HW1.out]; exact grown_alloc _ _
  have hs1 := hg1.size
  have HF1 := Lib.hid ((Turned.refl WA.heap.size WA.heap.size WA).still hg1)
  have HGR := Lib.hid (show Gro W1 WA.heap.size 3 (List.replicate k []) by rw [HW1.out]; exact Gro.made _ k _ _ rfl (by omega))
  have hz : WA.heap.size + 1 ≤ W1.heap.size := by rw [HW1.out]; simp
  clear HW1 hmk
  go_wp2_with fail
  have N_1 := Lib.hid (Net.turned G1.out HF1.out (by omega) (by omega)); clear G1
  have l_1 := Lib.hid (IntS.turned G2.out HF1.out (by omega) (by omega)); clear G2
  have bx1_1 := HF1.out.boxN bx1 (by omega); clear bx1
  have hbA1 := (HF1.out.below_of hbA (by omega) (by omega)); clear hbA HF1
  go_loopw [16] (fun iv wr => ∃ (v : Nat) (xss : List (List Int)), v ≤ l.length ∧ iv = .int .i64 v ∧ Hid (Gro wr WA.heap.size 3 xss) ∧ Hid (SAdj N l v 0 k xss) ∧ Hid (Turned WA.heap.size (WA.heap.size + 1) W1 wr)) (fun iv _ => l.length - (intOf iv).toNat)
  case atStart => exact ⟨0, List.replicate k [], Nat.zero_le _, rfl, HGR, Lib.hid (SAdj.zero N l k), Lib.hid (Turned.refl WA.heap.size (WA.heap.size + 1) W1)⟩
  case round =>
    obtain ⟨v, xss, hv, rfl, HG2, HS, HF2⟩ := hrel
    have hs2 := HF2.out.size
    have hxl := HS.out.len
    by_cases hlt : v < l.length
    case neg =>
      obtain rfl : v = l.length := by omega
      have HALL := Lib.hid (SAdj.all HG.out (by rw [← HLL.out]; exact HS.out) HML.out)
      have HR := Lib.hid (HG2.out.ssx)
      rw [hxl] at HR
      go_wp2_with fail
      go_ret
      refine ⟨_, rfl, ?_, (HF2.out.below_of hbA1 (by omega) (by omega))⟩
      rw [← HALL.out]
      exact ISSx.mono HR.out (by omega) (Nat.le_refl _)
    have hvn : v < N.ends.length := by have := HLL.out; omega
    have hd6 := good_deg HG.out hvn
    obtain ⟨c, ec, hck⟩ := HML.out v hvn
    have HEC := Lib.hid ec
    obtain ⟨bl, ol, rfl, _, hbl, x1, _⟩ := IntS.opened (IntS.turned l_1.out HF2.out (by omega) (by omega)) hlt
    rw [ec] at x1
    clear ec
    have hvi : (v : Int) < l.length := by omega
    obtain ⟨wq, rfl⟩ : ∃ wq : World, wq = wr := ⟨_, rfl⟩
    have kbx1_0 : wq.cell? ⟨w.heap.size, 0, none⟩ = some (.slice (some ⟨b1, o1, none⟩) N.ends.length c1) := (HF2.out.boxN bx1_1 (by omega)).cell 0 (by simp)
    have kbx1_1 : wq.cell? ⟨w.heap.size, 1, none⟩ = some (.slice A1' N.ids.length c1') := (HF2.out.boxN bx1_1 (by omega)).cell 1 (by simp)
    have kbx1_2 : wq.cell? ⟨w.heap.size, 2, none⟩ = some (.slice A1'' N.inputs.length c1'') := (HF2.out.boxN bx1_1 (by omega)).cell 2 (by simp)
    go_wp2_with fail
    clear kbx1_0 kbx1_1 kbx1_2 x1
    refine (neNear_any _ N v lo1 hi1 _ (Net.turned N_1.out HF2.out (by omega) (by omega)) (by omega) hvn (by omega)).mono ?_
    rintro e W3 ⟨r, rfl, hr, hb3⟩
    have hg3 := grown_below hb3; clear hb3
    have hs3 := hg3.size
    have HF3 := Lib.hid (HF2.out.still hg3); clear HF2
    have GR3 := Lib.hid (Gro.still HG2.out hg3); clear HG2
    have R3 := Lib.hid hr; clear hr
    obtain ⟨Ar, cr, rfl, hcr, hdr⟩ := R3.out.dims
    rw [nbs_length] at hcr
    try rw [nbs_length]
    go_wp2_with fail
    try simp only [nbs_length]
    go_loopw [25] (fun iv wr => ∃ (i : Nat) (ys : List (List Int)), i ≤ (nthL N.ends v).length ∧ iv = .int .i64 i ∧ Hid (Gro wr WA.heap.size 3 ys) ∧ Hid (SAdj N l v i k ys) ∧ Hid (IntS wr (wq.heap.size) (W3.heap.size) (.slice Ar (nthL N.ends v).length cr) (nbs N v)) ∧ W3.heap.size ≤ wr.heap.size ∧ Hid (Turned WA.heap.size (WA.heap.size + 1) W1 wr)) (fun iv _ => (nthL N.ends v).length - (intOf iv).toNat)
    case atStart => exact ⟨0, xss, Nat.zero_le _, rfl, GR3, HS, Lib.hid (by have := R3.out; first | exact this | (rw [nbs_length] at this; exact this)), Nat.le_refl _, HF3⟩
    case round =>
      clear HF3
      obtain ⟨i, ys, hi, rfl, HG2, HS2, HRF, hz4, HF4⟩ := hrel
      have hs4 := HF4.out.size
      by_cases hil : i < (nthL N.ends v).length
      case neg =>
        obtain rfl : i = (nthL N.ends v).length := by omega
        go_wp2_with fail
        go_roundw
        case rel => exact ⟨v + 1, ys, by omega, by go_num, HG2, Lib.hid HS2.out.turn, HF4⟩
        case measure => simp [intOf]; omega
      obtain ⟨b, r, eb, hb, _, _⟩ := good_end HG.out hvn hil
      obtain ⟨d, ed, hdk⟩ := HML.out b hb
      have hbl2 : b < l.length := by have := HLL.out; omega
      have HB : Hid ((nthE (nthL N.ends v) i).1 = (b : Int)) := Lib.hid (by rw [eb])
      have HD := Lib.hid ed
      clear eb ed
      obtain ⟨br, or, rfl, _, hbr, x2, _⟩ := IntS.opened HRF.out (j := i) (by rw [nbs_length]; exact hil)
      rw [nth_nbs N v hil, HB.out] at x2
      have x3 := (IntS.at_ (IntS.turned l_1.out HF4.out (by omega) (by omega)) (j := b) hbl2).1
      rw [HD.out] at x3
      have hii : (i : Int) < (nthL N.ends v).length := by omega
      have hbi : (b : Int) < l.length := by omega
      have HX : Hid (nth l (nthE (nthL N.ends v) i).1.toNat = (d : Int)) := Lib.hid (by rw [HB.out, Int.toNat_natCast, HD.out])
      by_cases hdc : d = c
      case pos =>
        subst hdc
        have HSN := Lib.hid (HS2.out.same (by rw [HX.out, HEC.out]))
        go_wp2_with fail
        go_roundw
        case rel => exact ⟨i + 1, ys, by omega, by go_num, HG2, HSN, HRF, by omega, HF4⟩
        case measure => simp [intOf]; omega
      have hdc' : ((d : Int) == (c : Int)) = false := by simp; omega
      have hyl := HS2.out.len
      obtain ⟨u, hu1, hu2, hu3, hu4, hu5⟩ := HG2.out.open2 (i := c) (by omega)
      have hsm := HS2.out.small HG.out HML.out (by omega) (fun _ => ⟨hvn, by omega⟩) hck
      have HRI := Lib.hid (HS2.out.rise c hck)
      obtain ⟨row, HROW⟩ : ∃ row, Hid (nthL ys c = row) := ⟨_, Lib.hid rfl⟩
      rw [HROW.out] at hu3 hsm HRI
      have HU3 := Lib.hid hu3
      have HU5 := Lib.hid hu5
      have HSN := Lib.hid (HS2.out.put hck HEC.out HX.out (by omega) (r := putL row d) (putL_rise HRI.out d) (fun y => by rw [HROW.out]; exact putL_mem))
      obtain ⟨Au, cu, hue, _, _⟩ := hu3.ints.dims
      clear hu3 hu5
      have hci : (c : Int) < (k : Int) := by omega
      obtain ⟨wp, rfl⟩ : ∃ wp : World, wp = wr := ⟨_, rfl⟩
      go_wp2_with fail
      clear x2 x3
      refine wp_region_U (fun w' => w'.cell? ⟨WA.heap.size, c, none⟩ = some (u) ∧ w'.cell? ⟨bl, ol + b, none⟩ = some (.int .i64 d)) [11, 12] (by kernel_rfl) ?_
      refine nameU ?_
      intro W5 HW5
      have hg5 : wp.grownBy W5 none := by rw [HW5.out]; exact grown_drew _
      clear HW5
      have hs5 := hg5.size
      have HF5 := Lib.hid (HF4.out.still hg5); clear HF4
      have R5 := Lib.hid (IntS.still HRF.out hg5 (by omega)); clear HRF
      have hS6 : W5.cell? ⟨WA.heap.size, c, none⟩ = some (u) ∧ W5.cell? ⟨bl, ol + b, none⟩ = some (.int .i64 d) := ⟨((World.cell?_of_block (a := ⟨WA.heap.size, c, none⟩) (hg5.block WA.heap.size (by omega) (by simp))).trans hu1), (by have := (IntS.at_ (IntS.turned l_1.out HF5.out (by omega) (by omega)) (j := b) hbl2).1; rw [HD.out] at this; exact this)⟩
      refine anyU_take (i := 0) (v := .slice (some ⟨WA.heap.size, 0, none⟩) k k) rfl (by kernel_rfl) (by kernel_rfl) (by kernel_rfl) (fun _ _ _ h => h) ⟨by rfl, fun w' hS' => (by obtain ⟨s1, s2⟩ := hS'; go_simp)⟩ hS6 ?_
      simp only [List.getElem_toArray, List.getElem_cons_zero, Act.put, List.setIfInBounds_toArray, List.set_cons_zero, List.set_cons_succ]
      refine anyU_take (i := 1) (v := .int .i64 c) rfl (by kernel_rfl) (by kernel_rfl) (by kernel_rfl) (fun _ _ _ h => h) ⟨by rfl, fun w' hS' => (by obtain ⟨s1, s2⟩ := hS'; go_simp)⟩ hS6 ?_
      simp only [List.getElem_toArray, List.getElem_cons_succ, List.getElem_cons_zero, Act.put, List.setIfInBounds_toArray, List.set_cons_zero, List.set_cons_succ]
      refine anyU_take (i := 2) (v := .slice (some ⟨WA.heap.size, 0, none⟩) k k) rfl (by kernel_rfl) (by kernel_rfl) (by kernel_rfl) (fun _ _ _ h => h) ⟨by rfl, fun w' hS' => (by obtain ⟨s1, s2⟩ := hS'; go_simp)⟩ hS6 ?_
      simp only [List.getElem_toArray, List.getElem_cons_succ, List.getElem_cons_zero, Act.put, List.setIfInBounds_toArray, List.set_cons_zero, List.set_cons_succ]
      refine anyU_take (i := 3) (v := .int .i64 c) rfl (by kernel_rfl) (by kernel_rfl) (by kernel_rfl) (fun _ _ _ h => h) ⟨by rfl, fun w' hS' => (by obtain ⟨s1, s2⟩ := hS'; go_simp)⟩ hS6 ?_
      simp only [List.getElem_toArray, List.getElem_cons_succ, List.getElem_cons_zero, Act.put, List.setIfInBounds_toArray, List.set_cons_zero, List.set_cons_succ]
      refine anyU_take (i := 4) (v := .pointer (some ⟨WA.heap.size, c, none⟩)) rfl (by kernel_rfl) (by kernel_rfl) (by kernel_rfl) (fun _ _ _ h => h) ⟨by rfl, fun w' hS' => (by obtain ⟨s1, s2⟩ := hS'; simp [go_sem, hci])⟩ hS6 ?_
      simp only [List.getElem_toArray, List.getElem_cons_succ, List.getElem_cons_zero, Act.put, List.setIfInBounds_toArray, List.set_cons_zero, List.set_cons_succ]
      refine anyU_take (i := 5) (v := u) rfl (by kernel_rfl) (by kernel_rfl) (by kernel_rfl) (fun _ _ _ h => h) ⟨by rfl, fun w' hS' => (by obtain ⟨s1, s2⟩ := hS'; go_simp)⟩ hS6 ?_
      simp only [List.getElem_toArray, List.getElem_cons_succ, List.getElem_cons_zero, Act.put, List.setIfInBounds_toArray, List.set_cons_zero, List.set_cons_succ]
      refine anyU_take (i := 6) (v := .slice (some ⟨bl, ol, none⟩) l.length c2) rfl (by kernel_rfl) (by kernel_rfl) (by kernel_rfl) (fun _ _ _ h => h) ⟨by rfl, fun w' hS' => (by obtain ⟨s1, s2⟩ := hS'; go_simp)⟩ hS6 ?_
      simp only [List.getElem_toArray, List.getElem_cons_succ, List.getElem_cons_zero, Act.put, List.setIfInBounds_toArray, List.set_cons_zero, List.set_cons_succ]
      refine anyU_take (i := 7) (v := .int .i64 b) rfl (by kernel_rfl) (by kernel_rfl) (by kernel_rfl) (fun _ _ _ h => h) ⟨by rfl, fun w' hS' => (by obtain ⟨s1, s2⟩ := hS'; go_simp)⟩ hS6 ?_
      simp only [List.getElem_toArray, List.getElem_cons_succ, List.getElem_cons_zero, Act.put, List.setIfInBounds_toArray, List.set_cons_zero, List.set_cons_succ]
      refine anyU_take (i := 8) (v := .pointer (some ⟨bl, ol + b, none⟩)) rfl (by kernel_rfl) (by kernel_rfl) (by kernel_rfl) (fun _ _ _ h => h) ⟨by rfl, fun w' hS' => (by obtain ⟨s1, s2⟩ := hS'; simp [go_sem, hbi])⟩ hS6 ?_
      simp only [List.getElem_toArray, List.getElem_cons_succ, List.getElem_cons_zero, Act.put, List.setIfInBounds_toArray, List.set_cons_zero, List.set_cons_succ]
      refine anyU_take (i := 9) (v := .int .i64 d) rfl (by kernel_rfl) (by kernel_rfl) (by kernel_rfl) (fun _ _ _ h => h) ⟨by rfl, fun w' hS' => (by obtain ⟨s1, s2⟩ := hS'; go_simp)⟩ hS6 ?_
      simp only [List.getElem_toArray, List.getElem_cons_succ, List.getElem_cons_zero, Act.put, List.setIfInBounds_toArray, List.set_cons_zero, List.set_cons_succ]
      have HU4 := Lib.hid (OwnI.still HU3.out hg5)
      refine anyU_ready (rs := [10]) (by kernel_rfl) (by simp) ?_
      refine ReadyU.cons (i := 10) rfl (fun K hK => ?_) ReadyU.nil
      simp only [List.getElem_toArray, List.getElem_cons_succ, List.getElem_cons_zero]
      refine ite_is (by rfl) ?_
      simp [go_sem]
      refine (l1Put_new u row (d : Int) (WA.heap.size + 1) _ HU4.out (by omega) (by omega)).mono ?_
      rintro e W7 ⟨r9, rfl, hr9, hn9, hb7⟩
      have hg7 := grown_below hb7; clear hb7
      have hs7 := hg7.size
      have HF7 := Lib.hid (HF5.out.still hg7); clear HF5
      have R7 := Lib.hid (IntS.still R5.out hg7 (by omega)); clear R5
      have hS8 : W7.cell? ⟨WA.heap.size, c, none⟩ = some (u) ∧ W7.cell? ⟨bl, ol + b, none⟩ = some (.int .i64 d) := ⟨((World.cell?_of_block (a := ⟨WA.heap.size, c, none⟩) ((grownBy_trans hg5 hg7).block WA.heap.size (by omega) (by simp))).trans hu1), (by have := (IntS.at_ (IntS.turned l_1.out HF7.out (by omega) (by omega)) (j := b) hbl2).1; rw [HD.out] at this; exact this)⟩
      refine hK.out _ _ ⟨fun _ => hS8, ?_⟩
      clear hK K hS6
      try simp only [List.getElem_toArray, List.getElem_cons_succ, List.getElem_cons_zero, Act.put, List.setIfInBounds_toArray, List.set_cons_zero, List.set_cons_succ]
      have HGN0 := Lib.hid (HU5.out _ _ _ hr9 (grown_any (grownBy_trans hg5 hg7)) (fun g hg => (hn9 g hg).imp id (fun h => by omega)))
      have x3d := (World.cell?_of_block (a := ⟨WA.heap.size, c, none⟩) ((grownBy_trans hg5 hg7).block WA.heap.size (by omega) (by simp))).trans hu1
      have x3e := (World.frozen?_of_block (a := ⟨WA.heap.size, c, none⟩) ((grownBy_trans hg5 hg7).block WA.heap.size (by omega) (by simp))).trans hu2
      obtain ⟨A9, c9, hre9, _, _⟩ := hr9.ints.dims
      clear hr9 hn9
      refine anyU_ready (rs := [11]) (by kernel_rfl) (by simp) ?_
      refine ReadyU.cons (i := 11) rfl (fun K hK => ?_) ReadyU.nil
      simp only [List.getElem_toArray, List.getElem_cons_succ, List.getElem_cons_zero]
      refine ite_is (by rfl) ?_
      simp [go_sem, hci]
      refine hK.out _ _ ⟨fun h => absurd h (by decide), ?_⟩
      clear hK K
      try simp only [List.getElem_toArray, List.getElem_cons_succ, List.getElem_cons_zero, Act.put, List.setIfInBounds_toArray, List.set_cons_zero, List.set_cons_succ]
      refine anyU_ready (rs := [12]) (by kernel_rfl) (by simp) ?_
      refine ReadyU.cons (i := 12) rfl (fun K hK => ?_) ReadyU.nil
      simp only [List.getElem_toArray, List.getElem_cons_succ, List.getElem_cons_zero]
      refine ite_is (by rfl) ?_
      simp [go_sem, x3d, x3e, hue, hre9]
      refine hK.out _ _ ⟨fun h => absurd h (by decide), ?_⟩
      clear hK K
      try simp only [List.getElem_toArray, List.getElem_cons_succ, List.getElem_cons_zero, Act.put, List.setIfInBounds_toArray, List.set_cons_zero, List.set_cons_succ]
      refine nameU ?_
      intro W9 HW9
      have hg9 : W7.grownBy W9 (some WA.heap.size) := by rw [HW9.out]; exact grown_set _ _ _
      have hs9 := hg9.size
      have HF9 := Lib.hid (HF7.out.grown hg9 (fun g hg => by cases hg; omega)); clear HF7
      have R9 := Lib.hid (IntS.far R7.out hg9 (by omega) (fun g hg => by cases hg; omega)); clear R7
      have HGN : Hid (Gro W9 WA.heap.size 3 (ys.set c (putL row d))) := by rw [HW9.out, ← hre9]; exact HGN0
      have hzn : WA.heap.size + 1 ≤ W9.heap.size := by omega
      clear HW9 HGN0 x3d x3e
      clear hS8
      refine anyU_done (by kernel_rfl) ?_ _
      go_wp2_with fail
      go_roundw
      case rel => exact ⟨i + 1, _, by omega, by go_num, HGN, HSN, R9, by omega, HF9⟩
      case measure => simp [intOf]; omega

end Go.Proofs.Ytkobodoboeoaiaa

/- A row of a slice of slices that is turned in place, or stored anew. No condition on any program. -/
namespace Go.Proofs.Ytkobodoboeoaiaa
open Go.ChangeShapes Go.WideShapes Go.ChangeAt Go.RowKit
set_option linter.unusedVariables false

theorem ISSx.row {w : World} {lo hi b n c : Nat} {xss : List (List Int)} (h : IntSSx w lo hi (.slice (some ⟨b, 0, none⟩) n c) xss) (hh : hi ≤ w.heap.size) {a : Nat} (ha : a < xss.length) :
    ∃ u, w.cell? ⟨b, a, none⟩ = some u ∧ w.frozen? ⟨b, a, none⟩ = false ∧ lo ≤ b ∧ b < hi ∧ IntS w lo hi u (nthL xss a) ∧ rowOf (nthL xss a).length u ≠ some b ∧
      (∀ w' u' xs, w.grownBy w' (rowOf (nthL xss a).length u) → IntS w' lo hi u' xs → (rowOf xs.length u' = none ∨ rowOf xs.length u' = rowOf (nthL xss a).length u) → w'.cell? ⟨b, a, none⟩ = some u' → IntSSx w' lo hi (.slice (some ⟨b, 0, none⟩) n c) (xss.set a xs)) ∧
      (∀ w' u' xs, w.grownBy w' (rowOf (nthL xss a).length u) → IntS w' lo hi u' xs → (rowOf xs.length u' = none ∨ rowOf xs.length u' = rowOf (nthL xss a).length u) → IntSSx (w'.setCell ⟨b, a, none⟩ u') lo hi (.slice (some ⟨b, 0, none⟩) n c) (xss.set a xs)) := by
  obtain ⟨vs, h1, h2, h3, h4⟩ := h
  obtain ⟨A', c', e, m1, m2, m3⟩ := h1
  injection e with e1 e2 e3
  subst e1 e2 e3
  obtain ⟨b', o', e4, l1, l2, l3⟩ := m3 (by omega)
  injection e4 with e4
  injection e4 with e5 e6 e7
  subst e5 e6
  have hcell := fun j (hj : j < xss.length) => l3 j (by omega)
  simp only [Nat.zero_add] at hcell
  have htop : rowOf xss.length (.slice (some ⟨b, 0, none⟩) xss.length c) = some b := rowOf_some (by omega)
  have hnb : ∀ j, j < xss.length → rowOf (nthL xss j).length (vs j) ≠ some b := fun j hj => by
    rcases h4 j hj with e | e
    · rw [e]; simp
    · rw [htop] at e; exact e
  have hother : ∀ j, j < xss.length → j ≠ a → rowOf (nthL xss j).length (vs j) = none ∨ rowOf (nthL xss j).length (vs j) ≠ rowOf (nthL xss a).length (vs a) := fun j hj hja => by
    rcases Nat.lt_or_gt_of_ne hja with h | h
    · exact h3 j a h ha
    · rcases h3 a j h hj with e | e
      · rw [e]
        cases rowOf (nthL xss j).length (vs j) with
        | none => exact .inl rfl
        | some g => exact .inr (by simp)
      · exact .inr fun e2 => e e2.symm
  have key : ∀ (w' : World) (u' : Value) (xs : List Int), w.grownBy w' (rowOf (nthL xss a).length (vs a)) → IntS w' lo hi u' xs → (rowOf xs.length u' = none ∨ rowOf xs.length u' = rowOf (nthL xss a).length (vs a)) →
      ∀ w2 : World, w'.grownBy w2 (some b) → (∀ j, j < xss.length → w2.cell? ⟨b, j, none⟩ = some (if j = a then u' else vs j) ∧ w2.frozen? ⟨b, j, none⟩ = false) →
      IntSSx w2 lo hi (.slice (some ⟨b, 0, none⟩) xss.length c) (xss.set a xs) := by
    intro w' u' xs hg hx hr w2 hg2 hc
    have hs := hg.size
    have hxb : rowOf xs.length u' ≠ some b := by
      rcases hr with e | e
      · rw [e]; simp
      · rw [e]; exact hnb a ha
    have hrow : ∀ j, nthL (xss.set a xs) j = if j = a then xs else nthL xss j := fun j => nthL_set ha xs j
    refine ⟨fun j => if j = a then u' else vs j, ⟨_, _, by rw [List.length_set], by rw [List.length_set]; exact m1, m2, fun _ => ⟨b, 0, rfl, l1, l2, fun j hj => ?_⟩⟩, fun j hj => ?_, fun i j hij hj => ?_, fun j hj => ?_⟩
    · rw [Nat.zero_add]
      exact hc j (by simpa using hj)
    · rw [List.length_set] at hj
      rw [hrow]
      dsimp only
      by_cases e : j = a
      · rw [if_pos e, if_pos e]
        exact Sl.grown hx hg2 (by omega) (.inr hxb)
      · rw [if_neg e, if_neg e]
        exact Sl.grown (Sl.grown (h2 j hj) hg hh (hother j hj e)) hg2 (by omega) (.inr (hnb j hj))
    · rw [List.length_set] at hj
      rw [hrow, hrow]
      dsimp only
      by_cases ei : i = a
      · have ej : j ≠ a := by omega
        rw [if_pos ei, if_pos ei, if_neg ej, if_neg ej]
        rcases hr with e | e
        · exact .inl e
        · rw [e]
          rcases hother j hj ej with e2 | e2
          · rw [e2]
            cases rowOf (nthL xss a).length (vs a) with
            | none => exact .inl rfl
            | some g => exact .inr (by simp)
          · exact .inr fun e3 => e2 e3.symm
      · rw [if_neg ei, if_neg ei]
        by_cases ej : j = a
        · rw [if_pos ej, if_pos ej]
          rcases hr with e | e
          · rw [e]
            cases rowOf (nthL xss i).length (vs i) with
            | none => exact .inl rfl
            | some g => exact .inr (by simp)
          · rw [e]; exact hother i (by omega) ei
        · rw [if_neg ej, if_neg ej]; exact h3 i j hij hj
    · rw [List.length_set] at hj ⊢
      rw [hrow, htop]
      dsimp only
      by_cases e : j = a
      · rw [if_pos e, if_pos e]; exact .inr hxb
      · rw [if_neg e, if_neg e]; exact .inr (hnb j hj)
  refine ⟨vs a, (hcell a ha).1, (hcell a ha).2, l1, l2, h2 a ha, hnb a ha, ?_, ?_⟩
  · intro w' u' xs hg hx hr hc
    refine key w' u' xs hg hx hr w' (World.grownBy.refl _ _) fun j hj => ?_
    have hbk : w'.heap[b]? = w.heap[b]? := hg.block b (by omega) (fun e => hnb a ha e.symm)
    refine ⟨?_, (World.frozen?_of_block (a := ⟨b, j, none⟩) hbk).trans (hcell j hj).2⟩
    by_cases e : j = a
    · subst e; rw [if_pos rfl]; exact hc
    · rw [if_neg e]; exact (World.cell?_of_block (a := ⟨b, j, none⟩) hbk).trans (hcell j hj).1
  · intro w' u' xs hg hx hr
    have hbk : w'.heap[b]? = w.heap[b]? := hg.block b (by omega) (fun e => hnb a ha e.symm)
    refine key w' u' xs hg hx hr _ (grown_set w' ⟨b, a, none⟩ u') fun j hj => ?_
    have hcj : w'.cell? ⟨b, j, none⟩ = some (vs j) := (World.cell?_of_block (a := ⟨b, j, none⟩) hbk).trans (hcell j hj).1
    refine ⟨?_, by rw [World.frozen?_setCell]; exact (World.frozen?_of_block (a := ⟨b, j, none⟩) hbk).trans (hcell j hj).2⟩
    by_cases e : j = a
    · subst e; rw [if_pos rfl]; exact World.cell?_setCell_same' _ _ _ (by rw [hcj]; rfl)
    · rw [if_neg e, World.cell?_setCell_other (w := w') (a := ⟨b, a, none⟩) (b := ⟨b, j, none⟩) (v := u') (h := fun h => e (by injection h with _ h2; exact h2.symm))]; exact hcj

open Go.Sort in
/-- slices.Compact, and where its result lies -/
theorem compact_row (v : Value) (zs : List Int) (lo hi : Nat) (w : World) (h : IntS w lo hi v zs) (hhi : hi ≤ w.heap.size) (hn : zs.length ≤ 16777216) :
    Calls Try.prog 123 #[v] w fun e w' => ∃ r, e = .returned r ∧ IntS w' lo hi r (Lib.compact zs) ∧ w.grownBy w' (rowOf zs.length v) ∧ (rowOf (Lib.compact zs).length r = none ∨ rowOf (Lib.compact zs).length r = rowOf zs.length v) := by
  obtain ⟨A, c, rfl, hc1, hc2, hcell⟩ := h.form
  rcases Nat.eq_zero_or_pos zs.length with h0 | h0
  · obtain rfl : zs = [] := List.eq_nil_of_length_eq_zero h0
    refine (Try.slices_Compact_int_empty _ _ _).mono ?_
    rintro e w' ⟨rfl, rfl⟩
    exact ⟨_, rfl, by simpa [Lib.compact, Lib.compactUpTo] using h, World.grownBy.refl _ _, .inl (by simp [Lib.compact, Lib.compactUpTo, rowOf])⟩
  · obtain ⟨b, off, rfl, hb1, hb2, hcs⟩ := hcell h0
    have hH : Holds (Value.int .i64) w b off zs.toArray := fun j hj => by
      have hj' : j < zs.length := by simpa using hj
      have := hcs j hj'
      rw [nth_eq hj'] at this
      simpa [hj'] using this
    refine (Try.slices_Compact_int b off c zs w hH (by omega) hc1).mono ?_
    rintro e w' ⟨rfl, q, rfl⟩
    have hl := compact_len zs
    obtain ⟨cs, HC⟩ : ∃ cs, Lib.compact zs = cs := ⟨_, rfl⟩
    rw [HC] at hl ⊢
    have hs : (cs ++ List.replicate (zs.length - cs.length) 0).toArray.size = zs.toArray.size := by simp; omega
    have hH2 := holds_putRow (Value.int .i64) (Sort.ahead w q) b off zs.toArray (cs ++ List.replicate (zs.length - cs.length) 0).toArray hH hs
    refine ⟨_, rfl, ?_, ?_, ?_⟩
    · refine ⟨_, c, rfl, by omega, hc2, fun _ => ⟨b, off, rfl, hb1, hb2, fun j hj => ?_⟩⟩
      have hj1 : j < cs.length := by omega
      have hj2 : j < (cs ++ List.replicate (zs.length - cs.length) 0).length := by rw [List.length_append]; omega
      obtain ⟨q1, q2⟩ := hH2 j (by simpa using hj2)
      refine ⟨?_, q2⟩
      show _ = some (Value.int .i64 (nth cs j))
      rw [q1, nth_eq hj1]
      rw [getElem!_pos _ j (by simpa using hj2)]
      simp [List.getElem_append_left hj1]
    · rw [rowOf_some h0]
      refine ⟨rfl, rfl, rfl, by simp [putRow, mapBlock, Sort.ahead], fun k hk hne => ?_⟩
      have hkb : b ≠ k := fun e => hne (by rw [e])
      simp [putRow, mapBlock, Array.getElem?_modify, hkb, Sort.ahead]
    · rcases Nat.eq_zero_or_pos cs.length with e | e
      · exact .inl (by rw [e]; rfl)
      · exact .inr (by rw [rowOf_some e, rowOf_some h0])

end Go.Proofs.Ytkobodoboeoaiaa

/- Two rows of a growing slice of slices that get new rows at once. No condition on any program. -/
namespace Go.Proofs.Ytkobodoboeoaiaa
open Go.RowKit
set_option linter.unusedVariables false

theorem OwnI.grown2 {w w' : World} {base : Nat} {e : TypeId} {v : Value} {zs : List Int} {r1 r2 : Option Nat} (h : OwnI w base e v zs) (G : Grown2 w w' r1 r2) (h1 : v.ownBlock = none ∨ v.ownBlock ≠ r1) (h2 : v.ownBlock = none ∨ v.ownBlock ≠ r2) : OwnI w' base e v zs := by
  have hl := h.lt
  obtain ⟨a1, a2⟩ := h
  refine ⟨a1, ?_⟩
  rcases a2 with a2 | ⟨g, cap, cur, e1, hg, hh, r⟩
  · exact .inl a2
  · have hob : v.ownBlock = some g := by rw [e1]; rfl
    refine .inr ⟨g, cap, cur, e1, hg, (G.block g (hl g hob).2 ?_ ?_).trans hh, r⟩
    · intro e3; rcases h1 with h | h
      · rw [hob] at h; cases h
      · exact h (by rw [hob]; exact e3)
    · intro e3; rcases h2 with h | h
      · rw [hob] at h; cases h
      · exact h (by rw [hob]; exact e3)
theorem Gro.two {w : World} {b : Nat} {e : TypeId} {xss : List (List Int)} (h : Gro w b e xss) {i k : Nat} (hi : i < xss.length) (hk : k < xss.length) (hik : i ≠ k) :
    ∃ u v, w.cell? ⟨b, i, none⟩ = some u ∧ w.frozen? ⟨b, i, none⟩ = false ∧ w.cell? ⟨b, k, none⟩ = some v ∧ w.frozen? ⟨b, k, none⟩ = false ∧ OwnI w (b + 1) e u (nthL xss i) ∧ OwnI w (b + 1) e v (nthL xss k) ∧ Apart u v ∧ b < w.heap.size ∧
      ∀ u' v' w' zs ys, OwnI w' (b + 1) e u' zs → OwnI w' (b + 1) e v' ys → Grown2 w w' u.ownBlock v.ownBlock → Apart u' v' → (∀ g, u'.ownBlock = some g → u.ownBlock = some g ∨ w.heap.size ≤ g) → (∀ g, v'.ownBlock = some g → v.ownBlock = some g ∨ w.heap.size ≤ g) →
        Gro ((w'.setCell ⟨b, i, none⟩ u').setCell ⟨b, k, none⟩ v') b e ((xss.set i zs).set k ys) := by
  obtain ⟨vs, h1, h2, h3, h4⟩ := h
  have hat := h1.at_ (j := i) (by omega)
  have hat2 := h1.at_ (j := k) (by omega)
  rw [Nat.zero_add] at hat hat2
  refine ⟨vs i, vs k, hat.1, hat.2, hat2.1, hat2.2, h3 i hi, h3 k hk, h4 i k hi hk hik, h2, fun u' v' w' zs ys hu hv G hap fu fv => ?_⟩
  have hub : ∀ g, (vs i).ownBlock = some g → b + 1 ≤ g := fun g e => ((h3 i hi).lt g e).1
  have hvb : ∀ g, (vs k).ownBlock = some g → b + 1 ≤ g := fun g e => ((h3 k hk).lt g e).1
  have hs := G.size
  have h1' : Sl w' b (b + 1) 1 (.slice (some ⟨b, 0, none⟩) xss.length xss.length) xss.length vs := Sl.keep h1 fun j a1 a2 => G.block j (by omega) (fun e => by have := hub j e.symm; omega) (fun e => by have := hvb j e.symm; omega)
  have hset := h1'.set (j := i) (by omega) u'
  rw [Nat.zero_add] at hset
  have hset2 := hset.set (j := k) (by omega) v'
  rw [Nat.zero_add] at hset2
  have hg1 : w'.grownBy (w'.setCell ⟨b, i, none⟩ u') (some b) := grown_set w' ⟨b, i, none⟩ _
  have hg2 : (w'.setCell ⟨b, i, none⟩ u').grownBy ((w'.setCell ⟨b, i, none⟩ u').setCell ⟨b, k, none⟩ v') (some b) := grown_set _ ⟨b, k, none⟩ _
  have hgg := grownBy_trans hg1 hg2
  have hrow : ∀ j, nthL ((xss.set i zs).set k ys) j = if j = k then ys else if j = i then zs else nthL xss j := fun j => by
    rw [nthL_set (by rw [List.length_set]; omega), nthL_set hi]
  refine ⟨fun j => if j = k then v' else if j = i then u' else vs j, ?_, by rw [size_setCell, size_setCell]; omega, fun j hj => ?_, fun j l hj hl hjl => ?_⟩
  · rw [List.length_set, List.length_set]; exact hset2
  · rw [List.length_set, List.length_set] at hj
    rw [hrow]
    dsimp only
    by_cases ek : j = k
    · rw [if_pos ek, if_pos ek]
      exact hv.far hgg fun g e => .inl (by injection e; omega)
    · rw [if_neg ek, if_neg ek]
      by_cases ei : j = i
      · rw [if_pos ei, if_pos ei]
        exact hu.far hgg fun g e => .inl (by injection e; omega)
      · rw [if_neg ei, if_neg ei]
        exact (OwnI.grown2 (h3 j hj) G (h4 j i hj hi ei).keeps (h4 j k hj hk ek).keeps).far hgg fun g e => .inl (by injection e; omega)
  · rw [List.length_set, List.length_set] at hj hl
    dsimp only
    by_cases ek : j = k
    · rw [if_pos ek, if_neg (by omega)]
      by_cases el : l = i
      · rw [if_pos el]; exact hap.symm
      · rw [if_neg el]
        exact (Apart.fresh (h4 l k hl hk (by omega)) (h3 l hl) fv).symm
    · rw [if_neg ek]
      by_cases ei : j = i
      · rw [if_pos ei]
        by_cases el : l = k
        · rw [if_pos el]; exact hap
        · rw [if_neg el, if_neg (by omega)]
          exact (Apart.fresh (h4 l i hl hi (by omega)) (h3 l hl) fu).symm
      · rw [if_neg ei]
        by_cases el : l = k
        · rw [if_pos el]; exact Apart.fresh (h4 j k hj hk ek) (h3 j hj) fv
        · rw [if_neg el]
          by_cases el2 : l = i
          · rw [if_pos el2]; exact Apart.fresh (h4 j i hj hi ei) (h3 j hj) fu
          · rw [if_neg el2]; exact h4 j l hj hl hjl

end Go.Proofs.Ytkobodoboeoaiaa

/- Contract of the program's adjacentClusters. -/
namespace Go.Proofs.Ytkobodoboeoaiaa
open Go.ChangeShapes Go.WideShapes Go.ChangeAt Go.RowKit
set_option linter.unusedVariables false

/-- the rows' own blocks lie from A on -/
def FarR (w : World) (b A n : Nat) : Prop := b < w.heap.size ∧ ∀ i, i < n → ∀ u, w.cell? ⟨b, i, none⟩ = some u → ∀ g, u.ownBlock = some g → A ≤ g
theorem FarR.still {w w' : World} {b A n : Nat} (h : FarR w b A n) (hg : w.grownBy w' none) : FarR w' b A n := ⟨Nat.lt_of_lt_of_le h.1 hg.size, fun i hi u hu =>
  h.2 i hi u ((World.cell?_of_block (a := ⟨b, i, none⟩) (hg.block b h.1 (by simp))).symm.trans hu)⟩
theorem FarR.two {w w' : World} {b A n i k : Nat} {u v u' v' : Value} (h : FarR w b A n) (hA : A ≤ w.heap.size) (hi : i < n) (hk : k < n) (hik : i ≠ k) (ci : w.cell? ⟨b, i, none⟩ = some u) (ck : w.cell? ⟨b, k, none⟩ = some v) (hb : w'.heap[b]? = w.heap[b]?) (hsz : w.heap.size ≤ w'.heap.size)
    (fu : ∀ g, u'.ownBlock = some g → u.ownBlock = some g ∨ w.heap.size ≤ g) (fv : ∀ g, v'.ownBlock = some g → v.ownBlock = some g ∨ w.heap.size ≤ g) : FarR ((w'.setCell ⟨b, i, none⟩ u').setCell ⟨b, k, none⟩ v') b A n := by
  have e : ∀ j, w'.cell? ⟨b, j, none⟩ = w.cell? ⟨b, j, none⟩ := fun j => World.cell?_of_block (a := ⟨b, j, none⟩) hb
  have ne : ∀ {x y : Nat}, x ≠ y → (⟨b, x, none⟩ : Addr) ≠ ⟨b, y, none⟩ := fun hxy h => by injection h; omega
  refine ⟨by have := h.1; rw [size_setCell, size_setCell]; omega, ?_⟩
  intro j hj x hx g hg
  by_cases ek : j = k
  · subst ek
    rw [World.cell?_setCell_same _ _ _ (u := v) ((World.cell?_setCell_other _ _ _ _ (ne hik)).trans ((e j).trans ck))] at hx
    injection hx with hx
    subst hx
    rcases fv g hg with e1 | e1
    · exact h.2 j hj v ck g e1
    · omega
  · rw [World.cell?_setCell_other _ _ _ _ (ne (fun h => ek h.symm))] at hx
    by_cases ei : j = i
    · subst ei
      rw [World.cell?_setCell_same _ _ _ (u := u) ((e j).trans ci)] at hx
      injection hx with hx
      subst hx
      rcases fu g hg with e1 | e1
      · exact h.2 j hj u ci g e1
      · omega
    · rw [World.cell?_setCell_other _ _ _ _ (ne (fun h => ei h.symm)), e j] at hx
      exact h.2 j hj x hx g hg
theorem FarR.made (w : World) (n : Nat) (t : TypeId) {g : Nat} (hg : w.heap.size = g) (hn : n ≤ 1099511627776) (A : Nat) : FarR (w.alloc (.cells (madeCells #[.slice none 0 0] n) t)) g A n := by
  subst hg
  refine ⟨by simp, ?_⟩
  intro i hi u hu x hx
  have hr := World.rowIs_made w (.slice none 0 0) n t
  have S : Sl (w.alloc (.cells (madeCells #[.slice none 0 0] n) t)) w.heap.size (w.heap.size + 1) 1 (.slice (some ⟨w.heap.size, 0, none⟩) n n) n (fun _ => .slice none 0 0) :=
    (Sl.of_row (lo := w.heap.size) (sz := 1) (n := n) (c := n) hr (Nat.le_refl _) (by omega) (Nat.le_refl _) (by unfold maxLen; omega)).mono (Nat.le_refl _) (by simp)
  have := (S.at_ (j := i) (by omega)).1
  rw [Nat.zero_add] at this
  rw [this] at hu
  injection hu with hu
  subst hu
  cases hx
theorem own_app {w : World} {base : Nat} {e : TypeId} {v : Value} {ps : List Int} {z : Int} (h : w.ownsRow base e 1 v (ps.length + 1) (ps.map (Value.int .i64) ++ [.int .i64 z])) : OwnI w base e v (ps ++ [z]) := by
  unfold OwnI Own
  rw [List.map_append]
  simpa using h
theorem ap_grow {vp vq : Value} {gp H n c : Nat} (hap : Apart vp vq) (hat : vp.ownBlock = some gp ∨ gp = H) (hq : ∀ k, vq.ownBlock = some k → k < H) : Apart (.slice (some ⟨gp, 0, none⟩) n c) vq := by
  rcases hap with e | e | e
  · rcases hat with h | h
    · rw [e] at h; cases h
    · refine .inr (.inr ?_)
      show some gp ≠ vq.ownBlock
      intro e2; have := hq gp e2.symm; omega
  · exact .inr (.inl e)
  · refine .inr (.inr ?_)
    show some gp ≠ vq.ownBlock
    rcases hat with h | h
    · rw [← h]; exact e
    · intro e2; have := hq gp e2.symm; omega
theorem at_fresh {v : Value} {g H A n c : Nat} (hat : v.ownBlock = some g ∨ g = H) (hA : A ≤ H) : ∀ x, (Value.slice (some ⟨g, 0, none⟩) n c).ownBlock = some x → v.ownBlock = some x ∨ A ≤ x := by
  intro x hx
  have hx : g = x := by simpa [Value.ownBlock] using hx
  subst hx
  rcases hat with h | h
  · exact .inl h
  · exact .inr (by omega)

set_option maxHeartbeats 4000000 in
set_option maxRecDepth 100000 in
theorem adjacentClusters_any (v1 : Value) (N : NetD) (lo1 hi1 : Nat) (v2 : Value) (l : List Int) (lo2 hi2 : Nat) (w : World) (h1 : Net w lo1 hi1 v1 N) (hh1 : hi1 ≤ w.heap.size) (h2 : IntS w lo2 hi2 v2 l) (hh2 : hi2 ≤ w.heap.size) (hg : N.good = true) (hc : Clus N l) :
    Calls Try.prog 56 #[v1, v2] w fun e w' => ∃ r, e = .returned (r) ∧ IntSSx w' w.heap.size w'.heap.size r (adjCl N l ((mostI l).toNat + 1)) ∧ Below w.heap.size w w' := by
  obtain ⟨n1, n40⟩ := good_n hg
  have HG := Lib.hid hg; clear hg
  have hlow := Lib.hid (fun x hx => hc.low x hx)
  have hlpos : 0 < l.length := by have := hc.len; omega
  have hll := hc.len
  obtain ⟨m0, em0, hm0⟩ := hc.most HG.out
  have hml0 := clus_label hc em0
  obtain ⟨k, hk0⟩ : ∃ k, k = m0 + 1 := ⟨_, rfl⟩
  rw [← hk0] at hml0
  have HML := Lib.hid hml0; clear hml0
  have ek : (mostI l).toNat + 1 = k := by omega
  rw [ek]
  clear ek
  have HLL := Lib.hid hll
  have HM0 : Hid (mostI l + 1 = (k : Int)) := Lib.hid (by omega)
  clear em0
  have hmk := fun W => run_make_row' (P := Try.prog) 27 23 (.slice none 0 0) 24 Try.underlying27 Try.infoRowA rfl .i64 .i64 k (by omega) (by omega) W
  have hkn : k ≤ N.ends.length := by omega
  have hlle : l.length ≤ N.ends.length := by omega
  clear hll hk0 hm0
  have hel : (edges N).length ≤ 6 * N.ends.length := edgesE_len HG.out N.ends.length (Nat.le_refl _)
  have F1 := Lib.hid h1
  obtain ⟨A1, c1, A1', c1', A1'', c1'', rfl, hc1, hd1, _⟩ := h1.parts
  obtain ⟨b1, o1, _, _, rfl, _⟩ := Net.rowAt F1.out (u := 0) (by omega)
  clear h1
  have F2 := Lib.hid h2
  obtain ⟨A2, c2, rfl, hc2, hd2⟩ := h2.dims
  clear h2
  obtain ⟨WA, HWA⟩ : ∃ W, Hid (W = (w.alloc (.cells #[.slice (some ⟨b1, o1, none⟩) N.ends.length c1, .slice A1' N.ids.length c1', .slice A1'' N.inputs.length c1''] 32))) := ⟨_, Lib.hid rfl⟩
  have hbA : Below w.heap.size w WA := by rw [HWA.out]; exact ((Below.refl _ _).alloc (Nat.le_refl _) _)
  have hsA : w.heap.size + 1 ≤ WA.heap.size := by rw [HWA.out]; simp; try omega
  have bx1 : BoxN WA (w.heap.size) #[.slice (some ⟨b1, o1, none⟩) N.ends.length c1, .slice A1' N.ids.length c1', .slice A1'' N.inputs.length c1''] 32 := by rw [HWA.out]; exact (BoxN.new' _ _ _ (by simp))
  have G1 := Lib.hid (Net.below F1.out hbA hh1); clear F1
  have G2 := Lib.hid (IntS.below F2.out hbA hh2); clear F2
  go_enter Try.func56, Try.ntmps56
  go_upto_region 1 with (fail)
  rw [← HWA.out]; clear HWA
  go_upto_region 2 with ((go_at_call 117; refine (classCount_any _ l _ _ _ G2.out hlpos (fun x hx => (hlow.out x hx).1) (fun x hx => by have := hlow.out x hx; omega)).mono ?_; rintro e w' ⟨rfl, rfl⟩; rw [HM0.out]))
  refine nameC ?_
  intro W1 HW1
  have hg1 : WA.grownBy W1 none := by rw [HW1.out]; exact grown_alloc _ _
  have hs1 := hg1.size
  have HF1 := Lib.hid ((Turned.refl WA.heap.size WA.heap.size WA).still hg1)
  have HGR := Lib.hid (show Gro W1 WA.heap.size 3 (List.replicate k []) by rw [HW1.out]; exact Gro.made _ k _ _ rfl (by omega))
  have hfr : ∀ A, FarR W1 WA.heap.size A k := fun A => by rw [HW1.out]; exact FarR.made _ k _ rfl (by omega) A
  have hz : WA.heap.size + 1 ≤ W1.heap.size := by rw [HW1.out]; simp
  clear HW1 hmk
  have kbx1_0 : W1.cell? ⟨w.heap.size, 0, none⟩ = some (.slice (some ⟨b1, o1, none⟩) N.ends.length c1) := (HF1.out.boxN bx1 (by omega)).cell 0 (by simp)
  have kbx1_1 : W1.cell? ⟨w.heap.size, 1, none⟩ = some (.slice A1' N.ids.length c1') := (HF1.out.boxN bx1 (by omega)).cell 1 (by simp)
  have kbx1_2 : W1.cell? ⟨w.heap.size, 2, none⟩ = some (.slice A1'' N.inputs.length c1'') := (HF1.out.boxN bx1 (by omega)).cell 2 (by simp)
  go_wp2_with fail
  clear kbx1_0 kbx1_1 kbx1_2
  refine (edges_any _ N lo1 hi1 _ (Net.turned G1.out HF1.out (by omega) (by omega)) (by omega) HG.out).mono ?_
  rintro e W2 ⟨r, rfl, hr, hb2⟩
  have hg2 := grown_below hb2; clear hb2
  have hs2 := hg2.size
  have HF2 := Lib.hid (HF1.out.still hg2); clear HF1
  have GR2 := Lib.hid (Gro.still HGR.out hg2); clear HGR
  have E2 := Lib.hid hr; clear hr
  obtain ⟨Ae, ce, rfl, hce, hde⟩ := E2.out.dims
  go_wp2_with fail
  have HFR0 := Lib.hid ((hfr W2.heap.size).still hg2); clear hfr
  have N_2 := Lib.hid (Net.turned G1.out HF2.out (by omega) (by omega)); clear G1
  have l_2 := Lib.hid (IntS.turned G2.out HF2.out (by omega) (by omega)); clear G2
  have bx1_2 := HF2.out.boxN bx1 (by omega); clear bx1
  have hbA2 := (HF2.out.below_of hbA (by omega) (by omega)); clear hbA HF2
  go_loopw [17] (fun iv wr => ∃ (q : Nat) (xss : List (List Int)), q ≤ (edges N).length ∧ iv = .int .i64 q ∧ Hid (Gro wr WA.heap.size 3 xss) ∧ Hid (PAdj l (edges N) q k xss) ∧ Hid (FarR wr WA.heap.size W2.heap.size k) ∧ Hid (Turned WA.heap.size (WA.heap.size + 1) W2 wr)) (fun iv _ => (edges N).length - (intOf iv).toNat)
  case atStart => exact ⟨0, List.replicate k [], Nat.zero_le _, rfl, GR2, Lib.hid (PAdj.zero l (edges N) k), HFR0, Lib.hid (Turned.refl WA.heap.size (WA.heap.size + 1) W2)⟩
  case round =>
    obtain ⟨q, xss, hq, rfl, HG2, HP, HFR, HF3⟩ := hrel
    have hs3 := HF3.out.size
    have hxl := HP.out.len
    by_cases hlt : q < (edges N).length
    case pos =>
      obtain ⟨x, i9, z, j9, eq, q1, _, q3, _, _⟩ := edge_nat HG.out (nthQ_mem hlt)
      obtain ⟨be, oe, rfl, _, hbe, z1, z2, z3, z4⟩ := QuadS.opened (QuadS.turned E2.out HF3.out (by omega) (by omega)) hlt
      obtain ⟨a, ea, ham⟩ := HML.out x q1
      obtain ⟨b, eb, hbm⟩ := HML.out z q3
      rw [eq] at z1 z2 z3 z4
      dsimp only at z1 z2 z3 z4
      have EQ := Lib.hid eq
      have EA := Lib.hid ea
      have EB := Lib.hid eb
      clear eq ea eb
      have hxl2 : x < l.length := by have := HLL.out; omega
      have hzl2 : z < l.length := by have := HLL.out; omega
      obtain ⟨bl, ol, rfl, _, hbl, _, _⟩ := IntS.opened (IntS.turned l_2.out HF3.out (by omega) (by omega)) hxl2
      have hxi : (x : Int) < l.length := by omega
      have hzi : (z : Int) < l.length := by omega
      have hqi : (q : Int) < (edges N).length := by omega
      obtain ⟨wq, rfl⟩ : ∃ wq : World, wq = wr := ⟨_, rfl⟩
      go_upto_region 5 with (fail)
      refine nameC ?_
      intro W4 HW4
      have hg4 : wq.grownBy W4 none := by rw [HW4.out]; exact grown_alloc _ _
      have hs4 := hg4.size
      have HF4 := Lib.hid (HF3.out.still hg4); clear HF3
      have GR4 := Lib.hid (Gro.still HG2.out hg4); clear HG2
      have FR4 := Lib.hid (FarR.still HFR.out hg4); clear HFR
      have BQ := Lib.hid (show BoxN W4 wq.heap.size #[.int .i64 x, .int .i64 i9, .int .i64 z, .int .i64 j9] 116 by rw [HW4.out]; exact BoxN.new _ _ _)
      have hbq := BQ.out.lt
      clear HW4 z1 z2 z3 z4
      refine wp_region_U (fun w' => w'.cell? ⟨wq.heap.size, 0, none⟩ = some (.int .i64 x) ∧ w'.cell? ⟨wq.heap.size, 2, none⟩ = some (.int .i64 z) ∧ w'.cell? ⟨bl, ol + x, none⟩ = some (.int .i64 a) ∧ w'.cell? ⟨bl, ol + z, none⟩ = some (.int .i64 b)) [] (by kernel_rfl) ?_
      refine nameU ?_
      intro W5 HW5
      have hg5 : W4.grownBy W5 none := by rw [HW5.out]; exact grown_drew _
      clear HW5
      have hs5 := hg5.size
      have HF5 := Lib.hid (HF4.out.still hg5); clear HF4
      have GR5 := Lib.hid (Gro.still GR4.out hg5); clear GR4
      have FR5 := Lib.hid (FarR.still FR4.out hg5); clear FR4
      have BQ5 := Lib.hid (BoxN.still BQ.out hg5); clear BQ
      have hS6 : W5.cell? ⟨wq.heap.size, 0, none⟩ = some (.int .i64 x) ∧ W5.cell? ⟨wq.heap.size, 2, none⟩ = some (.int .i64 z) ∧ W5.cell? ⟨bl, ol + x, none⟩ = some (.int .i64 a) ∧ W5.cell? ⟨bl, ol + z, none⟩ = some (.int .i64 b) := ⟨BQ5.out.cell 0 (by simp), BQ5.out.cell 2 (by simp), (by have := (IntS.at_ (IntS.turned l_2.out HF5.out (by omega) (by omega)) (j := x) hxl2).1; rw [EA.out] at this; exact this), (by have := (IntS.at_ (IntS.turned l_2.out HF5.out (by omega) (by omega)) (j := z) hzl2).1; rw [EB.out] at this; exact this)⟩
      refine anyU_take (i := 0) (v := .slice (some ⟨bl, ol, none⟩) l.length c2) rfl (by kernel_rfl) (by kernel_rfl) (by kernel_rfl) (fun _ _ _ h => h) ⟨by rfl, fun w' hS' => (by obtain ⟨s1, s2, s3, s4⟩ := hS'; go_simp)⟩ hS6 ?_
      simp only [List.getElem_toArray, List.getElem_cons_zero, Act.put, List.setIfInBounds_toArray, List.set_cons_zero, List.set_cons_succ]
      refine anyU_take (i := 1) (v := .pointer (some ⟨wq.heap.size, 0, none⟩)) rfl (by kernel_rfl) (by kernel_rfl) (by kernel_rfl) (fun _ _ _ h => h) ⟨by rfl, fun w' hS' => (by obtain ⟨s1, s2, s3, s4⟩ := hS'; go_simp)⟩ hS6 ?_
      simp only [List.getElem_toArray, List.getElem_cons_succ, List.getElem_cons_zero, Act.put, List.setIfInBounds_toArray, List.set_cons_zero, List.set_cons_succ]
      refine anyU_take (i := 2) (v := .int .i64 x) rfl (by kernel_rfl) (by kernel_rfl) (by kernel_rfl) (fun _ _ _ h => h) ⟨by rfl, fun w' hS' => (by obtain ⟨s1, s2, s3, s4⟩ := hS'; go_simp)⟩ hS6 ?_
      simp only [List.getElem_toArray, List.getElem_cons_succ, List.getElem_cons_zero, Act.put, List.setIfInBounds_toArray, List.set_cons_zero, List.set_cons_succ]
      refine anyU_take (i := 3) (v := .pointer (some ⟨bl, ol + x, none⟩)) rfl (by kernel_rfl) (by kernel_rfl) (by kernel_rfl) (fun _ _ _ h => h) ⟨by rfl, fun w' hS' => (by obtain ⟨s1, s2, s3, s4⟩ := hS'; simp [go_sem, hxi])⟩ hS6 ?_
      simp only [List.getElem_toArray, List.getElem_cons_succ, List.getElem_cons_zero, Act.put, List.setIfInBounds_toArray, List.set_cons_zero, List.set_cons_succ]
      refine anyU_take (i := 4) (v := .int .i64 a) rfl (by kernel_rfl) (by kernel_rfl) (by kernel_rfl) (fun _ _ _ h => h) ⟨by rfl, fun w' hS' => (by obtain ⟨s1, s2, s3, s4⟩ := hS'; go_simp)⟩ hS6 ?_
      simp only [List.getElem_toArray, List.getElem_cons_succ, List.getElem_cons_zero, Act.put, List.setIfInBounds_toArray, List.set_cons_zero, List.set_cons_succ]
      refine anyU_take (i := 5) (v := .slice (some ⟨bl, ol, none⟩) l.length c2) rfl (by kernel_rfl) (by kernel_rfl) (by kernel_rfl) (fun _ _ _ h => h) ⟨by rfl, fun w' hS' => (by obtain ⟨s1, s2, s3, s4⟩ := hS'; go_simp)⟩ hS6 ?_
      simp only [List.getElem_toArray, List.getElem_cons_succ, List.getElem_cons_zero, Act.put, List.setIfInBounds_toArray, List.set_cons_zero, List.set_cons_succ]
      refine anyU_take (i := 6) (v := .pointer (some ⟨wq.heap.size, 2, none⟩)) rfl (by kernel_rfl) (by kernel_rfl) (by kernel_rfl) (fun _ _ _ h => h) ⟨by rfl, fun w' hS' => (by obtain ⟨s1, s2, s3, s4⟩ := hS'; go_simp)⟩ hS6 ?_
      simp only [List.getElem_toArray, List.getElem_cons_succ, List.getElem_cons_zero, Act.put, List.setIfInBounds_toArray, List.set_cons_zero, List.set_cons_succ]
      refine anyU_take (i := 7) (v := .int .i64 z) rfl (by kernel_rfl) (by kernel_rfl) (by kernel_rfl) (fun _ _ _ h => h) ⟨by rfl, fun w' hS' => (by obtain ⟨s1, s2, s3, s4⟩ := hS'; go_simp)⟩ hS6 ?_
      simp only [List.getElem_toArray, List.getElem_cons_succ, List.getElem_cons_zero, Act.put, List.setIfInBounds_toArray, List.set_cons_zero, List.set_cons_succ]
      refine anyU_take (i := 8) (v := .pointer (some ⟨bl, ol + z, none⟩)) rfl (by kernel_rfl) (by kernel_rfl) (by kernel_rfl) (fun _ _ _ h => h) ⟨by rfl, fun w' hS' => (by obtain ⟨s1, s2, s3, s4⟩ := hS'; simp [go_sem, hzi])⟩ hS6 ?_
      simp only [List.getElem_toArray, List.getElem_cons_succ, List.getElem_cons_zero, Act.put, List.setIfInBounds_toArray, List.set_cons_zero, List.set_cons_succ]
      refine anyU_take (i := 9) (v := .int .i64 b) rfl (by kernel_rfl) (by kernel_rfl) (by kernel_rfl) (fun _ _ _ h => h) ⟨by rfl, fun w' hS' => (by obtain ⟨s1, s2, s3, s4⟩ := hS'; go_simp)⟩ hS6 ?_
      simp only [List.getElem_toArray, List.getElem_cons_succ, List.getElem_cons_zero, Act.put, List.setIfInBounds_toArray, List.set_cons_zero, List.set_cons_succ]
      refine anyU_take (i := 10) (v := .int .i64 a) rfl (by kernel_rfl) (by kernel_rfl) (by kernel_rfl) (fun _ _ _ h => h) ⟨by rfl, fun w' hS' => (by obtain ⟨s1, s2, s3, s4⟩ := hS'; go_simp)⟩ hS6 ?_
      simp only [List.getElem_toArray, List.getElem_cons_succ, List.getElem_cons_zero, Act.put, List.setIfInBounds_toArray, List.set_cons_zero, List.set_cons_succ]
      refine anyU_take (i := 11) (v := .int .i64 b) rfl (by kernel_rfl) (by kernel_rfl) (by kernel_rfl) (fun _ _ _ h => h) ⟨by rfl, fun w' hS' => (by obtain ⟨s1, s2, s3, s4⟩ := hS'; go_simp)⟩ hS6 ?_
      simp only [List.getElem_toArray, List.getElem_cons_succ, List.getElem_cons_zero, Act.put, List.setIfInBounds_toArray, List.set_cons_zero, List.set_cons_succ]
      clear hS6
      refine anyU_done (by kernel_rfl) ?_ _
      by_cases hab : a = b
      case pos =>
        subst hab
        have HPN := Lib.hid (HP.out.same (by rw [EQ.out]; simp only [Int.toNat_natCast]; rw [EA.out, EB.out]))
        go_wp2_with fail
        go_roundw
        case rel => exact ⟨q + 1, xss, by omega, by go_num, GR5, HPN, FR5, HF5⟩
        case measure => simp [intOf]; omega
      have hab' : ((a : Int) != (b : Int)) = true := by simp; omega
      obtain ⟨ua, ub, ka1, ka2, kb1, kb2, oa, ob, hap, _, hnew⟩ := Gro.two GR5.out (i := a) (k := b) (by rw [hxl]; exact ham) (by rw [hxl]; exact hbm) hab
      have hca := HP.out.cnt a ham
      have hcb := HP.out.cnt b hbm
      have HPN := Lib.hid (HP.out.two (a := a) (b := b) (by rw [EQ.out]; exact EA.out) (by rw [EQ.out]; exact EB.out) hab ham hbm)
      obtain ⟨ra, HRA⟩ : ∃ r, Hid (nthL xss a = r) := ⟨_, Lib.hid rfl⟩
      obtain ⟨rb, HRB⟩ : ∃ r, Hid (nthL xss b = r) := ⟨_, Lib.hid rfl⟩
      rw [HRA.out] at oa hca HPN
      rw [HRB.out] at ob hcb HPN
      have OA := Lib.hid oa
      have OB := Lib.hid ob
      have HAP := Lib.hid hap
      have HNEW := Lib.hid hnew
      have LA := Lib.hid oa.lt
      have LB := Lib.hid ob.lt
      clear oa ob hap hnew
      have hai : (a : Int) < (k : Int) := by omega
      have hbi2 : (b : Int) < (k : Int) := by omega
      obtain ⟨i1, hi1', hz1⟩ := Option.map_eq_some_iff.1 Try.info3
      simp only [Prod.mk.injEq] at hz1
      obtain ⟨hz1a, hz1b, hz1c⟩ := hz1
      have HI1 := Lib.hid hz1a; have HI2 := Lib.hid hz1b; have HI3 := Lib.hid hz1c; have HII := Lib.hid hi1'
      clear hz1a hz1b hz1c hi1'
      have HL := Lib.hid (show ra.length ≤ 1048576 ∧ rb.length ≤ 1048576 by omega)
      have HFA := Lib.hid (fun g e => FR5.out.2 a ham ua ka1 g e)
      have HFB := Lib.hid (fun g e => FR5.out.2 b hbm ub kb1 g e)
      have HFS := Lib.hid (show b < k ∧ a < k ∧ W2.heap.size ≤ W5.heap.size by omega)
      have G2 := Lib.hid (Grown2.refl W5 ua.ownBlock ub.ownBlock)
      have HKA := Lib.hid (show ∀ W, Grown2 W5 W ua.ownBlock ub.ownBlock → W.cell? ⟨WA.heap.size, a, none⟩ = some ua ∧ W.cell? ⟨WA.heap.size, b, none⟩ = some ub ∧ W.frozen? ⟨WA.heap.size, a, none⟩ = false ∧ W.frozen? ⟨WA.heap.size, b, none⟩ = false ∧ W.heap[WA.heap.size]? = W5.heap[WA.heap.size]? from fun W G => by
        have e := G.block WA.heap.size (by omega) (fun e => by have := LA.out _ e.symm; omega) (fun e => by have := LB.out _ e.symm; omega)
        exact ⟨(World.cell?_of_block (a := ⟨WA.heap.size, a, none⟩) e).trans ka1, (World.cell?_of_block (a := ⟨WA.heap.size, b, none⟩) e).trans kb1, (World.frozen?_of_block (a := ⟨WA.heap.size, a, none⟩) e).trans ka2, (World.frozen?_of_block (a := ⟨WA.heap.size, b, none⟩) e).trans kb2, e⟩)
      have HKN := Lib.hid (show ∀ W, Grown2 W5 W ua.ownBlock ub.ownBlock → ∀ va vb xs ys, OwnI W (WA.heap.size + 1) 3 va xs → OwnI W (WA.heap.size + 1) 3 vb ys → Apart va vb → (∀ g, va.ownBlock = some g → ua.ownBlock = some g ∨ W5.heap.size ≤ g) → (∀ g, vb.ownBlock = some g → ub.ownBlock = some g ∨ W5.heap.size ≤ g) →
          Gro ((W.setCell ⟨WA.heap.size, a, none⟩ va).setCell ⟨WA.heap.size, b, none⟩ vb) WA.heap.size 3 ((xss.set a xs).set b ys) ∧ FarR ((W.setCell ⟨WA.heap.size, a, none⟩ va).setCell ⟨WA.heap.size, b, none⟩ vb) WA.heap.size W2.heap.size k from fun W G va vb xs ys o1 o2 ap f1 f2 =>
        ⟨HNEW.out va vb W xs ys o1 o2 G ap f1 f2, FR5.out.two HFS.out.2.2 ham hbm hab ka1 kb1 (HKA.out W G).2.2.2.2 G.size f1 f2⟩)
      clear HNEW ka1 ka2 kb1 kb2
      clear GR5 FR5
      go_wp2_with fail
      refine wp_region_U (fun w' => w'.cell? ⟨WA.heap.size, a, none⟩ = some (ua) ∧ w'.cell? ⟨WA.heap.size, b, none⟩ = some (ub)) [2, 3, 18, 19, 20, 21] (by kernel_rfl) ?_
      refine nameU ?_
      intro W7 HW7
      have hg7 : W5.grownBy W7 none := by rw [HW7.out]; exact grown_drew _
      clear HW7
      have hs7 := hg7.size
      have HF7 := Lib.hid (HF5.out.still hg7); clear HF5
      have PA7 := Lib.hid (OwnI.still OA.out hg7); clear OA
      have PB7 := Lib.hid (OwnI.still OB.out hg7); clear OB
      have G2x7 := Lib.hid (G2.out.none hg7); clear G2
      have hS8 : W7.cell? ⟨WA.heap.size, a, none⟩ = some (ua) ∧ W7.cell? ⟨WA.heap.size, b, none⟩ = some (ub) := ⟨(HKA.out _ G2x7.out).1, (HKA.out _ G2x7.out).2.1⟩
      refine anyU_takeY (i := 2) (v := .slice (some ⟨WA.heap.size, 0, none⟩) k k) rfl (by kernel_rfl) (by kernel_rfl) (by kernel_rfl) (fun _ _ _ h => h) ⟨by rfl, fun w => (by go_simp)⟩ ?_
      simp only [List.getElem_toArray, List.getElem_cons_succ, List.getElem_cons_zero, Act.put, List.setIfInBounds_toArray, List.set_cons_zero, List.set_cons_succ]
      refine anyU_takeY (i := 3) (v := .int .i64 b) rfl (by kernel_rfl) (by kernel_rfl) (by kernel_rfl) (fun _ _ _ h => h) ⟨by rfl, fun w => (by go_simp)⟩ ?_
      simp only [List.getElem_toArray, List.getElem_cons_succ, List.getElem_cons_zero, Act.put, List.setIfInBounds_toArray, List.set_cons_zero, List.set_cons_succ]
      refine anyU_take (i := 0) (v := .slice (some ⟨WA.heap.size, 0, none⟩) k k) rfl (by kernel_rfl) (by kernel_rfl) (by kernel_rfl) (fun _ _ _ h => h) ⟨by rfl, fun w' hS' => (by obtain ⟨s1, s2⟩ := hS'; go_simp)⟩ hS8 ?_
      simp only [List.getElem_toArray, List.getElem_cons_zero, Act.put, List.setIfInBounds_toArray, List.set_cons_zero, List.set_cons_succ]
      refine anyU_take (i := 1) (v := .int .i64 a) rfl (by kernel_rfl) (by kernel_rfl) (by kernel_rfl) (fun _ _ _ h => h) ⟨by rfl, fun w' hS' => (by obtain ⟨s1, s2⟩ := hS'; go_simp)⟩ hS8 ?_
      simp only [List.getElem_toArray, List.getElem_cons_succ, List.getElem_cons_zero, Act.put, List.setIfInBounds_toArray, List.set_cons_zero, List.set_cons_succ]
      refine anyU_take (i := 4) (v := .slice (some ⟨WA.heap.size, 0, none⟩) k k) rfl (by kernel_rfl) (by kernel_rfl) (by kernel_rfl) (fun _ _ _ h => h) ⟨by rfl, fun w' hS' => (by obtain ⟨s1, s2⟩ := hS'; go_simp)⟩ hS8 ?_
      simp only [List.getElem_toArray, List.getElem_cons_succ, List.getElem_cons_zero, Act.put, List.setIfInBounds_toArray, List.set_cons_zero, List.set_cons_succ]
      refine anyU_take (i := 5) (v := .int .i64 a) rfl (by kernel_rfl) (by kernel_rfl) (by kernel_rfl) (fun _ _ _ h => h) ⟨by rfl, fun w' hS' => (by obtain ⟨s1, s2⟩ := hS'; go_simp)⟩ hS8 ?_
      simp only [List.getElem_toArray, List.getElem_cons_succ, List.getElem_cons_zero, Act.put, List.setIfInBounds_toArray, List.set_cons_zero, List.set_cons_succ]
      refine anyU_take (i := 6) (v := .pointer (some ⟨WA.heap.size, a, none⟩)) rfl (by kernel_rfl) (by kernel_rfl) (by kernel_rfl) (fun _ _ _ h => h) ⟨by rfl, fun w' hS' => (by obtain ⟨s1, s2⟩ := hS'; simp [go_sem, hai])⟩ hS8 ?_
      simp only [List.getElem_toArray, List.getElem_cons_succ, List.getElem_cons_zero, Act.put, List.setIfInBounds_toArray, List.set_cons_zero, List.set_cons_succ]
      refine anyU_take (i := 7) (v := ua) rfl (by kernel_rfl) (by kernel_rfl) (by kernel_rfl) (fun _ _ _ h => h) ⟨by rfl, fun w' hS' => (by obtain ⟨s1, s2⟩ := hS'; go_simp)⟩ hS8 ?_
      simp only [List.getElem_toArray, List.getElem_cons_succ, List.getElem_cons_zero, Act.put, List.setIfInBounds_toArray, List.set_cons_zero, List.set_cons_succ]
      refine anyU_take (i := 8) (v := .int .i64 b) rfl (by kernel_rfl) (by kernel_rfl) (by kernel_rfl) (fun _ _ _ h => h) ⟨by rfl, fun w' hS' => (by obtain ⟨s1, s2⟩ := hS'; go_simp)⟩ hS8 ?_
      simp only [List.getElem_toArray, List.getElem_cons_succ, List.getElem_cons_zero, Act.put, List.setIfInBounds_toArray, List.set_cons_zero, List.set_cons_succ]
      refine anyU_take (i := 11) (v := .slice (some ⟨WA.heap.size, 0, none⟩) k k) rfl (by kernel_rfl) (by kernel_rfl) (by kernel_rfl) (fun _ _ _ h => h) ⟨by rfl, fun w' hS' => (by obtain ⟨s1, s2⟩ := hS'; go_simp)⟩ hS8 ?_
      simp only [List.getElem_toArray, List.getElem_cons_succ, List.getElem_cons_zero, Act.put, List.setIfInBounds_toArray, List.set_cons_zero, List.set_cons_succ]
      refine anyU_take (i := 12) (v := .int .i64 b) rfl (by kernel_rfl) (by kernel_rfl) (by kernel_rfl) (fun _ _ _ h => h) ⟨by rfl, fun w' hS' => (by obtain ⟨s1, s2⟩ := hS'; go_simp)⟩ hS8 ?_
      simp only [List.getElem_toArray, List.getElem_cons_succ, List.getElem_cons_zero, Act.put, List.setIfInBounds_toArray, List.set_cons_zero, List.set_cons_succ]
      refine anyU_take (i := 13) (v := .pointer (some ⟨WA.heap.size, b, none⟩)) rfl (by kernel_rfl) (by kernel_rfl) (by kernel_rfl) (fun _ _ _ h => h) ⟨by rfl, fun w' hS' => (by obtain ⟨s1, s2⟩ := hS'; simp [go_sem, hbi2])⟩ hS8 ?_
      simp only [List.getElem_toArray, List.getElem_cons_succ, List.getElem_cons_zero, Act.put, List.setIfInBounds_toArray, List.set_cons_zero, List.set_cons_succ]
      refine anyU_take (i := 14) (v := ub) rfl (by kernel_rfl) (by kernel_rfl) (by kernel_rfl) (fun _ _ _ h => h) ⟨by rfl, fun w' hS' => (by obtain ⟨s1, s2⟩ := hS'; go_simp)⟩ hS8 ?_
      simp only [List.getElem_toArray, List.getElem_cons_succ, List.getElem_cons_zero, Act.put, List.setIfInBounds_toArray, List.set_cons_zero, List.set_cons_succ]
      refine anyU_take (i := 15) (v := .int .i64 a) rfl (by kernel_rfl) (by kernel_rfl) (by kernel_rfl) (fun _ _ _ h => h) ⟨by rfl, fun w' hS' => (by obtain ⟨s1, s2⟩ := hS'; go_simp)⟩ hS8 ?_
      simp only [List.getElem_toArray, List.getElem_cons_succ, List.getElem_cons_zero, Act.put, List.setIfInBounds_toArray, List.set_cons_zero, List.set_cons_succ]
      have hla : (ra.map (Value.int .i64)).length ≤ 1048576 := by rw [List.length_map]; exact HL.out.1
      have hlb : (rb.map (Value.int .i64)).length ≤ 1048576 := by rw [List.length_map]; exact HL.out.2
      refine anyU_ready (rs := [9, 16]) (by kernel_rfl) (by simp) ?_
      refine ReadyU.cons (i := 9) rfl (fun K hK => ?_) ?_
      · skip
        simp only [List.getElem_toArray, List.getElem_cons_succ, List.getElem_cons_zero]
        refine ite_is (by rfl) ?_
        simp [go_sem]
        refine hK.out _ _ ⟨fun _ => ⟨(HKA.out _ (G2x7.out.none (grown_alloc _ _))).1, (HKA.out _ (G2x7.out.none (grown_alloc _ _))).2.1⟩, ?_⟩
        clear hK K
        try simp only [List.getElem_toArray, List.getElem_cons_succ, List.getElem_cons_zero, Act.put, List.setIfInBounds_toArray, List.set_cons_zero, List.set_cons_succ]
        refine nameU ?_
        intro W9 HW9
        have hg9 : W7.grownBy W9 none := by rw [HW9.out]; exact grown_alloc _ _
        have BV9 := Lib.hid (show BoxN W9 W7.heap.size #[.int .i64 b] 3 by rw [HW9.out]; exact BoxN.new _ _ _)
        have hz9 : W7.heap.size < W9.heap.size := BV9.out.lt
        clear HW9
        have hs9 := hg9.size
        have HF9 := Lib.hid (HF7.out.still hg9); clear HF7
        have PA9 := Lib.hid (OwnI.still PA7.out hg9); clear PA7
        have PB9 := Lib.hid (OwnI.still PB7.out hg9); clear PB7
        have G2x9 := Lib.hid (G2x7.out.none hg9); clear G2x7
        have hS10 : W9.cell? ⟨WA.heap.size, a, none⟩ = some (ua) ∧ W9.cell? ⟨WA.heap.size, b, none⟩ = some (ub) := ⟨(HKA.out _ G2x9.out).1, (HKA.out _ G2x9.out).2.1⟩
        clear hS8
        refine anyU_ready (rs := [10, 16]) (by kernel_rfl) (by simp) ?_
        refine ReadyU.cons (i := 10) rfl (fun K hK => ?_) ?_
        · skip
          refine step_append_lies W9 (by rfl) _ _ _ (by rfl) (WA.heap.size + 1) 3 i1 _ 1 _ Try.underlying23 HII.out HI1.out HI2.out HI3.out rfl (by omega) ua _ (ra.map (Value.int .i64)) (by rfl) PA9.out ⟨W7.heap.size, 0, none⟩ 1 1 [.int .i64 b] (by rfl) (by rfl) (World.news_of_block BV9.out) (by simp [Value.oneCell']) (by omega) (by unfold maxLen; omega) (by omega) (by omega) _ rfl ?_
          intro gp10 cp10 W11 hown hg11 hat10 hlt10
          simp only [List.length_map] at hown ⊢
          have hs11 := hg11.size
          have HF11 := Lib.hid (HF9.out.grown hg11 (fun g e => by have := LA.out g e; have := HFA.out g e; have := HFS.out; omega)); clear HF9
          have G2x11 := Lib.hid (G2x9.out.fst hg11); clear G2x9
          have OX11 := Lib.hid (own_app hown)
          clear hown
          have OY11 := Lib.hid (OwnI.kept PB9.out hg11 HAP.out.symm.keeps); clear PB9
          have HAP2 := Lib.hid (ap_grow (n := ra.length + 1) (c := cp10) HAP.out hat10 (fun x e => by have := LB.out x e; omega) : Apart (.slice (some ⟨gp10, 0, none⟩) (ra.length + 1) cp10) ub)
          have HAF := Lib.hid (at_fresh (n := ra.length + 1) (c := cp10) hat10 (by omega : W5.heap.size ≤ W9.heap.size)); clear hat10
          have hlg : gp10 < W11.heap.size := hlt10
          have hS12 : W11.cell? ⟨WA.heap.size, a, none⟩ = some (ua) ∧ W11.cell? ⟨WA.heap.size, b, none⟩ = some (ub) := ⟨(HKA.out _ G2x11.out).1, (HKA.out _ G2x11.out).2.1⟩
          refine hK.out _ _ ⟨fun _ => hS12, ?_⟩
          clear hK K hS10
          try simp only [List.getElem_toArray, List.getElem_cons_succ, List.getElem_cons_zero, Act.put, List.setIfInBounds_toArray, List.set_cons_zero, List.set_cons_succ]
          refine anyU_ready (rs := [16]) (by kernel_rfl) (by simp) ?_
          refine ReadyU.cons (i := 16) rfl (fun K hK => ?_) ?_
          · skip
            simp only [List.getElem_toArray, List.getElem_cons_succ, List.getElem_cons_zero]
            refine ite_is (by rfl) ?_
            simp [go_sem]
            refine hK.out _ _ ⟨fun _ => ⟨(HKA.out _ (G2x11.out.none (grown_alloc _ _))).1, (HKA.out _ (G2x11.out.none (grown_alloc _ _))).2.1⟩, ?_⟩
            clear hK K
            try simp only [List.getElem_toArray, List.getElem_cons_succ, List.getElem_cons_zero, Act.put, List.setIfInBounds_toArray, List.set_cons_zero, List.set_cons_succ]
            refine nameU ?_
            intro W13 HW13
            have hg13 : W11.grownBy W13 none := by rw [HW13.out]; exact grown_alloc _ _
            have BV13 := Lib.hid (show BoxN W13 W11.heap.size #[.int .i64 a] 3 by rw [HW13.out]; exact BoxN.new _ _ _)
            have hz13 : W11.heap.size < W13.heap.size := BV13.out.lt
            clear HW13
            have hs13 := hg13.size
            have HF13 := Lib.hid (HF11.out.still hg13); clear HF11
            have PA13 := Lib.hid (OwnI.still OX11.out hg13); clear OX11
            have PB13 := Lib.hid (OwnI.still OY11.out hg13); clear OY11
            have G2x13 := Lib.hid (G2x11.out.none hg13); clear G2x11
            have hS14 : W13.cell? ⟨WA.heap.size, a, none⟩ = some (ua) ∧ W13.cell? ⟨WA.heap.size, b, none⟩ = some (ub) := ⟨(HKA.out _ G2x13.out).1, (HKA.out _ G2x13.out).2.1⟩
            clear hS12
            refine anyU_ready (rs := [17]) (by kernel_rfl) (by simp) ?_
            refine ReadyU.cons (i := 17) rfl (fun K hK => ?_) ?_
            · skip
              refine step_append_lies W13 (by rfl) _ _ _ (by rfl) (WA.heap.size + 1) 3 i1 _ 1 _ Try.underlying23 HII.out HI1.out HI2.out HI3.out rfl (by omega) ub _ (rb.map (Value.int .i64)) (by rfl) PB13.out ⟨W11.heap.size, 0, none⟩ 1 1 [.int .i64 a] (by rfl) (by rfl) (World.news_of_block BV13.out) (by simp [Value.oneCell']) (by omega) (by unfold maxLen; omega) (by omega) (by omega) _ rfl ?_
              intro gp17 cp17 W15 hown hg15 hat17 hlt17
              simp only [List.length_map] at hown ⊢
              have hs15 := hg15.size
              have HF15 := Lib.hid (HF13.out.grown hg15 (fun g e => by have := LB.out g e; have := HFB.out g e; have := HFS.out; omega)); clear HF13
              have G2x15 := Lib.hid (G2x13.out.snd hg15); clear G2x13
              have OX15 := Lib.hid (own_app hown)
              clear hown
              have OY15 := Lib.hid (OwnI.kept PA13.out hg15 HAP2.out.keeps); clear PA13
              have hx17 : ∀ x, (Value.slice (some ⟨gp10, 0, none⟩) (ra.length + 1) cp10).ownBlock = some x → x < W13.heap.size := fun x e => by
                have e : gp10 = x := by simpa [Value.ownBlock] using e
                omega
              have HAP3 := Lib.hid ((ap_grow (n := rb.length + 1) (c := cp17) HAP2.out.symm hat17 hx17).symm)
              have HBF := Lib.hid (at_fresh (n := rb.length + 1) (c := cp17) hat17 (by omega : W5.heap.size ≤ W13.heap.size)); clear hat17 hx17
              have hS16 : W15.cell? ⟨WA.heap.size, a, none⟩ = some (ua) ∧ W15.cell? ⟨WA.heap.size, b, none⟩ = some (ub) := ⟨(HKA.out _ G2x15.out).1, (HKA.out _ G2x15.out).2.1⟩
              refine hK.out _ _ ⟨fun _ => hS16, ?_⟩
              clear hK K hS14
              try simp only [List.getElem_toArray, List.getElem_cons_succ, List.getElem_cons_zero, Act.put, List.setIfInBounds_toArray, List.set_cons_zero, List.set_cons_succ]
              refine anyU_ready (rs := [18]) (by kernel_rfl) (by simp) ?_
              refine ReadyU.cons (i := 18) rfl (fun K hK => ?_) ReadyU.nil
              simp only [List.getElem_toArray, List.getElem_cons_succ, List.getElem_cons_zero]
              refine ite_is (by rfl) ?_
              simp [go_sem, hai]
              refine hK.out _ _ ⟨fun h => absurd h (by decide), ?_⟩
              clear hK K
              try simp only [List.getElem_toArray, List.getElem_cons_succ, List.getElem_cons_zero, Act.put, List.setIfInBounds_toArray, List.set_cons_zero, List.set_cons_succ]
              have z2 := (HKA.out _ G2x15.out).1
              have zf := (HKA.out _ G2x15.out).2.2.1
              refine anyU_ready (rs := [19]) (by kernel_rfl) (by simp) ?_
              refine ReadyU.cons (i := 19) rfl (fun K hK => ?_) ReadyU.nil
              simp only [List.getElem_toArray, List.getElem_cons_succ, List.getElem_cons_zero]
              refine ite_is (by rfl) ?_
              simp [go_sem, z2, zf]
              refine hK.out _ _ ⟨fun h => absurd h (by decide), ?_⟩
              clear hK K z2 zf
              try simp only [List.getElem_toArray, List.getElem_cons_succ, List.getElem_cons_zero, Act.put, List.setIfInBounds_toArray, List.set_cons_zero, List.set_cons_succ]
              refine anyU_ready (rs := [20]) (by kernel_rfl) (by simp) ?_
              refine ReadyU.cons (i := 20) rfl (fun K hK => ?_) ReadyU.nil
              simp only [List.getElem_toArray, List.getElem_cons_succ, List.getElem_cons_zero]
              refine ite_is (by rfl) ?_
              simp [go_sem, hbi2]
              refine hK.out _ _ ⟨fun h => absurd h (by decide), ?_⟩
              clear hK K
              try simp only [List.getElem_toArray, List.getElem_cons_succ, List.getElem_cons_zero, Act.put, List.setIfInBounds_toArray, List.set_cons_zero, List.set_cons_succ]
              have z3 : (W15.setCell ⟨WA.heap.size, a, none⟩ (.slice (some ⟨gp10, 0, none⟩) (ra.length + 1) cp10)).cell? ⟨WA.heap.size, b, none⟩ = some ub := (World.cell?_setCell_other _ _ _ _ (fun h => by injection h; omega)).trans (HKA.out _ G2x15.out).2.1
              have zf3 : (W15.setCell ⟨WA.heap.size, a, none⟩ (.slice (some ⟨gp10, 0, none⟩) (ra.length + 1) cp10)).frozen? ⟨WA.heap.size, b, none⟩ = false := (World.frozen?_setCell _ _ _ _).trans (HKA.out _ G2x15.out).2.2.2.1
              refine anyU_ready (rs := [21]) (by kernel_rfl) (by simp) ?_
              refine ReadyU.cons (i := 21) rfl (fun K hK => ?_) ReadyU.nil
              simp only [List.getElem_toArray, List.getElem_cons_succ, List.getElem_cons_zero]
              refine ite_is (by rfl) ?_
              simp [go_sem, z3, zf3]
              refine hK.out _ _ ⟨fun h => absurd h (by decide), ?_⟩
              clear hK K z3 zf3
              try simp only [List.getElem_toArray, List.getElem_cons_succ, List.getElem_cons_zero, Act.put, List.setIfInBounds_toArray, List.set_cons_zero, List.set_cons_succ]
              refine nameU ?_
              intro WF HWF
              have HNN := Lib.hid (HKN.out W15 G2x15.out (.slice (some ⟨gp10, 0, none⟩) (ra.length + 1) cp10) (.slice (some ⟨gp17, 0, none⟩) (rb.length + 1) cp17) _ _ OY15.out OX15.out HAP3.out HAF.out HBF.out)
              have hgF : W15.grownBy WF (some WA.heap.size) := by rw [HWF.out]; exact grownBy_trans (grown_set _ ⟨WA.heap.size, a, none⟩ _) (grown_set _ ⟨WA.heap.size, b, none⟩ _)
              have hsF := hgF.size
              have HFF := Lib.hid (HF15.out.grown hgF (fun g e => by injection e; omega))
              have HG9 := Lib.hid (show Gro WF WA.heap.size 3 _ by rw [HWF.out]; exact HNN.out.1)
              have HR9 := Lib.hid (show FarR WF WA.heap.size W2.heap.size k by rw [HWF.out]; exact HNN.out.2)
              clear HWF HNN hgF
              refine anyU_done (by kernel_rfl) ?_ _
              go_wp2_with fail
              go_roundw
              case rel => exact ⟨q + 1, _, by omega, by go_num, HG9, HPN, HR9, HFF⟩
              case measure => simp [intOf]; omega
            exact ReadyU.nil
          exact ReadyU.nil
        refine ReadyU.cons (i := 16) rfl (fun K hK => ?_) ?_
        · skip
          simp only [List.getElem_toArray, List.getElem_cons_succ, List.getElem_cons_zero]
          refine ite_is (by rfl) ?_
          simp [go_sem]
          refine hK.out _ _ ⟨fun _ => ⟨(HKA.out _ (G2x9.out.none (grown_alloc _ _))).1, (HKA.out _ (G2x9.out.none (grown_alloc _ _))).2.1⟩, ?_⟩
          clear hK K
          try simp only [List.getElem_toArray, List.getElem_cons_succ, List.getElem_cons_zero, Act.put, List.setIfInBounds_toArray, List.set_cons_zero, List.set_cons_succ]
          refine nameU ?_
          intro W17 HW17
          have hg17 : W9.grownBy W17 none := by rw [HW17.out]; exact grown_alloc _ _
          have BV17 := Lib.hid (show BoxN W17 W9.heap.size #[.int .i64 a] 3 by rw [HW17.out]; exact BoxN.new _ _ _)
          have hz17 : W9.heap.size < W17.heap.size := BV17.out.lt
          clear HW17
          have hs17 := hg17.size
          have HF17 := Lib.hid (HF9.out.still hg17); clear HF9
          have PA17 := Lib.hid (OwnI.still PA9.out hg17); clear PA9
          have PB17 := Lib.hid (OwnI.still PB9.out hg17); clear PB9
          have V917 := Lib.hid (BoxN.still BV9.out hg17); clear BV9
          have G2x17 := Lib.hid (G2x9.out.none hg17); clear G2x9
          have hS18 : W17.cell? ⟨WA.heap.size, a, none⟩ = some (ua) ∧ W17.cell? ⟨WA.heap.size, b, none⟩ = some (ub) := ⟨(HKA.out _ G2x17.out).1, (HKA.out _ G2x17.out).2.1⟩
          clear hS10
          refine anyU_ready (rs := [10]) (by kernel_rfl) (by simp) ?_
          refine ReadyU.cons (i := 10) rfl (fun K hK => ?_) ?_
          · skip
            refine step_append_lies W17 (by rfl) _ _ _ (by rfl) (WA.heap.size + 1) 3 i1 _ 1 _ Try.underlying23 HII.out HI1.out HI2.out HI3.out rfl (by omega) ua _ (ra.map (Value.int .i64)) (by rfl) PA17.out ⟨W7.heap.size, 0, none⟩ 1 1 [.int .i64 b] (by rfl) (by rfl) (World.news_of_block V917.out) (by simp [Value.oneCell']) (by omega) (by unfold maxLen; omega) (by omega) (by omega) _ rfl ?_
            intro gp10 cp10 W19 hown hg19 hat10 hlt10
            simp only [List.length_map] at hown ⊢
            have hs19 := hg19.size
            have HF19 := Lib.hid (HF17.out.grown hg19 (fun g e => by have := LA.out g e; have := HFA.out g e; have := HFS.out; omega)); clear HF17
            have V1619 := Lib.hid (BoxN.far BV17.out hg19 (fun g e => by have := LA.out g e; have := HFA.out g e; have := HFS.out; omega)); clear BV17
            have G2x19 := Lib.hid (G2x17.out.fst hg19); clear G2x17
            have OX19 := Lib.hid (own_app hown)
            clear hown
            have OY19 := Lib.hid (OwnI.kept PB17.out hg19 HAP.out.symm.keeps); clear PB17
            have HAP2 := Lib.hid (ap_grow (n := ra.length + 1) (c := cp10) HAP.out hat10 (fun x e => by have := LB.out x e; omega) : Apart (.slice (some ⟨gp10, 0, none⟩) (ra.length + 1) cp10) ub)
            have HAF := Lib.hid (at_fresh (n := ra.length + 1) (c := cp10) hat10 (by omega : W5.heap.size ≤ W17.heap.size)); clear hat10
            have hlg : gp10 < W19.heap.size := hlt10
            have hS20 : W19.cell? ⟨WA.heap.size, a, none⟩ = some (ua) ∧ W19.cell? ⟨WA.heap.size, b, none⟩ = some (ub) := ⟨(HKA.out _ G2x19.out).1, (HKA.out _ G2x19.out).2.1⟩
            refine hK.out _ _ ⟨fun _ => hS20, ?_⟩
            clear hK K hS18
            try simp only [List.getElem_toArray, List.getElem_cons_succ, List.getElem_cons_zero, Act.put, List.setIfInBounds_toArray, List.set_cons_zero, List.set_cons_succ]
            refine anyU_ready (rs := [17]) (by kernel_rfl) (by simp) ?_
            refine ReadyU.cons (i := 17) rfl (fun K hK => ?_) ?_
            · skip
              refine step_append_lies W19 (by rfl) _ _ _ (by rfl) (WA.heap.size + 1) 3 i1 _ 1 _ Try.underlying23 HII.out HI1.out HI2.out HI3.out rfl (by omega) ub _ (rb.map (Value.int .i64)) (by rfl) OY19.out ⟨W9.heap.size, 0, none⟩ 1 1 [.int .i64 a] (by rfl) (by rfl) (World.news_of_block V1619.out) (by simp [Value.oneCell']) (by omega) (by unfold maxLen; omega) (by omega) (by omega) _ rfl ?_
              intro gp17 cp17 W21 hown hg21 hat17 hlt17
              simp only [List.length_map] at hown ⊢
              have hs21 := hg21.size
              have HF21 := Lib.hid (HF19.out.grown hg21 (fun g e => by have := LB.out g e; have := HFB.out g e; have := HFS.out; omega)); clear HF19
              have G2x21 := Lib.hid (G2x19.out.snd hg21); clear G2x19
              have OX21 := Lib.hid (own_app hown)
              clear hown
              have OY21 := Lib.hid (OwnI.kept OX19.out hg21 HAP2.out.keeps); clear OX19
              have hx17 : ∀ x, (Value.slice (some ⟨gp10, 0, none⟩) (ra.length + 1) cp10).ownBlock = some x → x < W19.heap.size := fun x e => by
                have e : gp10 = x := by simpa [Value.ownBlock] using e
                omega
              have HAP3 := Lib.hid ((ap_grow (n := rb.length + 1) (c := cp17) HAP2.out.symm hat17 hx17).symm)
              have HBF := Lib.hid (at_fresh (n := rb.length + 1) (c := cp17) hat17 (by omega : W5.heap.size ≤ W19.heap.size)); clear hat17 hx17
              have hS22 : W21.cell? ⟨WA.heap.size, a, none⟩ = some (ua) ∧ W21.cell? ⟨WA.heap.size, b, none⟩ = some (ub) := ⟨(HKA.out _ G2x21.out).1, (HKA.out _ G2x21.out).2.1⟩
              refine hK.out _ _ ⟨fun _ => hS22, ?_⟩
              clear hK K hS20
              try simp only [List.getElem_toArray, List.getElem_cons_succ, List.getElem_cons_zero, Act.put, List.setIfInBounds_toArray, List.set_cons_zero, List.set_cons_succ]
              refine anyU_ready (rs := [18]) (by kernel_rfl) (by simp) ?_
              refine ReadyU.cons (i := 18) rfl (fun K hK => ?_) ReadyU.nil
              simp only [List.getElem_toArray, List.getElem_cons_succ, List.getElem_cons_zero]
              refine ite_is (by rfl) ?_
              simp [go_sem, hai]
              refine hK.out _ _ ⟨fun h => absurd h (by decide), ?_⟩
              clear hK K
              try simp only [List.getElem_toArray, List.getElem_cons_succ, List.getElem_cons_zero, Act.put, List.setIfInBounds_toArray, List.set_cons_zero, List.set_cons_succ]
              have z2 := (HKA.out _ G2x21.out).1
              have zf := (HKA.out _ G2x21.out).2.2.1
              refine anyU_ready (rs := [19]) (by kernel_rfl) (by simp) ?_
              refine ReadyU.cons (i := 19) rfl (fun K hK => ?_) ReadyU.nil
              simp only [List.getElem_toArray, List.getElem_cons_succ, List.getElem_cons_zero]
              refine ite_is (by rfl) ?_
              simp [go_sem, z2, zf]
              refine hK.out _ _ ⟨fun h => absurd h (by decide), ?_⟩
              clear hK K z2 zf
              try simp only [List.getElem_toArray, List.getElem_cons_succ, List.getElem_cons_zero, Act.put, List.setIfInBounds_toArray, List.set_cons_zero, List.set_cons_succ]
              refine anyU_ready (rs := [20]) (by kernel_rfl) (by simp) ?_
              refine ReadyU.cons (i := 20) rfl (fun K hK => ?_) ReadyU.nil
              simp only [List.getElem_toArray, List.getElem_cons_succ, List.getElem_cons_zero]
              refine ite_is (by rfl) ?_
              simp [go_sem, hbi2]
              refine hK.out _ _ ⟨fun h => absurd h (by decide), ?_⟩
              clear hK K
              try simp only [List.getElem_toArray, List.getElem_cons_succ, List.getElem_cons_zero, Act.put, List.setIfInBounds_toArray, List.set_cons_zero, List.set_cons_succ]
              have z3 : (W21.setCell ⟨WA.heap.size, a, none⟩ (.slice (some ⟨gp10, 0, none⟩) (ra.length + 1) cp10)).cell? ⟨WA.heap.size, b, none⟩ = some ub := (World.cell?_setCell_other _ _ _ _ (fun h => by injection h; omega)).trans (HKA.out _ G2x21.out).2.1
              have zf3 : (W21.setCell ⟨WA.heap.size, a, none⟩ (.slice (some ⟨gp10, 0, none⟩) (ra.length + 1) cp10)).frozen? ⟨WA.heap.size, b, none⟩ = false := (World.frozen?_setCell _ _ _ _).trans (HKA.out _ G2x21.out).2.2.2.1
              refine anyU_ready (rs := [21]) (by kernel_rfl) (by simp) ?_
              refine ReadyU.cons (i := 21) rfl (fun K hK => ?_) ReadyU.nil
              simp only [List.getElem_toArray, List.getElem_cons_succ, List.getElem_cons_zero]
              refine ite_is (by rfl) ?_
              simp [go_sem, z3, zf3]
              refine hK.out _ _ ⟨fun h => absurd h (by decide), ?_⟩
              clear hK K z3 zf3
              try simp only [List.getElem_toArray, List.getElem_cons_succ, List.getElem_cons_zero, Act.put, List.setIfInBounds_toArray, List.set_cons_zero, List.set_cons_succ]
              refine nameU ?_
              intro WF HWF
              have HNN := Lib.hid (HKN.out W21 G2x21.out (.slice (some ⟨gp10, 0, none⟩) (ra.length + 1) cp10) (.slice (some ⟨gp17, 0, none⟩) (rb.length + 1) cp17) _ _ OY21.out OX21.out HAP3.out HAF.out HBF.out)
              have hgF : W21.grownBy WF (some WA.heap.size) := by rw [HWF.out]; exact grownBy_trans (grown_set _ ⟨WA.heap.size, a, none⟩ _) (grown_set _ ⟨WA.heap.size, b, none⟩ _)
              have hsF := hgF.size
              have HFF := Lib.hid (HF21.out.grown hgF (fun g e => by injection e; omega))
              have HG9 := Lib.hid (show Gro WF WA.heap.size 3 _ by rw [HWF.out]; exact HNN.out.1)
              have HR9 := Lib.hid (show FarR WF WA.heap.size W2.heap.size k by rw [HWF.out]; exact HNN.out.2)
              clear HWF HNN hgF
              refine anyU_done (by kernel_rfl) ?_ _
              go_wp2_with fail
              go_roundw
              case rel => exact ⟨q + 1, _, by omega, by go_num, HG9, HPN, HR9, HFF⟩
              case measure => simp [intOf]; omega
            exact ReadyU.nil
          exact ReadyU.nil
        exact ReadyU.nil
      refine ReadyU.cons (i := 16) rfl (fun K hK => ?_) ?_
      · skip
        simp only [List.getElem_toArray, List.getElem_cons_succ, List.getElem_cons_zero]
        refine ite_is (by rfl) ?_
        simp [go_sem]
        refine hK.out _ _ ⟨fun _ => ⟨(HKA.out _ (G2x7.out.none (grown_alloc _ _))).1, (HKA.out _ (G2x7.out.none (grown_alloc _ _))).2.1⟩, ?_⟩
        clear hK K
        try simp only [List.getElem_toArray, List.getElem_cons_succ, List.getElem_cons_zero, Act.put, List.setIfInBounds_toArray, List.set_cons_zero, List.set_cons_succ]
        refine nameU ?_
        intro W23 HW23
        have hg23 : W7.grownBy W23 none := by rw [HW23.out]; exact grown_alloc _ _
        have BV23 := Lib.hid (show BoxN W23 W7.heap.size #[.int .i64 a] 3 by rw [HW23.out]; exact BoxN.new _ _ _)
        have hz23 : W7.heap.size < W23.heap.size := BV23.out.lt
        clear HW23
        have hs23 := hg23.size
        have HF23 := Lib.hid (HF7.out.still hg23); clear HF7
        have PA23 := Lib.hid (OwnI.still PA7.out hg23); clear PA7
        have PB23 := Lib.hid (OwnI.still PB7.out hg23); clear PB7
        have G2x23 := Lib.hid (G2x7.out.none hg23); clear G2x7
        have hS24 : W23.cell? ⟨WA.heap.size, a, none⟩ = some (ua) ∧ W23.cell? ⟨WA.heap.size, b, none⟩ = some (ub) := ⟨(HKA.out _ G2x23.out).1, (HKA.out _ G2x23.out).2.1⟩
        clear hS8
        refine anyU_ready (rs := [9]) (by kernel_rfl) (by simp) ?_
        refine ReadyU.cons (i := 9) rfl (fun K hK => ?_) ?_
        · skip
          simp only [List.getElem_toArray, List.getElem_cons_succ, List.getElem_cons_zero]
          refine ite_is (by rfl) ?_
          simp [go_sem]
          refine hK.out _ _ ⟨fun _ => ⟨(HKA.out _ (G2x23.out.none (grown_alloc _ _))).1, (HKA.out _ (G2x23.out.none (grown_alloc _ _))).2.1⟩, ?_⟩
          clear hK K
          try simp only [List.getElem_toArray, List.getElem_cons_succ, List.getElem_cons_zero, Act.put, List.setIfInBounds_toArray, List.set_cons_zero, List.set_cons_succ]
          refine nameU ?_
          intro W25 HW25
          have hg25 : W23.grownBy W25 none := by rw [HW25.out]; exact grown_alloc _ _
          have BV25 := Lib.hid (show BoxN W25 W23.heap.size #[.int .i64 b] 3 by rw [HW25.out]; exact BoxN.new _ _ _)
          have hz25 : W23.heap.size < W25.heap.size := BV25.out.lt
          clear HW25
          have hs25 := hg25.size
          have HF25 := Lib.hid (HF23.out.still hg25); clear HF23
          have PA25 := Lib.hid (OwnI.still PA23.out hg25); clear PA23
          have PB25 := Lib.hid (OwnI.still PB23.out hg25); clear PB23
          have V1625 := Lib.hid (BoxN.still BV23.out hg25); clear BV23
          have G2x25 := Lib.hid (G2x23.out.none hg25); clear G2x23
          have hS26 : W25.cell? ⟨WA.heap.size, a, none⟩ = some (ua) ∧ W25.cell? ⟨WA.heap.size, b, none⟩ = some (ub) := ⟨(HKA.out _ G2x25.out).1, (HKA.out _ G2x25.out).2.1⟩
          clear hS24
          refine anyU_ready (rs := [10]) (by kernel_rfl) (by simp) ?_
          refine ReadyU.cons (i := 10) rfl (fun K hK => ?_) ?_
          · skip
            refine step_append_lies W25 (by rfl) _ _ _ (by rfl) (WA.heap.size + 1) 3 i1 _ 1 _ Try.underlying23 HII.out HI1.out HI2.out HI3.out rfl (by omega) ua _ (ra.map (Value.int .i64)) (by rfl) PA25.out ⟨W23.heap.size, 0, none⟩ 1 1 [.int .i64 b] (by rfl) (by rfl) (World.news_of_block BV25.out) (by simp [Value.oneCell']) (by omega) (by unfold maxLen; omega) (by omega) (by omega) _ rfl ?_
            intro gp10 cp10 W27 hown hg27 hat10 hlt10
            simp only [List.length_map] at hown ⊢
            have hs27 := hg27.size
            have HF27 := Lib.hid (HF25.out.grown hg27 (fun g e => by have := LA.out g e; have := HFA.out g e; have := HFS.out; omega)); clear HF25
            have V1627 := Lib.hid (BoxN.far V1625.out hg27 (fun g e => by have := LA.out g e; have := HFA.out g e; have := HFS.out; omega)); clear V1625
            have G2x27 := Lib.hid (G2x25.out.fst hg27); clear G2x25
            have OX27 := Lib.hid (own_app hown)
            clear hown
            have OY27 := Lib.hid (OwnI.kept PB25.out hg27 HAP.out.symm.keeps); clear PB25
            have HAP2 := Lib.hid (ap_grow (n := ra.length + 1) (c := cp10) HAP.out hat10 (fun x e => by have := LB.out x e; omega) : Apart (.slice (some ⟨gp10, 0, none⟩) (ra.length + 1) cp10) ub)
            have HAF := Lib.hid (at_fresh (n := ra.length + 1) (c := cp10) hat10 (by omega : W5.heap.size ≤ W25.heap.size)); clear hat10
            have hlg : gp10 < W27.heap.size := hlt10
            have hS28 : W27.cell? ⟨WA.heap.size, a, none⟩ = some (ua) ∧ W27.cell? ⟨WA.heap.size, b, none⟩ = some (ub) := ⟨(HKA.out _ G2x27.out).1, (HKA.out _ G2x27.out).2.1⟩
            refine hK.out _ _ ⟨fun _ => hS28, ?_⟩
            clear hK K hS26
            try simp only [List.getElem_toArray, List.getElem_cons_succ, List.getElem_cons_zero, Act.put, List.setIfInBounds_toArray, List.set_cons_zero, List.set_cons_succ]
            refine anyU_ready (rs := [17]) (by kernel_rfl) (by simp) ?_
            refine ReadyU.cons (i := 17) rfl (fun K hK => ?_) ?_
            · skip
              refine step_append_lies W27 (by rfl) _ _ _ (by rfl) (WA.heap.size + 1) 3 i1 _ 1 _ Try.underlying23 HII.out HI1.out HI2.out HI3.out rfl (by omega) ub _ (rb.map (Value.int .i64)) (by rfl) OY27.out ⟨W7.heap.size, 0, none⟩ 1 1 [.int .i64 a] (by rfl) (by rfl) (World.news_of_block V1627.out) (by simp [Value.oneCell']) (by omega) (by unfold maxLen; omega) (by omega) (by omega) _ rfl ?_
              intro gp17 cp17 W29 hown hg29 hat17 hlt17
              simp only [List.length_map] at hown ⊢
              have hs29 := hg29.size
              have HF29 := Lib.hid (HF27.out.grown hg29 (fun g e => by have := LB.out g e; have := HFB.out g e; have := HFS.out; omega)); clear HF27
              have G2x29 := Lib.hid (G2x27.out.snd hg29); clear G2x27
              have OX29 := Lib.hid (own_app hown)
              clear hown
              have OY29 := Lib.hid (OwnI.kept OX27.out hg29 HAP2.out.keeps); clear OX27
              have hx17 : ∀ x, (Value.slice (some ⟨gp10, 0, none⟩) (ra.length + 1) cp10).ownBlock = some x → x < W27.heap.size := fun x e => by
                have e : gp10 = x := by simpa [Value.ownBlock] using e
                omega
              have HAP3 := Lib.hid ((ap_grow (n := rb.length + 1) (c := cp17) HAP2.out.symm hat17 hx17).symm)
              have HBF := Lib.hid (at_fresh (n := rb.length + 1) (c := cp17) hat17 (by omega : W5.heap.size ≤ W27.heap.size)); clear hat17 hx17
              have hS30 : W29.cell? ⟨WA.heap.size, a, none⟩ = some (ua) ∧ W29.cell? ⟨WA.heap.size, b, none⟩ = some (ub) := ⟨(HKA.out _ G2x29.out).1, (HKA.out _ G2x29.out).2.1⟩
              refine hK.out _ _ ⟨fun _ => hS30, ?_⟩
              clear hK K hS28
              try simp only [List.getElem_toArray, List.getElem_cons_succ, List.getElem_cons_zero, Act.put, List.setIfInBounds_toArray, List.set_cons_zero, List.set_cons_succ]
              refine anyU_ready (rs := [18]) (by kernel_rfl) (by simp) ?_
              refine ReadyU.cons (i := 18) rfl (fun K hK => ?_) ReadyU.nil
              simp only [List.getElem_toArray, List.getElem_cons_succ, List.getElem_cons_zero]
              refine ite_is (by rfl) ?_
              simp [go_sem, hai]
              refine hK.out _ _ ⟨fun h => absurd h (by decide), ?_⟩
              clear hK K
              try simp only [List.getElem_toArray, List.getElem_cons_succ, List.getElem_cons_zero, Act.put, List.setIfInBounds_toArray, List.set_cons_zero, List.set_cons_succ]
              have z2 := (HKA.out _ G2x29.out).1
              have zf := (HKA.out _ G2x29.out).2.2.1
              refine anyU_ready (rs := [19]) (by kernel_rfl) (by simp) ?_
              refine ReadyU.cons (i := 19) rfl (fun K hK => ?_) ReadyU.nil
              simp only [List.getElem_toArray, List.getElem_cons_succ, List.getElem_cons_zero]
              refine ite_is (by rfl) ?_
              simp [go_sem, z2, zf]
              refine hK.out _ _ ⟨fun h => absurd h (by decide), ?_⟩
              clear hK K z2 zf
              try simp only [List.getElem_toArray, List.getElem_cons_succ, List.getElem_cons_zero, Act.put, List.setIfInBounds_toArray, List.set_cons_zero, List.set_cons_succ]
              refine anyU_ready (rs := [20]) (by kernel_rfl) (by simp) ?_
              refine ReadyU.cons (i := 20) rfl (fun K hK => ?_) ReadyU.nil
              simp only [List.getElem_toArray, List.getElem_cons_succ, List.getElem_cons_zero]
              refine ite_is (by rfl) ?_
              simp [go_sem, hbi2]
              refine hK.out _ _ ⟨fun h => absurd h (by decide), ?_⟩
              clear hK K
              try simp only [List.getElem_toArray, List.getElem_cons_succ, List.getElem_cons_zero, Act.put, List.setIfInBounds_toArray, List.set_cons_zero, List.set_cons_succ]
              have z3 : (W29.setCell ⟨WA.heap.size, a, none⟩ (.slice (some ⟨gp10, 0, none⟩) (ra.length + 1) cp10)).cell? ⟨WA.heap.size, b, none⟩ = some ub := (World.cell?_setCell_other _ _ _ _ (fun h => by injection h; omega)).trans (HKA.out _ G2x29.out).2.1
              have zf3 : (W29.setCell ⟨WA.heap.size, a, none⟩ (.slice (some ⟨gp10, 0, none⟩) (ra.length + 1) cp10)).frozen? ⟨WA.heap.size, b, none⟩ = false := (World.frozen?_setCell _ _ _ _).trans (HKA.out _ G2x29.out).2.2.2.1
              refine anyU_ready (rs := [21]) (by kernel_rfl) (by simp) ?_
              refine ReadyU.cons (i := 21) rfl (fun K hK => ?_) ReadyU.nil
              simp only [List.getElem_toArray, List.getElem_cons_succ, List.getElem_cons_zero]
              refine ite_is (by rfl) ?_
              simp [go_sem, z3, zf3]
              refine hK.out _ _ ⟨fun h => absurd h (by decide), ?_⟩
              clear hK K z3 zf3
              try simp only [List.getElem_toArray, List.getElem_cons_succ, List.getElem_cons_zero, Act.put, List.setIfInBounds_toArray, List.set_cons_zero, List.set_cons_succ]
              refine nameU ?_
              intro WF HWF
              have HNN := Lib.hid (HKN.out W29 G2x29.out (.slice (some ⟨gp10, 0, none⟩) (ra.length + 1) cp10) (.slice (some ⟨gp17, 0, none⟩) (rb.length + 1) cp17) _ _ OY29.out OX29.out HAP3.out HAF.out HBF.out)
              have hgF : W29.grownBy WF (some WA.heap.size) := by rw [HWF.out]; exact grownBy_trans (grown_set _ ⟨WA.heap.size, a, none⟩ _) (grown_set _ ⟨WA.heap.size, b, none⟩ _)
              have hsF := hgF.size
              have HFF := Lib.hid (HF29.out.grown hgF (fun g e => by injection e; omega))
              have HG9 := Lib.hid (show Gro WF WA.heap.size 3 _ by rw [HWF.out]; exact HNN.out.1)
              have HR9 := Lib.hid (show FarR WF WA.heap.size W2.heap.size k by rw [HWF.out]; exact HNN.out.2)
              clear HWF HNN hgF
              refine anyU_done (by kernel_rfl) ?_ _
              go_wp2_with fail
              go_roundw
              case rel => exact ⟨q + 1, _, by omega, by go_num, HG9, HPN, HR9, HFF⟩
              case measure => simp [intOf]; omega
            exact ReadyU.nil
          exact ReadyU.nil
        exact ReadyU.nil
      exact ReadyU.nil
    obtain rfl : q = (edges N).length := by omega
    have hx0 := HG2.out.ssx
    rw [hxl] at hx0
    have HX0 := Lib.hid hx0
    clear hx0
    have HROW := Lib.hid (fun c (hc : c < k) => HP.out.row HG.out HML.out hc)
    have HCN := Lib.hid (fun c (hc : c < k) => HP.out.cnt c hc)
    have HXL := Lib.hid hxl
    clear hxl
    obtain ⟨wo, rfl⟩ : ∃ wo : World, wo = wr := ⟨_, rfl⟩
    go_wp2_with fail
    go_loopw [57] (fun iv wr => ∃ (c : Nat) (ys : List (List Int)), c ≤ k ∧ iv = .int .i64 c ∧ Hid (IntSSx wr WA.heap.size wo.heap.size (.slice (some ⟨WA.heap.size, 0, none⟩) k k) ys) ∧ Hid (ys.length = k ∧ ∀ j, j < k → nthL ys j = if j < c then adjRow N l k j else nthL xss j) ∧ wo.heap.size ≤ wr.heap.size ∧ Hid (Below w.heap.size w wr)) (fun iv _ => k - (intOf iv).toNat)
    case atStart => exact ⟨0, xss, Nat.zero_le _, rfl, HX0, Lib.hid ⟨HXL.out, fun j _ => rfl⟩, Nat.le_refl _, Lib.hid (HF3.out.below_of hbA2 (by omega) (by omega))⟩
    case round =>
      obtain ⟨c, ys, hc, rfl, HY, HR, hz5, HB⟩ := hrel
      by_cases hck : c < k
      case neg =>
        obtain rfl : c = k := by omega
        have HALL := Lib.hid (show ys = adjCl N l c by
          apply List.ext_getElem
          · rw [adjCl_length]; exact HR.out.1
          · intro j h1 h2
            have hjc : j < c := by rw [← HR.out.1]; exact h1
            have e := HR.out.2 j hjc
            rw [if_pos hjc, ← nthL_adjCl N l hjc] at e
            unfold nthL at e
            simpa [h1, h2] using e)
        go_wp2_with fail
        go_ret
        refine ⟨_, rfl, ?_, HB.out⟩
        rw [← HALL.out]
        exact ISSx.mono HY.out (by omega) (by omega)
      have hyl := HR.out.1
      obtain ⟨u, hu1, hu2, hu3, hu4, hu5, hu6, hu7, _⟩ := ISSx.row HY.out (by omega) (a := c) (by omega)
      have hrc : nthL ys c = nthL xss c := by rw [HR.out.2 c hck, if_neg (Nat.lt_irrefl c)]
      have hcn := HCN.out c hck
      have HRE := Lib.hid (HROW.out c hck)
      obtain ⟨row, HRW⟩ : ∃ row, Hid (nthL xss c = row) := ⟨_, Lib.hid rfl⟩
      rw [HRW.out] at hrc hcn HRE
      rw [hrc] at hu5 hu6 hu7
      clear hrc
      have HU := Lib.hid hu5
      have HU7 := Lib.hid hu7
      have HU6 := Lib.hid hu6
      clear hu5 hu6 hu7
      have hci : (c : Int) < (k : Int) := by omega
      have HYL := Lib.hid hyl
      clear hyl
      go_wp2_with fail
      refine (sort_any _ row _ _ _ HU.out (by omega) (by omega)).mono ?_
      rintro e W50 ⟨rfl, hr50, hg50⟩
      have hs50 := hg50.size
      have HY2 := Lib.hid (HU7.out W50 u (sortI row) hg50 hr50 (.inr (by rw [sortI_length])) ((World.cell?_of_block (a := ⟨WA.heap.size, c, none⟩) (hg50.block WA.heap.size (by omega) (fun e => HU6.out e.symm))).trans hu1))
      have HB2 := Lib.hid (HB.out.grown hg50 (by omega) fun g hg => by
        rcases Sl.row HU.out with e | ⟨b, e, l1, l2⟩
        · rw [e] at hg; cases hg
        · rw [e] at hg; injection hg; omega)
      clear HU7 hr50 hg50 hu1 hu2
      obtain ⟨u2, ku1, ku2, _, _, ku5, ku6, _, ku8⟩ := ISSx.row HY2.out (by omega) (a := c) (by rw [List.length_set]; have := HYL.out; omega)
      rw [nthL_set (by have := HYL.out; omega), if_pos rfl] at ku5 ku6 ku8
      have HU2 := Lib.hid ku5
      have HU8 := Lib.hid ku8
      have HU9 := Lib.hid ku6
      clear ku5 ku6 ku8
      go_wp2_with fail
      refine (compact_row u2 (sortI row) _ _ W50 HU2.out (by omega) (by rw [sortI_length]; omega)).mono ?_
      rintro e W60 ⟨r9, rfl, hr9, hgT, hw9⟩
      have hs60 := hgT.size
      have HY3 := Lib.hid (HU8.out W60 r9 _ hgT hr9 hw9)
      have HB3 := Lib.hid (HB2.out.grown hgT (by omega) fun g hg => by
        rcases Sl.row HU2.out with e | ⟨b, e, l1, l2⟩
        · rw [e] at hg; cases hg
        · rw [e] at hg; injection hg; omega)
      have x3d := (World.cell?_of_block (a := ⟨WA.heap.size, c, none⟩) (hgT.block WA.heap.size (by omega) (fun e => HU9.out e.symm))).trans ku1
      have x3e := (World.frozen?_of_block (a := ⟨WA.heap.size, c, none⟩) (hgT.block WA.heap.size (by omega) (fun e => HU9.out e.symm))).trans ku2
      obtain ⟨A9, c9, rfl, _, _⟩ := hr9.dims
      obtain ⟨A8, c8, rfl, _, _⟩ := HU2.out.dims
      have HY4 := HY3
      have HB4 := Lib.hid (HB3.out.grown (grown_set W60 ⟨WA.heap.size, c, none⟩ (.slice A9 (Lib.compact (sortI row)).length c9)) (by omega) fun g hg => by injection hg with hg; subst hg; show w.heap.size ≤ WA.heap.size; omega)
      clear hr9 hw9 hgT ku1 ku2
      go_wp2_with fail
      go_roundw
      case rel =>
        refine ⟨c + 1, _, by omega, by go_num, HY4, Lib.hid ⟨by rw [List.length_set, List.length_set]; exact HYL.out, fun j hj => ?_⟩, by rw [size_setCell]; omega, HB4⟩
        rw [nthL_set (by rw [List.length_set]; have := HYL.out; omega), nthL_set (by have := HYL.out; omega)]
        by_cases e : j = c
        · subst e; rw [if_pos rfl, if_pos (Nat.lt_succ_self j)]; exact HRE.out
        · rw [if_neg e, if_neg e, HR.out.2 j hj]
          by_cases e2 : j < c
          · rw [if_pos e2, if_pos (by omega)]
          · rw [if_neg e2, if_neg (by omega)]
      case measure => simp [intOf]; omega

end Go.Proofs.Ytkobodoboeoaiaa

/- Contracts: AdjacentClusters, the program's and the reference's. -/
namespace Go.Proofs.Ytkobodoboeoaiaa
open Go.ChangeShapes Go.WideShapes Go.ChangeAt Go.RowKit
set_option linter.unusedVariables false

def adB (N : NetD) (l : List Int) : Bool := N.good && clusB N l
def adOut (N : NetD) (l : List Int) : List (List Int) := if adB N l then adjCl N l ((mostI l).toNat + 1) else []
theorem clus_most {N : NetD} {l : List Int} (hg : N.good = true) (h : Clus N l) : (mostI l).toNat + 1 ≤ N.ends.length := by
  obtain ⟨m, hm, hm3⟩ := h.most hg
  rw [hm, Int.toNat_natCast]
  omega
theorem sum_rows {xss : List (List Int)} {m : Nat} (h : ∀ k, k < xss.length → (nthL xss k).length ≤ m) : ∀ k, k ≤ xss.length → sumL xss k ≤ k * m
  | 0, _ => by simp [sumL]
  | k + 1, hk => by
    rw [sumL_succ xss k (by omega), Nat.add_mul]
    have h1 := h k (by omega)
    have h2 := sum_rows h k (by omega)
    omega
theorem adOut_cnt (N : NetD) (l : List Int) : cntSS (adOut N l) ≤ 4096 := by
  unfold adOut
  cases h : adB N l with
  | false => simp [cntSS, sumL_zero]
  | true =>
    rw [if_pos rfl]
    unfold adB at h
    rw [Bool.and_eq_true] at h
    have hg := h.1
    have hm := clus_most hg (clusB_is h.2)
    obtain ⟨_, n40⟩ := good_n hg
    generalize (mostI l).toNat + 1 = m at hm
    have := sum_rows (xss := adjCl N l m) (m := m) (fun k hk => by rw [nthL_adjCl N l (by rw [adjCl_length] at hk; exact hk)]; exact adjRow_len N l m k) _ (Nat.le_refl _)
    rw [adjCl_length] at this
    have : m * m ≤ 40 * 40 := Nat.mul_le_mul (by omega) (by omega)
    unfold cntSS
    rw [adjCl_length]
    omega

set_option maxHeartbeats 4000000 in
set_option maxRecDepth 100000 in
theorem AdjacentClusters_impl (v1 : Value) (N : NetD) (lo1 hi1 : Nat) (v2 : Value) (l : List Int) (lo2 hi2 : Nat) (w : World) (h1 : Net w lo1 hi1 v1 N) (hh1 : hi1 ≤ w.heap.size) (h2 : IntS w lo2 hi2 v2 l) (hh2 : hi2 ≤ w.heap.size) (hz1 : N.sz ≤ 1048576) (hz2 : l.length ≤ 1048576) (ok1 : N.Ok) (ok2 : ∀ z ∈ l, I64 z) :
    Calls Try.prog 16 #[v1, v2] w fun e w' => ∃ r, e = .returned (.tuple #[r, .bool (adB N l)]) ∧ IntSSx w' w.heap.size w'.heap.size r (adOut N l) ∧ Below w.heap.size w w' := by
  clear ok1 ok2
  have F1 := Lib.hid h1
  obtain ⟨A1, c1, A1', c1', A1'', c1'', rfl, hc1, hd1, _⟩ := h1.parts
  clear h1
  have F2 := Lib.hid h2
  obtain ⟨A2, c2, rfl, hc2, hd2⟩ := h2.dims
  clear h2
  obtain ⟨WA, HWA⟩ : ∃ W, Hid (W = (w.alloc (.cells #[.slice A1 N.ends.length c1, .slice A1' N.ids.length c1', .slice A1'' N.inputs.length c1''] 32))) := ⟨_, Lib.hid rfl⟩
  have hbA : Below w.heap.size w WA := by rw [HWA.out]; exact ((Below.refl _ _).alloc (Nat.le_refl _) _)
  have hsA : w.heap.size + 1 ≤ WA.heap.size := by rw [HWA.out]; simp; try omega
  have bx1 : BoxN WA (w.heap.size) #[.slice A1 N.ends.length c1, .slice A1' N.ids.length c1', .slice A1'' N.inputs.length c1''] 32 := by rw [HWA.out]; exact (BoxN.new' _ _ _ (by simp))
  have G1 := Lib.hid (Net.below F1.out hbA hh1); clear F1
  have G2 := Lib.hid (IntS.below F2.out hbA hh2); clear F2
  go_enter Try.func16, Try.ntmps16
  go_upto_region 1 with (fail)
  rw [← HWA.out]; clear HWA
  have kbx1_0 : WA.cell? ⟨w.heap.size, 0, none⟩ = some (.slice A1 N.ends.length c1) := bx1.cell 0 (by simp)
  have kbx1_1 : WA.cell? ⟨w.heap.size, 1, none⟩ = some (.slice A1' N.ids.length c1') := bx1.cell 1 (by simp)
  have kbx1_2 : WA.cell? ⟨w.heap.size, 2, none⟩ = some (.slice A1'' N.inputs.length c1'') := bx1.cell 2 (by simp)
  go_wp2_with fail
  clear kbx1_0 kbx1_1 kbx1_2
  refine (IsNetwork_any _ N lo1 hi1 _ G1.out (by omega) hz1).mono ?_
  rintro e W1 ⟨rfl, hb1⟩
  have hg1 := grown_below hb1; clear hb1
  have hs1 := hg1.size
  have HF1 := Lib.hid ((Turned.refl WA.heap.size WA.heap.size WA).still hg1)
  by_cases hG : N.good = true
  case neg =>
    have hG' : N.good = false := by simpa using hG
    rw [hG']
    have HG := Lib.hid hG'; clear hG hG'
    go_wp2_with fail
    go_ret2
    exact ⟨_, ret_vb (show false = adB N l by unfold adB; rw [HG.out]; simp), by unfold adOut adB; rw [HG.out]; simp only [Bool.false_and]; exact SSx.nil _ _ _, (HF1.out.below_of hbA (by omega) (by omega))⟩
  rw [hG]
  have HG := Lib.hid hG; clear hG
  obtain ⟨n1, n40⟩ := good_n HG.out
  have kbx1_0 : W1.cell? ⟨w.heap.size, 0, none⟩ = some (.slice A1 N.ends.length c1) := (HF1.out.boxN bx1 (by omega)).cell 0 (by simp)
  have kbx1_1 : W1.cell? ⟨w.heap.size, 1, none⟩ = some (.slice A1' N.ids.length c1') := (HF1.out.boxN bx1 (by omega)).cell 1 (by simp)
  have kbx1_2 : W1.cell? ⟨w.heap.size, 2, none⟩ = some (.slice A1'' N.inputs.length c1'') := (HF1.out.boxN bx1 (by omega)).cell 2 (by simp)
  go_wp2_with fail
  clear kbx1_0 kbx1_1 kbx1_2
  refine (isClustering_any _ N lo1 hi1 _ l lo2 hi2 _ (Net.turned G1.out HF1.out (by omega) (by omega)) (by omega) (IntS.turned G2.out HF1.out (by omega) (by omega)) (by omega) HG.out (by omega)).mono ?_
  rintro e W2 ⟨rfl, hb2⟩
  have hg2 := grown_below hb2; clear hb2
  have hs2 := hg2.size
  have HF2 := Lib.hid (HF1.out.still hg2); clear HF1
  by_cases hC : clusB N l = true
  case neg =>
    have hC' : clusB N l = false := by simpa using hC
    rw [hC']
    have HC := Lib.hid hC'; clear hC hC'
    go_wp2_with fail
    go_ret2
    exact ⟨_, ret_vb (show false = adB N l by unfold adB; rw [HC.out]; simp), by unfold adOut adB; rw [HC.out]; simp only [Bool.and_false]; exact SSx.nil _ _ _, (HF2.out.below_of hbA (by omega) (by omega))⟩
  rw [hC]
  have HC := Lib.hid hC; clear hC
  have HK := Lib.hid (clusB_is HC.out)
  have HOK := Lib.hid (show adB N l = true by unfold adB; rw [HG.out, HC.out]; rfl)
  have kbx1_0 : W2.cell? ⟨w.heap.size, 0, none⟩ = some (.slice A1 N.ends.length c1) := (HF2.out.boxN bx1 (by omega)).cell 0 (by simp)
  have kbx1_1 : W2.cell? ⟨w.heap.size, 1, none⟩ = some (.slice A1' N.ids.length c1') := (HF2.out.boxN bx1 (by omega)).cell 1 (by simp)
  have kbx1_2 : W2.cell? ⟨w.heap.size, 2, none⟩ = some (.slice A1'' N.inputs.length c1'') := (HF2.out.boxN bx1 (by omega)).cell 2 (by simp)
  go_wp2_with fail
  clear kbx1_0 kbx1_1 kbx1_2
  refine (adjacentClusters_any _ N lo1 hi1 _ l _ _ _ (Net.turned G1.out HF2.out (by omega) (by omega)) (by omega) (IntS.turned G2.out HF2.out (by omega) (by omega)) (by omega) HG.out HK.out).mono ?_
  rintro e W3 ⟨r, rfl, hr, hb3⟩
  have hg3 := grown_below hb3; clear hb3
  have hs3 := hg3.size
  have HF3 := Lib.hid (HF2.out.still hg3); clear HF2
  have O3 := Lib.hid hr; clear hr
  obtain ⟨Ao, co, rfl, hco, hdo⟩ := ISSx.dims O3.out
  go_wp2_with fail
  go_ret2
  refine ⟨_, ret_vb HOK.out.symm, ?_, (HF3.out.below_of hbA (by omega) (by omega))⟩
  unfold adOut
  rw [HOK.out, if_pos rfl]
  exact ISSx.mono O3.out (by omega) (by omega)

set_option maxHeartbeats 4000000 in
set_option maxRecDepth 100000 in
theorem AdjacentClusters_spec (v1 : Value) (N : NetD) (lo1 hi1 : Nat) (v2 : Value) (l : List Int) (lo2 hi2 : Nat) (w : World) (h1 : Net w lo1 hi1 v1 N) (hh1 : hi1 ≤ w.heap.size) (h2 : IntS w lo2 hi2 v2 l) (hh2 : hi2 ≤ w.heap.size) (hz1 : N.sz ≤ 1048576) (hz2 : l.length ≤ 1048576) (ok1 : N.Ok) (ok2 : ∀ z ∈ l, I64 z) :
    Calls Try.prog 13 #[v1, v2] w fun e w' => ∃ r, e = .returned (.tuple #[r, .bool (adB N l)]) ∧ IntSSx w' w.heap.size w'.heap.size r (adOut N l) ∧ Below w.heap.size w w' := by
  clear ok1 ok2
  have F1 := Lib.hid h1
  obtain ⟨A1, c1, A1', c1', A1'', c1'', rfl, hc1, hd1, _⟩ := h1.parts
  clear h1
  have F2 := Lib.hid h2
  obtain ⟨A2, c2, rfl, hc2, hd2⟩ := h2.dims
  clear h2
  obtain ⟨WA, HWA⟩ : ∃ W, Hid (W = (w.alloc (.cells #[.slice A1 N.ends.length c1, .slice A1' N.ids.length c1', .slice A1'' N.inputs.length c1''] 32))) := ⟨_, Lib.hid rfl⟩
  have hbA : Below w.heap.size w WA := by rw [HWA.out]; exact ((Below.refl _ _).alloc (Nat.le_refl _) _)
  have hsA : w.heap.size + 1 ≤ WA.heap.size := by rw [HWA.out]; simp; try omega
  have bx1 : BoxN WA (w.heap.size) #[.slice A1 N.ends.length c1, .slice A1' N.ids.length c1', .slice A1'' N.inputs.length c1''] 32 := by rw [HWA.out]; exact (BoxN.new' _ _ _ (by simp))
  have G1 := Lib.hid (Net.below F1.out hbA hh1); clear F1
  have G2 := Lib.hid (IntS.below F2.out hbA hh2); clear F2
  go_enter Try.func13, Try.ntmps13
  go_upto_region 1 with (fail)
  rw [← HWA.out]; clear HWA
  have kbx1_0 : WA.cell? ⟨w.heap.size, 0, none⟩ = some (.slice A1 N.ends.length c1) := bx1.cell 0 (by simp)
  have kbx1_1 : WA.cell? ⟨w.heap.size, 1, none⟩ = some (.slice A1' N.ids.length c1') := bx1.cell 1 (by simp)
  have kbx1_2 : WA.cell? ⟨w.heap.size, 2, none⟩ = some (.slice A1'' N.inputs.length c1'') := bx1.cell 2 (by simp)
  go_wp2_with fail
  clear kbx1_0 kbx1_1 kbx1_2
  refine (neGood_any _ N lo1 hi1 _ G1.out (by omega) hz1).mono ?_
  rintro e W1 ⟨rfl, hb1⟩
  have hg1 := grown_below hb1; clear hb1
  have hs1 := hg1.size
  have HF1 := Lib.hid ((Turned.refl WA.heap.size WA.heap.size WA).still hg1)
  by_cases hG : N.good = true
  case neg =>
    have hG' : N.good = false := by simpa using hG
    rw [hG']
    have HG := Lib.hid hG'; clear hG hG'
    go_wp2_with fail
    go_ret2
    exact ⟨_, ret_vb (show false = adB N l by unfold adB; rw [HG.out]; simp), by unfold adOut adB; rw [HG.out]; simp only [Bool.false_and]; exact SSx.nil _ _ _, (HF1.out.below_of hbA (by omega) (by omega))⟩
  rw [hG]
  have HG := Lib.hid hG; clear hG
  obtain ⟨n1, n40⟩ := good_n HG.out
  have kbx1_0 : W1.cell? ⟨w.heap.size, 0, none⟩ = some (.slice A1 N.ends.length c1) := (HF1.out.boxN bx1 (by omega)).cell 0 (by simp)
  have kbx1_1 : W1.cell? ⟨w.heap.size, 1, none⟩ = some (.slice A1' N.ids.length c1') := (HF1.out.boxN bx1 (by omega)).cell 1 (by simp)
  have kbx1_2 : W1.cell? ⟨w.heap.size, 2, none⟩ = some (.slice A1'' N.inputs.length c1'') := (HF1.out.boxN bx1 (by omega)).cell 2 (by simp)
  go_wp2_with fail
  clear kbx1_0 kbx1_1 kbx1_2
  refine (deClustering_any _ N lo1 hi1 _ l lo2 hi2 _ (Net.turned G1.out HF1.out (by omega) (by omega)) (by omega) (IntS.turned G2.out HF1.out (by omega) (by omega)) (by omega) HG.out (by omega)).mono ?_
  rintro e W2 ⟨rfl, hb2⟩
  have hg2 := grown_below hb2; clear hb2
  have hs2 := hg2.size
  have HF2 := Lib.hid (HF1.out.still hg2); clear HF1
  by_cases hC : clusB N l = true
  case neg =>
    have hC' : clusB N l = false := by simpa using hC
    rw [hC']
    have HC := Lib.hid hC'; clear hC hC'
    go_wp2_with fail
    go_ret2
    exact ⟨_, ret_vb (show false = adB N l by unfold adB; rw [HC.out]; simp), by unfold adOut adB; rw [HC.out]; simp only [Bool.and_false]; exact SSx.nil _ _ _, (HF2.out.below_of hbA (by omega) (by omega))⟩
  rw [hC]
  have HC := Lib.hid hC; clear hC
  have HK := Lib.hid (clusB_is HC.out)
  have HOK := Lib.hid (show adB N l = true by unfold adB; rw [HG.out, HC.out]; rfl)
  have kbx1_0 : W2.cell? ⟨w.heap.size, 0, none⟩ = some (.slice A1 N.ends.length c1) := (HF2.out.boxN bx1 (by omega)).cell 0 (by simp)
  have kbx1_1 : W2.cell? ⟨w.heap.size, 1, none⟩ = some (.slice A1' N.ids.length c1') := (HF2.out.boxN bx1 (by omega)).cell 1 (by simp)
  have kbx1_2 : W2.cell? ⟨w.heap.size, 2, none⟩ = some (.slice A1'' N.inputs.length c1'') := (HF2.out.boxN bx1 (by omega)).cell 2 (by simp)
  go_wp2_with fail
  clear kbx1_0 kbx1_1 kbx1_2
  refine (deAdjacent_any _ N lo1 hi1 _ l _ _ _ (Net.turned G1.out HF2.out (by omega) (by omega)) (by omega) (IntS.turned G2.out HF2.out (by omega) (by omega)) (by omega) HG.out HK.out).mono ?_
  rintro e W3 ⟨r, rfl, hr, hb3⟩
  have hg3 := grown_below hb3; clear hb3
  have hs3 := hg3.size
  have HF3 := Lib.hid (HF2.out.still hg3); clear HF2
  have O3 := Lib.hid hr; clear hr
  obtain ⟨Ao, co, rfl, hco, hdo⟩ := ISSx.dims O3.out
  go_wp2_with fail
  go_ret2
  refine ⟨_, ret_vb HOK.out.symm, ?_, (HF3.out.below_of hbA (by omega) (by omega))⟩
  unfold adOut
  rw [HOK.out, if_pos rfl]
  exact ISSx.mono O3.out (by omega) (by omega)

end Go.Proofs.Ytkobodoboeoaiaa

/- Plain: the colours that clusters get one after another. No condition on any program. -/
namespace Go.Proofs.Ytkobodoboeoaiaa
set_option linter.unusedVariables false

/-- the colours of those among the first q adjacent clusters that come before cluster k -/
def ccUse (row cs : List Int) (k q : Nat) : List Int := ((row.take q).filter fun x => decide (x < (k : Int))).map fun x => nth cs x.toNat
theorem ccUse_zero (row cs : List Int) (k : Nat) : ccUse row cs k 0 = [] := rfl
theorem ccUse_yes {row cs : List Int} {k q : Nat} (hq : q < row.length) (h : nth row q < k) : ccUse row cs k (q + 1) = ccUse row cs k q ++ [nth cs (nth row q).toNat] := by
  unfold ccUse
  rw [List.take_succ_eq_append_getElem hq, List.filter_append, List.map_append, ← nth_eq hq]
  congr 1
  simp [h]
theorem ccUse_no {row cs : List Int} {k q : Nat} (hq : q < row.length) (h : ¬ nth row q < k) : ccUse row cs k (q + 1) = ccUse row cs k q := by
  unfold ccUse
  rw [List.take_succ_eq_append_getElem hq, List.filter_append, List.map_append, ← nth_eq hq]
  simp [h]
theorem ccUse_len (row cs : List Int) (k q : Nat) : (ccUse row cs k q).length ≤ q := by
  unfold ccUse
  rw [List.length_map]
  exact Nat.le_trans (List.length_filter_le _ _) (by rw [List.length_take]; omega)
def ccN (A : List (List Int)) : Nat → List Int
  | 0 => []
  | k + 1 => ccN A k ++ [((lf (ccUse (nthL A k) (ccN A k) k (nthL A k).length) : Nat) : Int)]
theorem ccN_len (A : List (List Int)) : ∀ k, (ccN A k).length = k
  | 0 => rfl
  | k + 1 => by rw [ccN, List.length_append, ccN_len A k]; rfl
def ccOut (N : NetD) (l : List Int) : DecD := if adB N l then ⟨l, ccN (adOut N l) (adOut N l).length⟩ else ⟨[], []⟩
theorem adOut_yes {N : NetD} {l : List Int} (h : adB N l = true) : adOut N l = adjCl N l ((mostI l).toNat + 1) := by unfold adOut; rw [if_pos h]
theorem adOut_len (N : NetD) (l : List Int) : (adOut N l).length ≤ 40 := by
  unfold adOut
  cases h : adB N l with
  | false => simp
  | true =>
    rw [if_pos rfl, adjCl_length]
    unfold adB at h
    rw [Bool.and_eq_true] at h
    have hm := clus_most h.1 (clusB_is h.2)
    obtain ⟨_, n40⟩ := good_n h.1
    omega
/-- an adjacent cluster is one of the clusters -/
theorem adOut_at {N : NetD} {l : List Int} (h : adB N l = true) {k q : Nat} (hk : k < (adOut N l).length) (hq : q < (nthL (adOut N l) k).length) : ∃ t : Nat, nth (nthL (adOut N l) k) q = t ∧ t < (adOut N l).length := by
  have h1 : nth (nthL (adOut N l) k) q ∈ nthL (adOut N l) k := nth_mem hq
  rw [adOut_yes h] at hk ⊢
  rw [adOut_yes h, adjCl_length] at *
  rw [nthL_adjCl N l hk] at h1 ⊢
  unfold adjRow at h1
  obtain ⟨d, hd, e⟩ := List.mem_map.1 h1
  rw [List.mem_filter, List.mem_range] at hd
  exact ⟨d, e.symm, hd.1⟩
theorem adRow_len {N : NetD} {l : List Int} {k : Nat} (hk : k < (adOut N l).length) : (nthL (adOut N l) k).length ≤ 40 := by
  have h40 := adOut_len N l
  cases h : adB N l with
  | false => unfold adOut at hk; rw [h] at hk; simp at hk
  | true =>
    rw [adOut_yes h] at hk h40 ⊢
    rw [adjCl_length] at hk h40
    rw [nthL_adjCl N l hk]
    have := adjRow_len N l ((mostI l).toNat + 1) k
    omega
theorem ccOut_len (N : NetD) (l : List Int) : (ccOut N l).cluster.length ≤ l.length ∧ (ccOut N l).colour.length ≤ 40 := by
  unfold ccOut
  split
  · exact ⟨Nat.le_refl _, by rw [ccN_len]; exact adOut_len N l⟩
  · exact ⟨Nat.zero_le _, Nat.zero_le _⟩

end Go.Proofs.Ytkobodoboeoaiaa

/- Contracts: ColourClusters, the program's and the reference's. -/
namespace Go.Proofs.Ytkobodoboeoaiaa
open Go.ChangeShapes Go.WideShapes Go.ChangeAt Go.RowKit
set_option linter.unusedVariables false

theorem results_cell2 {fn : Func} {t u : Tmp} {ty : TypeId} (h : fn.results = #[.cell t ty, .tmp u]) (tmps : Array Value) (P : Program) (w : World) {p : Addr} {v : Value} (ha : tmps.getD t undef = .pointer (some p)) (hl : (loadVar ty p).run P w = .ok v w) :
    (results fn tmps).run P w = .ok (.tuple #[v, tmps.getD u undef]) w := by
  have ha' : tmps[t]?.getD undef = .pointer (some p) := by simpa using ha
  simp [results, h, ha', asAddr, hl]
theorem load_dec {w : World} {g : Nat} {a b : Value} (h : BoxN w g #[a, b] 43) : (loadVar 43 ⟨g, 0, none⟩).run Try.prog w = .ok (.agg #[a, b]) w := by
  have k0 : w.cell? ⟨g, 0, none⟩ = some a := h.cell 0 (by simp)
  have k1 : w.cell? ⟨g, 1, none⟩ = some b := h.cell 1 (by simp)
  unfold loadVar
  simp [go_sem, k0, k1]
theorem own_app1 {w : World} {base : Nat} {e : TypeId} {v : Value} {ps : List Int} {z : Int} (h : w.ownsRow base e 1 v (ps.length + 1) (ps.map (Value.int .i64) ++ [.int .i64 z])) : OwnI w base e v (ps ++ [z]) := by
  unfold OwnI Own
  rw [List.map_append]
  simpa using h
theorem DecX.mk {w : World} {lo hi m : Nat} {v1 v2 : Value} {D : DecD} (h1 : lo ≤ m) (h2 : m ≤ hi) (h3 : IntS w lo m v1 D.cluster) (h4 : IntS w m hi v2 D.colour) : DecX w lo hi (.agg #[v1, v2]) D := ⟨v1, v2, m, rfl, h1, h2, h3, h4⟩
theorem ccNo {N : NetD} {l : List Int} (h : adB N l = false) (w : World) (lo hi : Nat) (hh : lo ≤ hi) : DecX w lo hi (.agg #[.slice none 0 0, .slice none 0 0]) (ccOut N l) := by
  unfold ccOut
  rw [h]
  exact DecX.mk (Nat.le_refl _) hh (IntS.nil _ _ _) (IntS.nil _ _ _)
theorem ccYes {N : NetD} {l : List Int} (h : adB N l = true) : ccOut N l = ⟨l, ccN (adOut N l) (adOut N l).length⟩ := by unfold ccOut; rw [if_pos h]

set_option maxHeartbeats 4000000 in
set_option maxRecDepth 100000 in
theorem l1Own_c (v : Value) (zs : List Int) (lo hi : Nat) (w : World) (h : IntS w lo hi v zs) (hhi : hi ≤ w.heap.size) (h0 : 0 < zs.length) (hl : zs.length ≤ 1048576) :
    Calls Try.prog 59 #[v] w fun e w' => ∃ r, e = .returned r ∧ IntS w' w.heap.size w'.heap.size r zs ∧ Below w.heap.size w w' := by
  have F := Lib.hid h
  obtain ⟨A, c, rfl, hc, hd⟩ := h.dims
  obtain ⟨b, off, rfl, _, hb, _, _⟩ := h.opened (j := 0) h0
  have HE := Lib.hid (OwnI.empty w w.heap.size 3 rfl (Nat.le_refl _))
  have HC := Lib.hid (show ∀ j, j < zs.length → (w.alloc (.cells #[] 3)).cell? ⟨b, off + j, none⟩ = some (.int .i64 (nth zs j)) from fun j hj => (IntS.at_ (F.out.alloc hhi _) hj).1)
  clear h
  go_enter Try.func59, Try.ntmps59
  go_wp2_with (at_builtin; refine append_ints (s := .tmp 3) Try.underlying23 Try.info3 (by decide) (w.alloc (.cells #[] 3)) rfl (.tmp 4) rfl HE.out rfl (g := b) (off := off) zs rfl rfl HC.out (by simp; omega) (by simp) ?_; intro v1 w1 ho1 hg1; have HO := Lib.hid ho1; have HG1 := Lib.hid hg1; clear ho1 hg1)
  go_ret
  refine ⟨_, rfl, ?_, ?_⟩
  · have := HO.out.ints; simpa using this
  · exact ((Below.refl _ _).alloc (Nat.le_refl _) _).grown HG1.out (by simp) (fun g hg => by have := HE.out.lt g hg; omega)

theorem grown_new_set2 (w : World) (o : Obj) (i j : Nat) (a b : Value) : w.grownBy (((w.alloc o).setCell ⟨w.heap.size, i, none⟩ a).setCell ⟨w.heap.size, j, none⟩ b) none := by
  have h1 := grown_alloc w o
  have h2 := grown_set (w.alloc o) ⟨w.heap.size, i, none⟩ a
  have h3 := grown_set ((w.alloc o).setCell ⟨w.heap.size, i, none⟩ a) ⟨w.heap.size, j, none⟩ b
  have s1 := h1.size; have s2 := h2.size; have s3 := h3.size
  exact ⟨h3.os.trans (h2.os.trans h1.os), h3.tape.trans (h2.tape.trans h1.tape), h3.output.trans (h2.output.trans h1.output), by omega, fun k hk _ =>
    (h3.block k (by omega) (fun e => by injection e with e; have e : k = w.heap.size := e; omega)).trans ((h2.block k (by omega) (fun e => by injection e with e; have e : k = w.heap.size := e; omega)).trans (h1.block k hk (by simp)))⟩

set_option maxHeartbeats 4000000 in
set_option maxRecDepth 100000 in
theorem ColourClusters_impl (v1 : Value) (N : NetD) (lo1 hi1 : Nat) (v2 : Value) (l : List Int) (lo2 hi2 : Nat) (w : World) (h1 : Net w lo1 hi1 v1 N) (hh1 : hi1 ≤ w.heap.size) (h2 : IntS w lo2 hi2 v2 l) (hh2 : hi2 ≤ w.heap.size) (hz1 : N.sz ≤ 1048576) (hz2 : l.length ≤ 1048576) (ok1 : N.Ok) (ok2 : ∀ z ∈ l, I64 z) :
    Calls Try.prog 25 #[v1, v2] w fun e w' => ∃ r, e = .returned (.tuple #[r, .bool (adB N l)]) ∧ DecX w' w.heap.size w'.heap.size r (ccOut N l) ∧ Below w.heap.size w w' := by
  clear ok1 ok2
  have F1 := Lib.hid h1
  obtain ⟨A1, c1, A1', c1', A1'', c1'', rfl, hc1, hd1, _⟩ := h1.parts
  clear h1
  have F2 := Lib.hid h2
  obtain ⟨A2, c2, rfl, hc2, hd2⟩ := h2.dims
  clear h2
  obtain ⟨WA, HWA⟩ : ∃ W, Hid (W = ((w.alloc (.cells #[.slice A1 N.ends.length c1, .slice A1' N.ids.length c1', .slice A1'' N.inputs.length c1''] 32)).alloc (.cells #[.slice none 0 0, .slice none 0 0] 43))) := ⟨_, Lib.hid rfl⟩
  have hbA : Below w.heap.size w WA := by rw [HWA.out]; exact (((Below.refl _ _).alloc (Nat.le_refl _) _).alloc (by simp; try omega) _)
  have hsA : w.heap.size + 2 ≤ WA.heap.size := by rw [HWA.out]; simp; try omega
  have bx1 : BoxN WA (w.heap.size) #[.slice A1 N.ends.length c1, .slice A1' N.ids.length c1', .slice A1'' N.inputs.length c1''] 32 := by rw [HWA.out]; exact (BoxN.new' _ _ _ (by simp)).still (grown_alloc _ _)
  have bxx0 : BoxN WA (w.heap.size + 1) #[.slice none 0 0, .slice none 0 0] 43 := by rw [HWA.out]; exact (BoxN.new' _ _ _ (by simp))
  have G1 := Lib.hid (Net.below F1.out hbA hh1); clear F1
  have G2 := Lib.hid (IntS.below F2.out hbA hh2); clear F2
  go_enter Try.func25, Try.ntmps25
  go_upto_region 1 with (fail)
  rw [← HWA.out]; clear HWA
  have kbx1_0 : WA.cell? ⟨w.heap.size, 0, none⟩ = some (.slice A1 N.ends.length c1) := bx1.cell 0 (by simp)
  have kbx1_1 : WA.cell? ⟨w.heap.size, 1, none⟩ = some (.slice A1' N.ids.length c1') := bx1.cell 1 (by simp)
  have kbx1_2 : WA.cell? ⟨w.heap.size, 2, none⟩ = some (.slice A1'' N.inputs.length c1'') := bx1.cell 2 (by simp)
  go_wp2_with fail
  clear kbx1_0 kbx1_1 kbx1_2
  refine (IsNetwork_any _ N lo1 hi1 _ G1.out (by omega) hz1).mono ?_
  rintro e W1 ⟨rfl, hb1⟩
  have hg1 := grown_below hb1; clear hb1
  have hs1 := hg1.size
  have HF1 := Lib.hid ((Turned.refl WA.heap.size WA.heap.size WA).still hg1)
  by_cases hG : N.good = true
  case neg =>
    have hG' : N.good = false := by simpa using hG
    rw [hG']
    have HG := Lib.hid hG'; clear hG hG'
    have HNO := Lib.hid (show adB N l = false by unfold adB; rw [HG.out]; simp)
    have kbxx0_0 : W1.cell? ⟨w.heap.size + 1, 0, none⟩ = some (.slice none 0 0) := (HF1.out.boxN bxx0 (by omega)).cell 0 (by simp)
    have kbxx0_1 : W1.cell? ⟨w.heap.size + 1, 1, none⟩ = some (.slice none 0 0) := (HF1.out.boxN bxx0 (by omega)).cell 1 (by simp)
    have krf := (HF1.out.boxN bxx0 (by omega)).frozen 0
    have krf1 := (HF1.out.boxN bxx0 (by omega)).frozen 1
    have hbE := (HF1.out.below_of hbA (by omega) (by omega))
    go_wp2_with fail
    ((try simp only [Exit.inBlock, Exit.then]); refine bodyPost_ret (results_cell2 rfl _ _ _ rfl (load_dec (((HF1.out.boxN bxx0 (by omega)).set 0 (.slice none 0 0)).set 1 (.slice none 0 0)))) rfl ?_)
    refine ⟨_, ret_vb HNO.out.symm, ccNo HNO.out _ _ _ (by simp; omega), ?_⟩
    exact (hbE.setCell (p := ⟨w.heap.size + 1, 0, none⟩) (by simp) _).setCell (p := ⟨w.heap.size + 1, 1, none⟩) (by simp) _
  rw [hG]
  have HG := Lib.hid hG; clear hG
  obtain ⟨n1, n40⟩ := good_n HG.out
  have kbx1_0 : W1.cell? ⟨w.heap.size, 0, none⟩ = some (.slice A1 N.ends.length c1) := (HF1.out.boxN bx1 (by omega)).cell 0 (by simp)
  have kbx1_1 : W1.cell? ⟨w.heap.size, 1, none⟩ = some (.slice A1' N.ids.length c1') := (HF1.out.boxN bx1 (by omega)).cell 1 (by simp)
  have kbx1_2 : W1.cell? ⟨w.heap.size, 2, none⟩ = some (.slice A1'' N.inputs.length c1'') := (HF1.out.boxN bx1 (by omega)).cell 2 (by simp)
  go_wp2_with fail
  clear kbx1_0 kbx1_1 kbx1_2
  refine (isClustering_any _ N lo1 hi1 _ l lo2 hi2 _ (Net.turned G1.out HF1.out (by omega) (by omega)) (by omega) (IntS.turned G2.out HF1.out (by omega) (by omega)) (by omega) HG.out (by omega)).mono ?_
  rintro e W2 ⟨rfl, hb2⟩
  have hg2 := grown_below hb2; clear hb2
  have hs2 := hg2.size
  have HF2 := Lib.hid (HF1.out.still hg2); clear HF1
  by_cases hC : clusB N l = true
  case neg =>
    have hC' : clusB N l = false := by simpa using hC
    rw [hC']
    have HC := Lib.hid hC'; clear hC hC'
    have HNO := Lib.hid (show adB N l = false by unfold adB; rw [HC.out]; simp)
    have kbxx0_0 : W2.cell? ⟨w.heap.size + 1, 0, none⟩ = some (.slice none 0 0) := (HF2.out.boxN bxx0 (by omega)).cell 0 (by simp)
    have kbxx0_1 : W2.cell? ⟨w.heap.size + 1, 1, none⟩ = some (.slice none 0 0) := (HF2.out.boxN bxx0 (by omega)).cell 1 (by simp)
    have krf := (HF2.out.boxN bxx0 (by omega)).frozen 0
    have krf1 := (HF2.out.boxN bxx0 (by omega)).frozen 1
    have hbE := (HF2.out.below_of hbA (by omega) (by omega))
    go_wp2_with fail
    ((try simp only [Exit.inBlock, Exit.then]); refine bodyPost_ret (results_cell2 rfl _ _ _ rfl (load_dec (((HF2.out.boxN bxx0 (by omega)).set 0 (.slice none 0 0)).set 1 (.slice none 0 0)))) rfl ?_)
    refine ⟨_, ret_vb HNO.out.symm, ccNo HNO.out _ _ _ (by simp; omega), ?_⟩
    exact (hbE.setCell (p := ⟨w.heap.size + 1, 0, none⟩) (by simp) _).setCell (p := ⟨w.heap.size + 1, 1, none⟩) (by simp) _
  rw [hC]
  have HC := Lib.hid hC; clear hC
  have HK := Lib.hid (clusB_is HC.out)
  have HOK := Lib.hid (show adB N l = true by unfold adB; rw [HG.out, HC.out]; rfl)
  have hlen : l.length = N.ends.length := HK.out.len
  have hl0 : 0 < l.length := by omega
  clear hlen
  have hm40 := adOut_len N l
  obtain ⟨m, HM⟩ : ∃ m, Hid ((adOut N l).length = m) := ⟨_, Lib.hid rfl⟩
  rw [HM.out] at hm40
  go_wp2_with fail
  refine (clone_any _ l _ _ _ (IntS.turned G2.out HF2.out (by omega) (by omega)) (by omega)).mono ?_
  rintro e W3 ⟨r, rfl, hr0, hb3⟩
  have hg3 := grown_below hb3; clear hb3
  have hs3 := hg3.size
  have HF3 := Lib.hid (HF2.out.still hg3); clear HF2
  have hr := hr0.ints; clear hr0
  have C3 := Lib.hid hr; clear hr
  obtain ⟨Ac, cc, rfl, hcc, hdc⟩ := C3.out.dims
  go_upto_region 4 with (fail)
  refine nameC ?_
  intro W4 HW4
  have hg4 : W3.grownBy W4 none := by rw [HW4.out]; exact by first | exact (grown_new_set2 _ _ _ _ _ _) | exact (grown_alloc _ _)
  have hs4 := hg4.size
  have HF4 := Lib.hid (HF3.out.still hg4); clear HF3
  have C4 := Lib.hid (IntS.still C3.out hg4 (by omega)); clear C3
  have DB4 := Lib.hid (show BoxN W4 W3.heap.size #[.slice Ac l.length cc, .slice none 0 0] 43 by rw [HW4.out]; first | exact ((BoxN.new _ _ _).set 0 _).set 1 _ | exact BoxN.new _ _ _)
  have hzD : W3.heap.size + 1 ≤ W4.heap.size := by have := DB4.out.lt; omega
  clear HW4
  have kbx1_0 : W4.cell? ⟨w.heap.size, 0, none⟩ = some (.slice A1 N.ends.length c1) := (HF4.out.boxN bx1 (by omega)).cell 0 (by simp)
  have kbx1_1 : W4.cell? ⟨w.heap.size, 1, none⟩ = some (.slice A1' N.ids.length c1') := (HF4.out.boxN bx1 (by omega)).cell 1 (by simp)
  have kbx1_2 : W4.cell? ⟨w.heap.size, 2, none⟩ = some (.slice A1'' N.inputs.length c1'') := (HF4.out.boxN bx1 (by omega)).cell 2 (by simp)
  go_wp2_with fail
  clear kbx1_0 kbx1_1 kbx1_2
  refine (adjacentClusters_any _ N lo1 hi1 _ l _ _ _ (Net.turned G1.out HF4.out (by omega) (by omega)) (by omega) (IntS.turned G2.out HF4.out (by omega) (by omega)) (by omega) HG.out HK.out).mono ?_
  rintro e W5 ⟨ra, rfl, hra, hb5⟩
  have hg5 := grown_below hb5; clear hb5
  have hs5 := hg5.size
  have HF5 := Lib.hid (HF4.out.still hg5); clear HF4
  have C5 := Lib.hid (IntS.still C4.out hg5 (by omega)); clear C4
  have DB5 := Lib.hid (BoxN.still DB4.out hg5); clear DB4
  have A5 := Lib.hid hra; clear hra
  have HAS := Lib.hid (show IntSS W5 _ _ ra (adOut N l) by rw [adOut_yes HOK.out]; exact A5.out.ss)
  clear A5
  obtain ⟨Ad, cd, rfl, hcd, hdd⟩ := SS.dims HAS.out
  rw [HM.out] at hcd ⊢
  go_wp2_with fail
  have N_5 := Lib.hid (Net.turned G1.out HF5.out (by omega) (by omega)); clear G1
  have l_5 := Lib.hid (IntS.turned G2.out HF5.out (by omega) (by omega)); clear G2
  have bx1_5 := HF5.out.boxN bx1 (by omega); clear bx1
  have bxx0_5 := HF5.out.boxN bxx0 (by omega); clear bxx0
  have hbA5 := (HF5.out.below_of hbA (by omega) (by omega)); clear hbA HF5
  have hwA : w.heap.size + 2 ≤ W5.heap.size := by omega
  have hwD : w.heap.size + 2 ≤ W3.heap.size := by omega
  have hgD : W3.heap.size + 1 ≤ W5.heap.size := by have := DB5.out.lt; omega
  go_loopw [29] (fun iv wr => ∃ (k : Nat) (vc : Value) (cs : List Int), k ≤ m ∧ iv = .int .i64 k ∧ Hid (BoxN wr W3.heap.size #[.slice Ac l.length cc, vc] 43) ∧ Hid (OwnI wr W5.heap.size 3 vc cs) ∧ Hid (cs = ccN (adOut N l) k) ∧ Hid (Turned W3.heap.size (W3.heap.size + 1) W5 wr)) (fun iv _ => m - (intOf iv).toNat)
  case atStart => exact ⟨0, .slice none 0 0, [], Nat.zero_le _, rfl, DB5, Lib.hid (OwnI.nil _ _ _), Lib.hid rfl, Lib.hid (Turned.refl W3.heap.size (W3.heap.size + 1) W5)⟩
  case round =>
    obtain ⟨k, vc, cs, hk, rfl, HD, HO, HC0, HF6⟩ := hrel
    have hs6 := HF6.out.size
    have hcl : cs.length = k := by rw [HC0.out]; exact ccN_len _ _
    have hcl1 : cs.length ≤ k := Nat.le_of_eq hcl
    have hcl2 : k ≤ cs.length := Nat.le_of_eq hcl.symm
    clear hcl
    by_cases hlt : k < m
    case neg =>
      obtain rfl : k = m := by omega
      have kd0 : wr.cell? ⟨W3.heap.size, 0, none⟩ = some (.slice Ac l.length cc) := HD.out.cell 0 (by simp)
      have kd1 : wr.cell? ⟨W3.heap.size, 1, none⟩ = some vc := HD.out.cell 1 (by simp)
      have kbxx0_0 : wr.cell? ⟨w.heap.size + 1, 0, none⟩ = some (.slice none 0 0) := (HF6.out.boxN bxx0_5 (by omega)).cell 0 (by simp)
      have kbxx0_1 : wr.cell? ⟨w.heap.size + 1, 1, none⟩ = some (.slice none 0 0) := (HF6.out.boxN bxx0_5 (by omega)).cell 1 (by simp)
      have krf := (HF6.out.boxN bxx0_5 (by omega)).frozen 0
      have krf1 := (HF6.out.boxN bxx0_5 (by omega)).frozen 1
      have hbE := (HF6.out.below_of hbA5 (by omega) (by omega))
      obtain ⟨Av, cv, rfl, hcv, hdv⟩ := HO.out.ints.dims
      have HSR := Lib.hid (IntS.turned C5.out HF6.out (by omega) (by omega))
      go_wp2_with fail
      ((try simp only [Exit.inBlock, Exit.then]); refine bodyPost_ret (results_cell2 rfl _ _ _ rfl (load_dec (((HF6.out.boxN bxx0_5 (by omega)).set 0 (.slice Ac l.length cc)).set 1 (.slice Av cs.length cv)))) rfl ?_)
      refine ⟨_, ret_vb HOK.out.symm, ?_, (hbE.setCell (p := ⟨w.heap.size + 1, 0, none⟩) (by simp) _).setCell (p := ⟨w.heap.size + 1, 1, none⟩) (by simp) _⟩
      rw [ccYes HOK.out, HM.out, ← HC0.out]
      refine DecX.mk (m := W5.heap.size) (by omega) (by simp; omega) ?_ ?_
      · exact (IntS.far HSR.out (grownBy_trans (grown_set _ ⟨w.heap.size + 1, 0, none⟩ _) (grown_set _ ⟨w.heap.size + 1, 1, none⟩ _)) (by omega) (fun g e => by injection e with e; have e : w.heap.size + 1 = g := e; omega)).mono (by omega) (by omega)
      · exact (IntS.far HO.out.ints (grownBy_trans (grown_set _ ⟨w.heap.size + 1, 0, none⟩ _) (grown_set _ ⟨w.heap.size + 1, 1, none⟩ _)) (by omega) (fun g e => by injection e with e; have e : w.heap.size + 1 = g := e; omega)).mono (by omega) (by simp)
    have hkA : k < (adOut N l).length := by rw [HM.out]; exact hlt
    obtain ⟨ba, oa, ua, rfl, hba0, hba, za, hua⟩ := SS.opened HAS.out hkA
    replace za := (HF6.out.cell (by omega) (by omega)).trans za
    obtain ⟨Aa, ca, rfl, hca, hda⟩ := hua.dims
    have Ua := Lib.hid hua; clear hua
    have h40 := adRow_len hkA
    have HAT := Lib.hid (fun q (hq : q < (nthL (adOut N l) k).length) => adOut_at HOK.out hkA hq)
    have HNX := Lib.hid (show ccN (adOut N l) (k + 1) = cs ++ [((lf (ccUse (nthL (adOut N l) k) cs k (nthL (adOut N l) k).length) : Nat) : Int)] by rw [HC0.out]; rfl)
    obtain ⟨row, HRW⟩ : ∃ row, Hid (nthL (adOut N l) k = row) := ⟨_, Lib.hid rfl⟩
    have HU := Lib.hid (IntS.turned Ua.out HF6.out (by omega) (by omega))
    clear Ua
    rw [HRW.out] at h40 HAT HNX HU hca za
    have hki : (k : Int) < m := by omega
    obtain ⟨wo, rfl⟩ : ∃ wo : World, wo = wr := ⟨_, rfl⟩
    go_wp2_with fail
    go_loopw [36, 9] (fun i ov wr => ∃ (q : Nat) (us : List Int), q ≤ row.length ∧ i = .int .i64 q ∧ Hid (OwnI wr wo.heap.size 3 ov us) ∧ Hid (us = ccUse row cs k q) ∧ us.length ≤ q ∧ wo.heap.size ≤ wr.heap.size ∧ Hid (Below wo.heap.size wo wr)) (fun i ov _ => row.length - (intOf i).toNat)
    case atStart => exact ⟨0, [], Nat.zero_le _, rfl, Lib.hid (OwnI.nil _ _ _), Lib.hid rfl, Nat.le_refl _, Nat.le_refl _, Lib.hid (Below.refl _ _)⟩
    case round =>
      obtain ⟨q, us, hq, rfl, HZ, HUS, hul, hz9, HB9⟩ := hrel
      have hg9 := grown_below HB9.out
      have HD9 := Lib.hid (HD.out.still hg9)
      have HO9 := Lib.hid (OwnI.still HO.out hg9)
      have HU9 := Lib.hid (IntS.still HU.out hg9 (by omega))
      by_cases hql : q < row.length
      case pos =>
        have hqi : (q : Int) < row.length := by omega
        obtain ⟨d, hd1, hd2⟩ := HAT.out q hql
        obtain ⟨br, orr, rfl, _, _, x1, _⟩ := HU9.out.opened hql
        rw [hd1] at x1
        by_cases hdk : d < k
        case neg =>
          have hdi : decide ((d : Int) < k) = false := decide_eq_false (by omega)
          have HNN := Lib.hid (ccUse_no (cs := cs) (k := k) hql (by rw [hd1]; omega))
          clear hd1
          go_wp2_with fail
          go_roundw
          case rel => exact ⟨q + 1, us, by omega, by go_num, HZ, Lib.hid (by rw [HNN.out]; exact HUS.out), by omega, hz9, HB9⟩
          case measure => simp [intOf]; omega
        have hdi : decide ((d : Int) < k) = true := decide_eq_true (by omega)
        have HNN := Lib.hid (ccUse_yes (cs := cs) (k := k) hql (by rw [hd1]; omega))
        rw [hd1, Int.toNat_natCast] at HNN
        clear hd1
        obtain ⟨y, HY⟩ : ∃ y, Hid (nth cs d = y) := ⟨_, Lib.hid rfl⟩
        rw [HY.out] at HNN
        obtain ⟨Av, cv, rfl, hcv, hdv⟩ := HO9.out.ints.dims
        obtain ⟨bv, ovv, rfl, _, _, y1, _⟩ := HO9.out.ints.opened (j := d) (by omega)
        rw [HY.out] at y1
        have kd1 : wr.cell? ⟨W3.heap.size, 1, none⟩ = some (.slice (some ⟨bv, ovv, none⟩) cs.length cv) := HD9.out.cell 1 (by simp)
        have hdl : (d : Int) < cs.length := by omega
        have hlv := HZ.out.lt
        go_wp2_with (at_builtin; refine append_int (s := .tmp 43) Try.underlying23 Try.info3 (by decide) wr rfl _ rfl HZ.out y _ rfl (by simp [Act.eval, go_sem]) (by omega) (by omega) ?_; intro v' w' ho' hg' hat')
        go_roundw
        case rel =>
          have hgs := hg'.size
          exact ⟨q + 1, _, by omega, by go_num, Lib.hid ho', Lib.hid (by rw [HNN.out, HUS.out]), by simp; omega, by omega, Lib.hid (HB9.out.grown hg' hz9 fun g hg => by have := hlv g hg; omega)⟩
        case measure => simp [intOf]; omega
      obtain rfl : q = row.length := by omega
      obtain ⟨Az, cz, rfl, hcz, hdz⟩ := HZ.out.ints.dims
      have hlf := lf_le us
      rw [← HUS.out] at HNX
      obtain ⟨c, HC⟩ : ∃ c : Nat, Hid (Go.Proofs.Ytkobodoboeoaiaa.lf us = c) := ⟨_, Lib.hid rfl⟩
      rw [HC.out] at HNX hlf
      have HF9 := Lib.hid (HF6.out.still hg9)
      obtain ⟨i1, hi1', hz1⟩ := Option.map_eq_some_iff.1 Try.info3
      simp only [Prod.mk.injEq] at hz1
      obtain ⟨hz1a, hz1b, hz1c⟩ := hz1
      have HI1 := Lib.hid hz1a; have HI2 := Lib.hid hz1b; have HI3 := Lib.hid hz1c; have HII := Lib.hid hi1'
      clear hz1a hz1b hz1c hi1' HU9 HB9 hg9
      obtain ⟨wq, rfl⟩ : ∃ wq : World, wq = wr := ⟨_, rfl⟩
      have hA9 : W5.heap.size ≤ wq.heap.size := by omega
      have hlc : (cs.map (Value.int .i64)).length ≤ 40 := by rw [List.length_map]; omega
      go_wp2_with fail
      refine wp_region_U (fun w' => w'.cell? ⟨W3.heap.size, 0, none⟩ = some (.slice Ac l.length cc) ∧ w'.cell? ⟨W3.heap.size, 1, none⟩ = some (vc)) [7] (by kernel_rfl) ?_
      refine nameU ?_
      intro W7 HW7
      have hg7 : wq.grownBy W7 none := by rw [HW7.out]; exact grown_drew _
      clear HW7
      have hs7 := hg7.size
      have HF7 := Lib.hid (HF9.out.still hg7); clear HF9
      have DB7 := Lib.hid (BoxN.still HD9.out hg7); clear HD9
      have O7 := Lib.hid (OwnI.still HO9.out hg7); clear HO9
      have Z7 := Lib.hid (OwnI.still HZ.out hg7); clear HZ
      have hS8 : W7.cell? ⟨W3.heap.size, 0, none⟩ = some (.slice Ac l.length cc) ∧ W7.cell? ⟨W3.heap.size, 1, none⟩ = some (vc) := ⟨DB7.out.cell 0 (by simp), DB7.out.cell 1 (by simp)⟩
      refine anyU_take (i := 0) (v := .pointer (some ⟨W3.heap.size, 1, none⟩)) rfl (by kernel_rfl) (by kernel_rfl) (by kernel_rfl) (fun _ _ _ h => h) ⟨by rfl, fun w' hS' => (by obtain ⟨s1, s2⟩ := hS'; go_simp)⟩ hS8 ?_
      simp only [List.getElem_toArray, List.getElem_cons_zero, Act.put, List.setIfInBounds_toArray, List.set_cons_zero, List.set_cons_succ]
      refine anyU_take (i := 1) (v := vc) rfl (by kernel_rfl) (by kernel_rfl) (by kernel_rfl) (fun _ _ _ h => h) ⟨by rfl, fun w' hS' => (by obtain ⟨s1, s2⟩ := hS'; go_simp)⟩ hS8 ?_
      simp only [List.getElem_toArray, List.getElem_cons_succ, List.getElem_cons_zero, Act.put, List.setIfInBounds_toArray, List.set_cons_zero, List.set_cons_succ]
      refine anyU_take (i := 2) (v := .slice Az us.length cz) rfl (by kernel_rfl) (by kernel_rfl) (by kernel_rfl) (fun _ _ _ h => h) ⟨by rfl, fun w' hS' => (by obtain ⟨s1, s2⟩ := hS'; go_simp)⟩ hS8 ?_
      simp only [List.getElem_toArray, List.getElem_cons_succ, List.getElem_cons_zero, Act.put, List.setIfInBounds_toArray, List.set_cons_zero, List.set_cons_succ]
      refine anyU_ready (rs := [3]) (by kernel_rfl) (by simp) ?_
      refine ReadyU.cons (i := 3) rfl (fun K hK => ?_) ReadyU.nil
      simp only [List.getElem_toArray, List.getElem_cons_succ, List.getElem_cons_zero]
      refine ite_is (by rfl) ?_
      simp [go_sem]
      refine (leastFree_any _ us _ _ _ Z7.out.ints (Nat.le_refl _) (by omega)).mono ?_
      rintro e w' ⟨rfl, rfl⟩
      rw [HC.out]
      refine hK.out _ _ ⟨fun _ => hS8, ?_⟩
      clear hK K
      try simp only [List.getElem_toArray, List.getElem_cons_succ, List.getElem_cons_zero, Act.put, List.setIfInBounds_toArray, List.set_cons_zero, List.set_cons_succ]
      refine anyU_ready (rs := [4]) (by kernel_rfl) (by simp) ?_
      refine ReadyU.cons (i := 4) rfl (fun K hK => ?_) ReadyU.nil
      simp only [List.getElem_toArray, List.getElem_cons_succ, List.getElem_cons_zero]
      refine ite_is (by rfl) ?_
      simp [go_sem]
      refine hK.out _ _ ⟨fun _ => ⟨(DB7.out.still (grown_alloc _ _)).cell 0 (by simp), (DB7.out.still (grown_alloc _ _)).cell 1 (by simp)⟩, ?_⟩
      clear hK K
      try simp only [List.getElem_toArray, List.getElem_cons_succ, List.getElem_cons_zero, Act.put, List.setIfInBounds_toArray, List.set_cons_zero, List.set_cons_succ]
      refine nameU ?_
      intro W9 HW9
      have hg9 : W7.grownBy W9 none := by rw [HW9.out]; exact grown_alloc _ _
      have BV9 := Lib.hid (show BoxN W9 W7.heap.size #[.int .i64 c] 3 by rw [HW9.out]; exact BoxN.new _ _ _)
      have hz9 : W7.heap.size < W9.heap.size := BV9.out.lt
      clear HW9
      have hs9 := hg9.size
      have HF9 := Lib.hid (HF7.out.still hg9); clear HF7
      have DB9 := Lib.hid (BoxN.still DB7.out hg9); clear DB7
      have O9 := Lib.hid (OwnI.still O7.out hg9); clear O7
      have Z9 := Lib.hid (OwnI.still Z7.out hg9); clear Z7
      have hS10 : W9.cell? ⟨W3.heap.size, 0, none⟩ = some (.slice Ac l.length cc) ∧ W9.cell? ⟨W3.heap.size, 1, none⟩ = some (vc) := ⟨DB9.out.cell 0 (by simp), DB9.out.cell 1 (by simp)⟩
      clear hS8
      have LOX := Lib.hid O9.out.lt
      refine anyU_ready (rs := [5]) (by kernel_rfl) (by simp) ?_
      refine ReadyU.cons (i := 5) rfl (fun K hK => ?_) ReadyU.nil
      refine step_append_lies W9 (by rfl) _ _ _ (by rfl) W5.heap.size 3 i1 _ 1 _ Try.underlying23 HII.out HI1.out HI2.out HI3.out rfl (by omega) vc _ (cs.map (Value.int .i64)) (by rfl) O9.out ⟨W7.heap.size, 0, none⟩ 1 1 [.int .i64 c] (by rfl) (by rfl) (World.news_of_block BV9.out) (by simp [Value.oneCell']) (by omega) (by unfold maxLen; omega) (by omega) (by omega) _ rfl ?_
      intro gp cp W11 hown hg11 hatp hltp
      simp only [List.length_map] at hown ⊢
      have hs11 := hg11.size
      have HF11 := Lib.hid (HF9.out.grown hg11 (fun g e => by have := LOX.out g e; omega)); clear HF9
      have DB11 := Lib.hid (BoxN.far DB9.out hg11 (fun g e => by have := LOX.out g e; omega)); clear DB9
      have HOO11 := Lib.hid (own_app1 hown)
      clear hown LOX
      have hS12 : W11.cell? ⟨W3.heap.size, 0, none⟩ = some (.slice Ac l.length cc) ∧ W11.cell? ⟨W3.heap.size, 1, none⟩ = some (vc) := ⟨DB11.out.cell 0 (by simp), DB11.out.cell 1 (by simp)⟩
      refine hK.out _ _ ⟨fun _ => hS12, ?_⟩
      clear hK K hS10
      try simp only [List.getElem_toArray, List.getElem_cons_succ, List.getElem_cons_zero, Act.put, List.setIfInBounds_toArray, List.set_cons_zero, List.set_cons_succ]
      refine anyU_ready (rs := [6]) (by kernel_rfl) (by simp) ?_
      refine ReadyU.cons (i := 6) rfl (fun K hK => ?_) ReadyU.nil
      simp only [List.getElem_toArray, List.getElem_cons_succ, List.getElem_cons_zero]
      refine ite_is (by rfl) ?_
      simp [go_sem]
      refine hK.out _ _ ⟨fun _ => hS12, ?_⟩
      clear hK K
      try simp only [List.getElem_toArray, List.getElem_cons_succ, List.getElem_cons_zero, Act.put, List.setIfInBounds_toArray, List.set_cons_zero, List.set_cons_succ]
      have kd1 : W11.cell? ⟨W3.heap.size, 1, none⟩ = some vc := DB11.out.cell 1 (by simp)
      have kdf := DB11.out.frozen 1
      refine anyU_ready (rs := [7]) (by kernel_rfl) (by simp) ?_
      refine ReadyU.cons (i := 7) rfl (fun K hK => ?_) ReadyU.nil
      simp only [List.getElem_toArray, List.getElem_cons_succ, List.getElem_cons_zero]
      refine ite_is (by rfl) ?_
      simp [go_sem, kd1, kdf]
      refine hK.out _ _ ⟨fun h => absurd h (by decide), ?_⟩
      clear hK K
      try simp only [List.getElem_toArray, List.getElem_cons_succ, List.getElem_cons_zero, Act.put, List.setIfInBounds_toArray, List.set_cons_zero, List.set_cons_succ]
      refine nameU ?_
      intro W13 HW13
      have hg13 : W11.grownBy W13 (some W3.heap.size) := by rw [HW13.out]; exact grown_set _ _ _
      have hs13 := hg13.size
      have HF13 := Lib.hid (HF11.out.grown hg13 (fun g e => by cases e; omega)); clear HF11
      have O13 := Lib.hid (OwnI.far HOO11.out hg13 (fun g e => .inl (by cases e; omega))); clear HOO11
      have HDN := Lib.hid (show BoxN W13 W3.heap.size #[.slice Ac l.length cc, .slice (some ⟨gp, 0, none⟩) (cs.length + 1) cp] 43 by rw [HW13.out]; exact DB11.out.set 1 _)
      clear HW13 kd1 kdf
      clear hS12
      refine anyU_done (by kernel_rfl) ?_ _
      go_wp2_with fail
      go_roundw
      case rel => exact ⟨k + 1, _, _, by omega, by go_num, HDN, O13, Lib.hid HNX.out.symm, HF13⟩
      case measure => simp [intOf]; omega

set_option maxHeartbeats 4000000 in
set_option maxRecDepth 100000 in
theorem ColourClusters_spec (v1 : Value) (N : NetD) (lo1 hi1 : Nat) (v2 : Value) (l : List Int) (lo2 hi2 : Nat) (w : World) (h1 : Net w lo1 hi1 v1 N) (hh1 : hi1 ≤ w.heap.size) (h2 : IntS w lo2 hi2 v2 l) (hh2 : hi2 ≤ w.heap.size) (hz1 : N.sz ≤ 1048576) (hz2 : l.length ≤ 1048576) (ok1 : N.Ok) (ok2 : ∀ z ∈ l, I64 z) :
    Calls Try.prog 24 #[v1, v2] w fun e w' => ∃ r, e = .returned (.tuple #[r, .bool (adB N l)]) ∧ DecX w' w.heap.size w'.heap.size r (ccOut N l) ∧ Below w.heap.size w w' := by
  clear ok1 ok2
  have F1 := Lib.hid h1
  obtain ⟨A1, c1, A1', c1', A1'', c1'', rfl, hc1, hd1, _⟩ := h1.parts
  clear h1
  have F2 := Lib.hid h2
  obtain ⟨A2, c2, rfl, hc2, hd2⟩ := h2.dims
  clear h2
  obtain ⟨WA, HWA⟩ : ∃ W, Hid (W = ((w.alloc (.cells #[.slice A1 N.ends.length c1, .slice A1' N.ids.length c1', .slice A1'' N.inputs.length c1''] 32)).alloc (.cells #[.slice none 0 0, .slice none 0 0] 43))) := ⟨_, Lib.hid rfl⟩
  have hbA : Below w.heap.size w WA := by rw [HWA.out]; exact (((Below.refl _ _).alloc (Nat.le_refl _) _).alloc (by simp; try omega) _)
  have hsA : w.heap.size + 2 ≤ WA.heap.size := by rw [HWA.out]; simp; try omega
  have bx1 : BoxN WA (w.heap.size) #[.slice A1 N.ends.length c1, .slice A1' N.ids.length c1', .slice A1'' N.inputs.length c1''] 32 := by rw [HWA.out]; exact (BoxN.new' _ _ _ (by simp)).still (grown_alloc _ _)
  have bxx0 : BoxN WA (w.heap.size + 1) #[.slice none 0 0, .slice none 0 0] 43 := by rw [HWA.out]; exact (BoxN.new' _ _ _ (by simp))
  have G1 := Lib.hid (Net.below F1.out hbA hh1); clear F1
  have G2 := Lib.hid (IntS.below F2.out hbA hh2); clear F2
  go_enter Try.func24, Try.ntmps24
  go_upto_region 1 with (fail)
  rw [← HWA.out]; clear HWA
  have kbx1_0 : WA.cell? ⟨w.heap.size, 0, none⟩ = some (.slice A1 N.ends.length c1) := bx1.cell 0 (by simp)
  have kbx1_1 : WA.cell? ⟨w.heap.size, 1, none⟩ = some (.slice A1' N.ids.length c1') := bx1.cell 1 (by simp)
  have kbx1_2 : WA.cell? ⟨w.heap.size, 2, none⟩ = some (.slice A1'' N.inputs.length c1'') := bx1.cell 2 (by simp)
  go_wp2_with fail
  clear kbx1_0 kbx1_1 kbx1_2
  refine (neGood_any _ N lo1 hi1 _ G1.out (by omega) hz1).mono ?_
  rintro e W1 ⟨rfl, hb1⟩
  have hg1 := grown_below hb1; clear hb1
  have hs1 := hg1.size
  have HF1 := Lib.hid ((Turned.refl WA.heap.size WA.heap.size WA).still hg1)
  by_cases hG : N.good = true
  case neg =>
    have hG' : N.good = false := by simpa using hG
    rw [hG']
    have HG := Lib.hid hG'; clear hG hG'
    have HNO := Lib.hid (show adB N l = false by unfold adB; rw [HG.out]; simp)
    have kbxx0_0 : W1.cell? ⟨w.heap.size + 1, 0, none⟩ = some (.slice none 0 0) := (HF1.out.boxN bxx0 (by omega)).cell 0 (by simp)
    have kbxx0_1 : W1.cell? ⟨w.heap.size + 1, 1, none⟩ = some (.slice none 0 0) := (HF1.out.boxN bxx0 (by omega)).cell 1 (by simp)
    have krf := (HF1.out.boxN bxx0 (by omega)).frozen 0
    have krf1 := (HF1.out.boxN bxx0 (by omega)).frozen 1
    have hbE := (HF1.out.below_of hbA (by omega) (by omega))
    go_wp2_with fail
    ((try simp only [Exit.inBlock, Exit.then]); refine bodyPost_ret (results_cell2 rfl _ _ _ rfl (load_dec (((HF1.out.boxN bxx0 (by omega)).set 0 (.slice none 0 0)).set 1 (.slice none 0 0)))) rfl ?_)
    refine ⟨_, ret_vb HNO.out.symm, ccNo HNO.out _ _ _ (by simp; omega), ?_⟩
    exact (hbE.setCell (p := ⟨w.heap.size + 1, 0, none⟩) (by simp) _).setCell (p := ⟨w.heap.size + 1, 1, none⟩) (by simp) _
  rw [hG]
  have HG := Lib.hid hG; clear hG
  obtain ⟨n1, n40⟩ := good_n HG.out
  have kbx1_0 : W1.cell? ⟨w.heap.size, 0, none⟩ = some (.slice A1 N.ends.length c1) := (HF1.out.boxN bx1 (by omega)).cell 0 (by simp)
  have kbx1_1 : W1.cell? ⟨w.heap.size, 1, none⟩ = some (.slice A1' N.ids.length c1') := (HF1.out.boxN bx1 (by omega)).cell 1 (by simp)
  have kbx1_2 : W1.cell? ⟨w.heap.size, 2, none⟩ = some (.slice A1'' N.inputs.length c1'') := (HF1.out.boxN bx1 (by omega)).cell 2 (by simp)
  go_wp2_with fail
  clear kbx1_0 kbx1_1 kbx1_2
  refine (deClustering_any _ N lo1 hi1 _ l lo2 hi2 _ (Net.turned G1.out HF1.out (by omega) (by omega)) (by omega) (IntS.turned G2.out HF1.out (by omega) (by omega)) (by omega) HG.out (by omega)).mono ?_
  rintro e W2 ⟨rfl, hb2⟩
  have hg2 := grown_below hb2; clear hb2
  have hs2 := hg2.size
  have HF2 := Lib.hid (HF1.out.still hg2); clear HF1
  by_cases hC : clusB N l = true
  case neg =>
    have hC' : clusB N l = false := by simpa using hC
    rw [hC']
    have HC := Lib.hid hC'; clear hC hC'
    have HNO := Lib.hid (show adB N l = false by unfold adB; rw [HC.out]; simp)
    have kbxx0_0 : W2.cell? ⟨w.heap.size + 1, 0, none⟩ = some (.slice none 0 0) := (HF2.out.boxN bxx0 (by omega)).cell 0 (by simp)
    have kbxx0_1 : W2.cell? ⟨w.heap.size + 1, 1, none⟩ = some (.slice none 0 0) := (HF2.out.boxN bxx0 (by omega)).cell 1 (by simp)
    have krf := (HF2.out.boxN bxx0 (by omega)).frozen 0
    have krf1 := (HF2.out.boxN bxx0 (by omega)).frozen 1
    have hbE := (HF2.out.below_of hbA (by omega) (by omega))
    go_wp2_with fail
    ((try simp only [Exit.inBlock, Exit.then]); refine bodyPost_ret (results_cell2 rfl _ _ _ rfl (load_dec (((HF2.out.boxN bxx0 (by omega)).set 0 (.slice none 0 0)).set 1 (.slice none 0 0)))) rfl ?_)
    refine ⟨_, ret_vb HNO.out.symm, ccNo HNO.out _ _ _ (by simp; omega), ?_⟩
    exact (hbE.setCell (p := ⟨w.heap.size + 1, 0, none⟩) (by simp) _).setCell (p := ⟨w.heap.size + 1, 1, none⟩) (by simp) _
  rw [hC]
  have HC := Lib.hid hC; clear hC
  have HK := Lib.hid (clusB_is HC.out)
  have HOK := Lib.hid (show adB N l = true by unfold adB; rw [HG.out, HC.out]; rfl)
  have hlen : l.length = N.ends.length := HK.out.len
  have hl0 : 0 < l.length := by omega
  clear hlen
  have hm40 := adOut_len N l
  obtain ⟨m, HM⟩ : ∃ m, Hid ((adOut N l).length = m) := ⟨_, Lib.hid rfl⟩
  rw [HM.out] at hm40
  go_wp2_with fail
  refine (l1Own_c _ l _ _ _ (IntS.turned G2.out HF2.out (by omega) (by omega)) (by omega) hl0 (by omega)).mono ?_
  rintro e W3 ⟨r, rfl, hr, hb3⟩
  have hg3 := grown_below hb3; clear hb3
  have hs3 := hg3.size
  have HF3 := Lib.hid (HF2.out.still hg3); clear HF2
  have C3 := Lib.hid hr; clear hr
  obtain ⟨Ac, cc, rfl, hcc, hdc⟩ := C3.out.dims
  go_upto_region 4 with (fail)
  refine nameC ?_
  intro W4 HW4
  have hg4 : W3.grownBy W4 none := by rw [HW4.out]; exact by first | exact (grown_new_set2 _ _ _ _ _ _) | exact (grown_alloc _ _)
  have hs4 := hg4.size
  have HF4 := Lib.hid (HF3.out.still hg4); clear HF3
  have C4 := Lib.hid (IntS.still C3.out hg4 (by omega)); clear C3
  have DB4 := Lib.hid (show BoxN W4 W3.heap.size #[.slice Ac l.length cc, .slice none 0 0] 43 by rw [HW4.out]; first | exact ((BoxN.new _ _ _).set 0 _).set 1 _ | exact BoxN.new _ _ _)
  have hzD : W3.heap.size + 1 ≤ W4.heap.size := by have := DB4.out.lt; omega
  clear HW4
  have kbx1_0 : W4.cell? ⟨w.heap.size, 0, none⟩ = some (.slice A1 N.ends.length c1) := (HF4.out.boxN bx1 (by omega)).cell 0 (by simp)
  have kbx1_1 : W4.cell? ⟨w.heap.size, 1, none⟩ = some (.slice A1' N.ids.length c1') := (HF4.out.boxN bx1 (by omega)).cell 1 (by simp)
  have kbx1_2 : W4.cell? ⟨w.heap.size, 2, none⟩ = some (.slice A1'' N.inputs.length c1'') := (HF4.out.boxN bx1 (by omega)).cell 2 (by simp)
  go_wp2_with fail
  clear kbx1_0 kbx1_1 kbx1_2
  refine (deAdjacent_any _ N lo1 hi1 _ l _ _ _ (Net.turned G1.out HF4.out (by omega) (by omega)) (by omega) (IntS.turned G2.out HF4.out (by omega) (by omega)) (by omega) HG.out HK.out).mono ?_
  rintro e W5 ⟨ra, rfl, hra, hb5⟩
  have hg5 := grown_below hb5; clear hb5
  have hs5 := hg5.size
  have HF5 := Lib.hid (HF4.out.still hg5); clear HF4
  have C5 := Lib.hid (IntS.still C4.out hg5 (by omega)); clear C4
  have DB5 := Lib.hid (BoxN.still DB4.out hg5); clear DB4
  have A5 := Lib.hid hra; clear hra
  have HAS := Lib.hid (show IntSS W5 _ _ ra (adOut N l) by rw [adOut_yes HOK.out]; exact A5.out.ss)
  clear A5
  obtain ⟨Ad, cd, rfl, hcd, hdd⟩ := SS.dims HAS.out
  rw [HM.out] at hcd ⊢
  go_wp2_with fail
  have N_5 := Lib.hid (Net.turned G1.out HF5.out (by omega) (by omega)); clear G1
  have l_5 := Lib.hid (IntS.turned G2.out HF5.out (by omega) (by omega)); clear G2
  have bx1_5 := HF5.out.boxN bx1 (by omega); clear bx1
  have bxx0_5 := HF5.out.boxN bxx0 (by omega); clear bxx0
  have hbA5 := (HF5.out.below_of hbA (by omega) (by omega)); clear hbA HF5
  have hwA : w.heap.size + 2 ≤ W5.heap.size := by omega
  have hwD : w.heap.size + 2 ≤ W3.heap.size := by omega
  have hgD : W3.heap.size + 1 ≤ W5.heap.size := by have := DB5.out.lt; omega
  go_loopw [29] (fun iv wr => ∃ (k : Nat) (vc : Value) (cs : List Int), k ≤ m ∧ iv = .int .i64 k ∧ Hid (BoxN wr W3.heap.size #[.slice Ac l.length cc, vc] 43) ∧ Hid (OwnI wr W5.heap.size 3 vc cs) ∧ Hid (cs = ccN (adOut N l) k) ∧ Hid (Turned W3.heap.size (W3.heap.size + 1) W5 wr)) (fun iv _ => m - (intOf iv).toNat)
  case atStart => exact ⟨0, .slice none 0 0, [], Nat.zero_le _, rfl, DB5, Lib.hid (OwnI.nil _ _ _), Lib.hid rfl, Lib.hid (Turned.refl W3.heap.size (W3.heap.size + 1) W5)⟩
  case round =>
    obtain ⟨k, vc, cs, hk, rfl, HD, HO, HC0, HF6⟩ := hrel
    have hs6 := HF6.out.size
    have hcl : cs.length = k := by rw [HC0.out]; exact ccN_len _ _
    have hcl1 : cs.length ≤ k := Nat.le_of_eq hcl
    have hcl2 : k ≤ cs.length := Nat.le_of_eq hcl.symm
    clear hcl
    by_cases hlt : k < m
    case neg =>
      obtain rfl : k = m := by omega
      have kd0 : wr.cell? ⟨W3.heap.size, 0, none⟩ = some (.slice Ac l.length cc) := HD.out.cell 0 (by simp)
      have kd1 : wr.cell? ⟨W3.heap.size, 1, none⟩ = some vc := HD.out.cell 1 (by simp)
      have kbxx0_0 : wr.cell? ⟨w.heap.size + 1, 0, none⟩ = some (.slice none 0 0) := (HF6.out.boxN bxx0_5 (by omega)).cell 0 (by simp)
      have kbxx0_1 : wr.cell? ⟨w.heap.size + 1, 1, none⟩ = some (.slice none 0 0) := (HF6.out.boxN bxx0_5 (by omega)).cell 1 (by simp)
      have krf := (HF6.out.boxN bxx0_5 (by omega)).frozen 0
      have krf1 := (HF6.out.boxN bxx0_5 (by omega)).frozen 1
      have hbE := (HF6.out.below_of hbA5 (by omega) (by omega))
      obtain ⟨Av, cv, rfl, hcv, hdv⟩ := HO.out.ints.dims
      have HSR := Lib.hid (IntS.turned C5.out HF6.out (by omega) (by omega))
      go_wp2_with fail
      ((try simp only [Exit.inBlock, Exit.then]); refine bodyPost_ret (results_cell2 rfl _ _ _ rfl (load_dec (((HF6.out.boxN bxx0_5 (by omega)).set 0 (.slice Ac l.length cc)).set 1 (.slice Av cs.length cv)))) rfl ?_)
      refine ⟨_, ret_vb HOK.out.symm, ?_, (hbE.setCell (p := ⟨w.heap.size + 1, 0, none⟩) (by simp) _).setCell (p := ⟨w.heap.size + 1, 1, none⟩) (by simp) _⟩
      rw [ccYes HOK.out, HM.out, ← HC0.out]
      refine DecX.mk (m := W5.heap.size) (by omega) (by simp; omega) ?_ ?_
      · exact (IntS.far HSR.out (grownBy_trans (grown_set _ ⟨w.heap.size + 1, 0, none⟩ _) (grown_set _ ⟨w.heap.size + 1, 1, none⟩ _)) (by omega) (fun g e => by injection e with e; have e : w.heap.size + 1 = g := e; omega)).mono (by omega) (by omega)
      · exact (IntS.far HO.out.ints (grownBy_trans (grown_set _ ⟨w.heap.size + 1, 0, none⟩ _) (grown_set _ ⟨w.heap.size + 1, 1, none⟩ _)) (by omega) (fun g e => by injection e with e; have e : w.heap.size + 1 = g := e; omega)).mono (by omega) (by simp)
    have hkA : k < (adOut N l).length := by rw [HM.out]; exact hlt
    obtain ⟨ba, oa, ua, rfl, hba0, hba, za, hua⟩ := SS.opened HAS.out hkA
    replace za := (HF6.out.cell (by omega) (by omega)).trans za
    obtain ⟨Aa, ca, rfl, hca, hda⟩ := hua.dims
    have Ua := Lib.hid hua; clear hua
    have h40 := adRow_len hkA
    have HAT := Lib.hid (fun q (hq : q < (nthL (adOut N l) k).length) => adOut_at HOK.out hkA hq)
    have HNX := Lib.hid (show ccN (adOut N l) (k + 1) = cs ++ [((lf (ccUse (nthL (adOut N l) k) cs k (nthL (adOut N l) k).length) : Nat) : Int)] by rw [HC0.out]; rfl)
    obtain ⟨row, HRW⟩ : ∃ row, Hid (nthL (adOut N l) k = row) := ⟨_, Lib.hid rfl⟩
    have HU := Lib.hid (IntS.turned Ua.out HF6.out (by omega) (by omega))
    clear Ua
    rw [HRW.out] at h40 HAT HNX HU hca za
    have hki : (k : Int) < m := by omega
    obtain ⟨wo, rfl⟩ : ∃ wo : World, wo = wr := ⟨_, rfl⟩
    go_wp2_with fail
    go_loopw [36, 9] (fun i ov wr => ∃ (q : Nat) (us : List Int), q ≤ row.length ∧ i = .int .i64 q ∧ Hid (OwnI wr wo.heap.size 3 ov us) ∧ Hid (us = ccUse row cs k q) ∧ us.length ≤ q ∧ wo.heap.size ≤ wr.heap.size ∧ Hid (Below wo.heap.size wo wr)) (fun i ov _ => row.length - (intOf i).toNat)
    case atStart => exact ⟨0, [], Nat.zero_le _, rfl, Lib.hid (OwnI.nil _ _ _), Lib.hid rfl, Nat.le_refl _, Nat.le_refl _, Lib.hid (Below.refl _ _)⟩
    case round =>
      obtain ⟨q, us, hq, rfl, HZ, HUS, hul, hz9, HB9⟩ := hrel
      have hg9 := grown_below HB9.out
      have HD9 := Lib.hid (HD.out.still hg9)
      have HO9 := Lib.hid (OwnI.still HO.out hg9)
      have HU9 := Lib.hid (IntS.still HU.out hg9 (by omega))
      by_cases hql : q < row.length
      case pos =>
        have hqi : (q : Int) < row.length := by omega
        obtain ⟨d, hd1, hd2⟩ := HAT.out q hql
        obtain ⟨br, orr, rfl, _, _, x1, _⟩ := HU9.out.opened hql
        rw [hd1] at x1
        by_cases hdk : d < k
        case neg =>
          have hdi : decide ((d : Int) < k) = false := decide_eq_false (by omega)
          have HNN := Lib.hid (ccUse_no (cs := cs) (k := k) hql (by rw [hd1]; omega))
          clear hd1
          go_wp2_with fail
          go_roundw
          case rel => exact ⟨q + 1, us, by omega, by go_num, HZ, Lib.hid (by rw [HNN.out]; exact HUS.out), by omega, hz9, HB9⟩
          case measure => simp [intOf]; omega
        have hdi : decide ((d : Int) < k) = true := decide_eq_true (by omega)
        have HNN := Lib.hid (ccUse_yes (cs := cs) (k := k) hql (by rw [hd1]; omega))
        rw [hd1, Int.toNat_natCast] at HNN
        clear hd1
        obtain ⟨y, HY⟩ : ∃ y, Hid (nth cs d = y) := ⟨_, Lib.hid rfl⟩
        rw [HY.out] at HNN
        obtain ⟨Av, cv, rfl, hcv, hdv⟩ := HO9.out.ints.dims
        obtain ⟨bv, ovv, rfl, _, _, y1, _⟩ := HO9.out.ints.opened (j := d) (by omega)
        rw [HY.out] at y1
        have kd1 : wr.cell? ⟨W3.heap.size, 1, none⟩ = some (.slice (some ⟨bv, ovv, none⟩) cs.length cv) := HD9.out.cell 1 (by simp)
        have hdl : (d : Int) < cs.length := by omega
        have hlv := HZ.out.lt
        go_wp2_with (at_builtin; refine append_int (s := .tmp 43) Try.underlying23 Try.info3 (by decide) wr rfl _ rfl HZ.out y _ rfl (by simp [Act.eval, go_sem]) (by omega) (by omega) ?_; intro v' w' ho' hg' hat')
        go_roundw
        case rel =>
          have hgs := hg'.size
          exact ⟨q + 1, _, by omega, by go_num, Lib.hid ho', Lib.hid (by rw [HNN.out, HUS.out]), by simp; omega, by omega, Lib.hid (HB9.out.grown hg' hz9 fun g hg => by have := hlv g hg; omega)⟩
        case measure => simp [intOf]; omega
      obtain rfl : q = row.length := by omega
      obtain ⟨Az, cz, rfl, hcz, hdz⟩ := HZ.out.ints.dims
      have hlf := lf_le us
      rw [← HUS.out] at HNX
      obtain ⟨c, HC⟩ : ∃ c : Nat, Hid (Go.Proofs.Ytkobodoboeoaiaa.lf us = c) := ⟨_, Lib.hid rfl⟩
      rw [HC.out] at HNX hlf
      have HF9 := Lib.hid (HF6.out.still hg9)
      obtain ⟨i1, hi1', hz1⟩ := Option.map_eq_some_iff.1 Try.info3
      simp only [Prod.mk.injEq] at hz1
      obtain ⟨hz1a, hz1b, hz1c⟩ := hz1
      have HI1 := Lib.hid hz1a; have HI2 := Lib.hid hz1b; have HI3 := Lib.hid hz1c; have HII := Lib.hid hi1'
      clear hz1a hz1b hz1c hi1' HU9 HB9 hg9
      obtain ⟨wq, rfl⟩ : ∃ wq : World, wq = wr := ⟨_, rfl⟩
      have hA9 : W5.heap.size ≤ wq.heap.size := by omega
      have hlc : (cs.map (Value.int .i64)).length ≤ 40 := by rw [List.length_map]; omega
      go_wp2_with fail
      refine wp_region_U (fun w' => w'.cell? ⟨W3.heap.size, 0, none⟩ = some (.slice Ac l.length cc) ∧ w'.cell? ⟨W3.heap.size, 1, none⟩ = some (vc)) [7] (by kernel_rfl) ?_
      refine nameU ?_
      intro W7 HW7
      have hg7 : wq.grownBy W7 none := by rw [HW7.out]; exact grown_drew _
      clear HW7
      have hs7 := hg7.size
      have HF7 := Lib.hid (HF9.out.still hg7); clear HF9
      have DB7 := Lib.hid (BoxN.still HD9.out hg7); clear HD9
      have O7 := Lib.hid (OwnI.still HO9.out hg7); clear HO9
      have Z7 := Lib.hid (OwnI.still HZ.out hg7); clear HZ
      have hS8 : W7.cell? ⟨W3.heap.size, 0, none⟩ = some (.slice Ac l.length cc) ∧ W7.cell? ⟨W3.heap.size, 1, none⟩ = some (vc) := ⟨DB7.out.cell 0 (by simp), DB7.out.cell 1 (by simp)⟩
      refine anyU_take (i := 0) (v := .pointer (some ⟨W3.heap.size, 1, none⟩)) rfl (by kernel_rfl) (by kernel_rfl) (by kernel_rfl) (fun _ _ _ h => h) ⟨by rfl, fun w' hS' => (by obtain ⟨s1, s2⟩ := hS'; go_simp)⟩ hS8 ?_
      simp only [List.getElem_toArray, List.getElem_cons_zero, Act.put, List.setIfInBounds_toArray, List.set_cons_zero, List.set_cons_succ]
      refine anyU_take (i := 1) (v := vc) rfl (by kernel_rfl) (by kernel_rfl) (by kernel_rfl) (fun _ _ _ h => h) ⟨by rfl, fun w' hS' => (by obtain ⟨s1, s2⟩ := hS'; go_simp)⟩ hS8 ?_
      simp only [List.getElem_toArray, List.getElem_cons_succ, List.getElem_cons_zero, Act.put, List.setIfInBounds_toArray, List.set_cons_zero, List.set_cons_succ]
      refine anyU_take (i := 2) (v := .slice Az us.length cz) rfl (by kernel_rfl) (by kernel_rfl) (by kernel_rfl) (fun _ _ _ h => h) ⟨by rfl, fun w' hS' => (by obtain ⟨s1, s2⟩ := hS'; go_simp)⟩ hS8 ?_
      simp only [List.getElem_toArray, List.getElem_cons_succ, List.getElem_cons_zero, Act.put, List.setIfInBounds_toArray, List.set_cons_zero, List.set_cons_succ]
      refine anyU_ready (rs := [3]) (by kernel_rfl) (by simp) ?_
      refine ReadyU.cons (i := 3) rfl (fun K hK => ?_) ReadyU.nil
      simp only [List.getElem_toArray, List.getElem_cons_succ, List.getElem_cons_zero]
      refine ite_is (by rfl) ?_
      simp [go_sem]
      refine (clLeast_any _ us _ _ _ Z7.out.ints (Nat.le_refl _) (by omega)).mono ?_
      rintro e w' ⟨rfl, rfl⟩
      rw [HC.out]
      refine hK.out _ _ ⟨fun _ => hS8, ?_⟩
      clear hK K
      try simp only [List.getElem_toArray, List.getElem_cons_succ, List.getElem_cons_zero, Act.put, List.setIfInBounds_toArray, List.set_cons_zero, List.set_cons_succ]
      refine anyU_ready (rs := [4]) (by kernel_rfl) (by simp) ?_
      refine ReadyU.cons (i := 4) rfl (fun K hK => ?_) ReadyU.nil
      simp only [List.getElem_toArray, List.getElem_cons_succ, List.getElem_cons_zero]
      refine ite_is (by rfl) ?_
      simp [go_sem]
      refine hK.out _ _ ⟨fun _ => ⟨(DB7.out.still (grown_alloc _ _)).cell 0 (by simp), (DB7.out.still (grown_alloc _ _)).cell 1 (by simp)⟩, ?_⟩
      clear hK K
      try simp only [List.getElem_toArray, List.getElem_cons_succ, List.getElem_cons_zero, Act.put, List.setIfInBounds_toArray, List.set_cons_zero, List.set_cons_succ]
      refine nameU ?_
      intro W9 HW9
      have hg9 : W7.grownBy W9 none := by rw [HW9.out]; exact grown_alloc _ _
      have BV9 := Lib.hid (show BoxN W9 W7.heap.size #[.int .i64 c] 3 by rw [HW9.out]; exact BoxN.new _ _ _)
      have hz9 : W7.heap.size < W9.heap.size := BV9.out.lt
      clear HW9
      have hs9 := hg9.size
      have HF9 := Lib.hid (HF7.out.still hg9); clear HF7
      have DB9 := Lib.hid (BoxN.still DB7.out hg9); clear DB7
      have O9 := Lib.hid (OwnI.still O7.out hg9); clear O7
      have Z9 := Lib.hid (OwnI.still Z7.out hg9); clear Z7
      have hS10 : W9.cell? ⟨W3.heap.size, 0, none⟩ = some (.slice Ac l.length cc) ∧ W9.cell? ⟨W3.heap.size, 1, none⟩ = some (vc) := ⟨DB9.out.cell 0 (by simp), DB9.out.cell 1 (by simp)⟩
      clear hS8
      have LOX := Lib.hid O9.out.lt
      refine anyU_ready (rs := [5]) (by kernel_rfl) (by simp) ?_
      refine ReadyU.cons (i := 5) rfl (fun K hK => ?_) ReadyU.nil
      refine step_append_lies W9 (by rfl) _ _ _ (by rfl) W5.heap.size 3 i1 _ 1 _ Try.underlying23 HII.out HI1.out HI2.out HI3.out rfl (by omega) vc _ (cs.map (Value.int .i64)) (by rfl) O9.out ⟨W7.heap.size, 0, none⟩ 1 1 [.int .i64 c] (by rfl) (by rfl) (World.news_of_block BV9.out) (by simp [Value.oneCell']) (by omega) (by unfold maxLen; omega) (by omega) (by omega) _ rfl ?_
      intro gp cp W11 hown hg11 hatp hltp
      simp only [List.length_map] at hown ⊢
      have hs11 := hg11.size
      have HF11 := Lib.hid (HF9.out.grown hg11 (fun g e => by have := LOX.out g e; omega)); clear HF9
      have DB11 := Lib.hid (BoxN.far DB9.out hg11 (fun g e => by have := LOX.out g e; omega)); clear DB9
      have HOO11 := Lib.hid (own_app1 hown)
      clear hown LOX
      have hS12 : W11.cell? ⟨W3.heap.size, 0, none⟩ = some (.slice Ac l.length cc) ∧ W11.cell? ⟨W3.heap.size, 1, none⟩ = some (vc) := ⟨DB11.out.cell 0 (by simp), DB11.out.cell 1 (by simp)⟩
      refine hK.out _ _ ⟨fun _ => hS12, ?_⟩
      clear hK K hS10
      try simp only [List.getElem_toArray, List.getElem_cons_succ, List.getElem_cons_zero, Act.put, List.setIfInBounds_toArray, List.set_cons_zero, List.set_cons_succ]
      refine anyU_ready (rs := [6]) (by kernel_rfl) (by simp) ?_
      refine ReadyU.cons (i := 6) rfl (fun K hK => ?_) ReadyU.nil
      simp only [List.getElem_toArray, List.getElem_cons_succ, List.getElem_cons_zero]
      refine ite_is (by rfl) ?_
      simp [go_sem]
      refine hK.out _ _ ⟨fun _ => hS12, ?_⟩
      clear hK K
      try simp only [List.getElem_toArray, List.getElem_cons_succ, List.getElem_cons_zero, Act.put, List.setIfInBounds_toArray, List.set_cons_zero, List.set_cons_succ]
      have kd1 : W11.cell? ⟨W3.heap.size, 1, none⟩ = some vc := DB11.out.cell 1 (by simp)
      have kdf := DB11.out.frozen 1
      refine anyU_ready (rs := [7]) (by kernel_rfl) (by simp) ?_
      refine ReadyU.cons (i := 7) rfl (fun K hK => ?_) ReadyU.nil
      simp only [List.getElem_toArray, List.getElem_cons_succ, List.getElem_cons_zero]
      refine ite_is (by rfl) ?_
      simp [go_sem, kd1, kdf]
      refine hK.out _ _ ⟨fun h => absurd h (by decide), ?_⟩
      clear hK K
      try simp only [List.getElem_toArray, List.getElem_cons_succ, List.getElem_cons_zero, Act.put, List.setIfInBounds_toArray, List.set_cons_zero, List.set_cons_succ]
      refine nameU ?_
      intro W13 HW13
      have hg13 : W11.grownBy W13 (some W3.heap.size) := by rw [HW13.out]; exact grown_set _ _ _
      have hs13 := hg13.size
      have HF13 := Lib.hid (HF11.out.grown hg13 (fun g e => by cases e; omega)); clear HF11
      have O13 := Lib.hid (OwnI.far HOO11.out hg13 (fun g e => .inl (by cases e; omega))); clear HOO11
      have HDN := Lib.hid (show BoxN W13 W3.heap.size #[.slice Ac l.length cc, .slice (some ⟨gp, 0, none⟩) (cs.length + 1) cp] 43 by rw [HW13.out]; exact DB11.out.set 1 _)
      clear HW13 kd1 kdf
      clear hS12
      refine anyU_done (by kernel_rfl) ?_ _
      go_wp2_with fail
      go_roundw
      case rel => exact ⟨k + 1, _, _, by omega, by go_num, HDN, O13, Lib.hid HNX.out.symm, HF13⟩
      case measure => simp [intOf]; omega

end Go.Proofs.Ytkobodoboeoaiaa
