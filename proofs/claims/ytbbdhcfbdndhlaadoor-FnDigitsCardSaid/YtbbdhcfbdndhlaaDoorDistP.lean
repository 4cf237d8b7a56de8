/-
  Plain: distances by a walk over the nodes in the order in which they are found.
-/
import Derived.Test.YtbbdhcfbdndhlaaDoorTreeP
import Derived.Test.YtbbdhcfbdndhlaaDoorQueue
namespace Go.Proofs.YtbbdhcfbdndhlaaDoor
set_option linter.unusedVariables false

/-- the nodes at the other sides of a node's ports -/
def nbs (N : NetD) (u : Nat) : List Int := (nthL N.ends u).map Prod.fst
theorem nbs_length (N : NetD) (u : Nat) : (nbs N u).length = (nthL N.ends u).length := by simp [nbs]
theorem nth_nbs (N : NetD) (u : Nat) {i : Nat} (h : i < (nthL N.ends u).length) : nth (nbs N u) i = (nthE (nthL N.ends u) i).1 := by
  rw [nth_eq (by rw [nbs_length]; exact h)]
  simp [nbs, nthE, h]
/-- all ends lead to nodes -/
def NetD.nodes (N : NetD) : Prop := ∀ v, v < N.ends.length → ∀ i, i < (nthL N.ends v).length → ∃ t : Nat, (nthE (nthL N.ends v) i).1 = t ∧ t < N.ends.length
theorem good_nodes {N : NetD} (h : N.good = true) : N.nodes := fun v hv i hi => by
  obtain ⟨t, r, e, h1, _⟩ := good_end h hv hi
  exact ⟨t, by rw [e], h1⟩

abbrev BSt := List Int × List Int
def see (d : Int) (st : BSt) (w : Int) : BSt := if nth st.1 w.toNat < 0 then (st.1.set w.toNat d, st.2 ++ [w]) else st
def seeAll (d : Int) (st : BSt) (ws : List Int) : BSt := ws.foldl (see d) st
theorem seeAll_succ (d : Int) (st : BSt) (ws : List Int) {k : Nat} (hk : k < ws.length) : seeAll d st (ws.take (k + 1)) = see d (seeAll d st (ws.take k)) (nth ws k) := by
  unfold seeAll
  rw [List.take_succ_eq_append_getElem hk, List.foldl_append, nth_eq hk]
  rfl
def bstep (N : NetD) (a : Nat) (st : BSt) : BSt := seeAll (nth st.1 (nth st.2 a).toNat + 1) st (nbs N (nth st.2 a).toNat)
def bfs (N : NetD) : Nat → Nat → BSt → BSt
  | 0, _, st => st
  | f + 1, a, st => if a < st.2.length then bfs N f (a + 1) (bstep N a st) else st
def bfs0 (N : NetD) (v : Nat) : BSt := ((List.replicate N.ends.length (-1)).set v 0, [(v : Int)])
def dist (N : NetD) (v : Nat) : List Int := (bfs N (N.ends.length + 1) 0 (bfs0 N v)).1

structure BInv (n : Nat) (st : BSt) : Prop where
  len : st.1.length = n
  count : st.2.length + st.1.countP (fun x => decide (x < 0)) = n
  node : ∀ i, i < st.2.length → ∃ t : Nat, nth st.2 i = t ∧ t < n ∧ 0 ≤ nth st.1 t ∧ nth st.1 t ≤ i
  low : ∀ j, j < n → -1 ≤ nth st.1 j ∧ nth st.1 j ≤ n
theorem BInv.le {n : Nat} {st : BSt} (h : BInv n st) : st.2.length ≤ n := by have := h.count; omega
theorem BInv.start {N : NetD} {v : Nat} (hv : v < N.ends.length) : BInv N.ends.length (bfs0 N v) := by
  have hl : (List.replicate N.ends.length (-1 : Int)).length = N.ends.length := by simp
  refine ⟨by simp [bfs0], ?_, fun i hi => ?_, fun j hj => ?_⟩
  · have hp : 0 < (List.replicate N.ends.length (-1 : Int)).countP (fun x => decide (x < 0)) := by rw [List.countP_replicate]; simp; omega
    show 1 + List.countP _ ((List.replicate N.ends.length (-1)).set v 0) = _
    rw [List.countP_set (by simpa using hv)]
    simp [List.countP_replicate]
    omega
  · obtain rfl : i = 0 := by simp [bfs0] at hi; exact hi
    refine ⟨v, rfl, hv, ?_⟩
    simp only [bfs0]
    rw [nth_set _ _ _ _ (by simpa using hv), if_pos rfl]
    simp
  · simp only [bfs0]
    rw [nth_set _ _ _ _ (by simpa using hv)]
    by_cases e : j = v
    · rw [if_pos e]; omega
    · rw [if_neg e, nth_replicate _ _ hj]; omega
theorem see_neg {d : Int} {st : BSt} {t : Nat} (h : nth st.1 t < 0) : see d st t = (st.1.set t d, st.2 ++ [(t : Int)]) := by unfold see; rw [Int.toNat_natCast, if_pos h]
theorem see_pos {d : Int} {st : BSt} {t : Nat} (h : ¬ nth st.1 t < 0) : see d st t = st := by unfold see; rw [Int.toNat_natCast, if_neg h]
theorem BInv.see {n : Nat} {st : BSt} (h : BInv n st) {t : Nat} (ht : t < n) {d : Int} (h0 : 0 ≤ d) (hd : d ≤ st.2.length) : BInv n (see d st t) := by
  by_cases hn : nth st.1 t < 0
  · rw [see_neg hn]
    have htl : t < st.1.length := by rw [h.len]; exact ht
    have hc : (st.1.set t d).countP (fun x => decide (x < 0)) = st.1.countP (fun x => decide (x < 0)) - 1 := by
      rw [List.countP_set htl]
      have : decide (st.1[t] < 0) = true := by rw [← nth_eq htl]; simpa using hn
      rw [this]
      simp
      omega
    have hp : 0 < st.1.countP (fun x => decide (x < 0)) := by
      rw [List.countP_pos_iff]
      exact ⟨_, nth_mem htl, by simpa using hn⟩
    have hc2 := h.count
    refine ⟨by simp [h.len], ?_, fun i hi => ?_, fun j hj => ?_⟩
    · simp only [List.length_append, List.length_singleton]; omega
    · simp only [List.length_append, List.length_singleton] at hi
      by_cases e : i < st.2.length
      · obtain ⟨u, e1, e2, e3, e4⟩ := h.node i e
        have hut : u ≠ t := by rintro rfl; omega
        exact ⟨u, by rw [nth_append_left e]; exact e1, e2, by dsimp only; rw [nth_set _ _ _ _ htl, if_neg hut]; exact e3, by dsimp only; rw [nth_set _ _ _ _ htl, if_neg hut]; exact e4⟩
      · obtain rfl : i = st.2.length := by omega
        exact ⟨t, nth_append_at _ _, ht, by dsimp only; rw [nth_set _ _ _ _ htl, if_pos rfl]; exact h0, by dsimp only; rw [nth_set _ _ _ _ htl, if_pos rfl]; exact hd⟩
    · dsimp only
      rw [nth_set _ _ _ _ htl]
      by_cases e : j = t
      · rw [if_pos e]; omega
      · rw [if_neg e]; exact h.low j hj
  · rw [see_pos hn]; exact h
/-- what one more node leaves: what was found stays, and so does its distance -/
structure Kept (st st' : BSt) : Prop where
  len : st.2.length ≤ st'.2.length
  walk : ∀ i, i < st.2.length → nth st'.2 i = nth st.2 i
  out : ∀ j, 0 ≤ nth st.1 j → nth st'.1 j = nth st.1 j
theorem Kept.refl (st : BSt) : Kept st st := ⟨Nat.le_refl _, fun _ _ => rfl, fun _ _ => rfl⟩
theorem Kept.see {st st' : BSt} (h : Kept st st') (d : Int) (t : Nat) : Kept st (see d st' t) := by
  by_cases hn : nth st'.1 t < 0
  · rw [see_neg hn]
    refine ⟨by simp; have := h.len; omega, fun i hi => by dsimp only; rw [nth_append_left (by have := h.len; omega)]; exact h.walk i hi, fun j hj => ?_⟩
    dsimp only
    have hjt : j ≠ t := by rintro rfl; rw [h.out j hj] at hn; omega
    by_cases hl : t < st'.1.length
    · rw [nth_set _ _ _ _ hl, if_neg hjt]; exact h.out j hj
    · rw [List.set_eq_of_length_le (by omega)]; exact h.out j hj
  · rw [see_pos hn]; exact h
theorem bfs_go (N : NetD) {f a : Nat} {st : BSt} (h : a < st.2.length) : bfs N (f + 1) a st = bfs N f (a + 1) (bstep N a st) := by rw [bfs, if_pos h]
theorem bfs_end (N : NetD) {f a : Nat} {st : BSt} (h : st.2.length ≤ a) : bfs N f a st = st := by
  cases f with
  | zero => rfl
  | succ f => rw [bfs, if_neg (by omega)]
/-- the states between: k ports of the node at place a have been looked at -/
structure BMid (N : NetD) (a : Nat) (st : BSt) (u : Nat) (d : Int) (k : Nat) (sk : BSt) : Prop where
  eq : sk = seeAll (d + 1) st ((nbs N u).take k)
  inv : BInv N.ends.length sk
  kept : Kept st sk
  here : nth sk.1 u = d
  at_ : nth sk.2 a = u
  d0 : 0 ≤ d
  dle : d ≤ a
  alt : a < sk.2.length
theorem BMid.start {N : NetD} {a : Nat} {st : BSt} {u : Nat} {d : Int} (h : BInv N.ends.length st) (ha : a < st.2.length) (hu : nth st.2 a = u) (hd : nth st.1 u = d) : BMid N a st u d 0 st := by
  obtain ⟨t, e1, e2, e3, e4⟩ := h.node a ha
  obtain rfl : t = u := by omega
  exact ⟨by simp [seeAll], h, Kept.refl _, hd, hu, by omega, by omega, ha⟩
theorem BMid.next {N : NetD} {a : Nat} {st : BSt} {u : Nat} {d : Int} {k : Nat} {sk : BSt} (h : BMid N a st u d k sk) (hk : k < (nthL N.ends u).length) {t : Nat} (ht : (nthE (nthL N.ends u) k).1 = t) (htl : t < N.ends.length) :
    BMid N a st u d (k + 1) (see (d + 1) sk t) := by
  obtain ⟨e1, e2, e3, e4, e5, e6, e7, e8⟩ := h
  have hkk := (Kept.refl sk).see (d + 1) t
  refine ⟨?_, e2.see htl (by omega) (by omega), e3.see _ _, ?_, ?_, e6, e7, Nat.lt_of_lt_of_le e8 hkk.len⟩
  · rw [seeAll_succ _ _ _ (by rw [nbs_length]; exact hk), ← e1, nth_nbs N u hk, ht]
  · rw [hkk.out _ (by omega)]; exact e4
  · rw [hkk.walk _ e8]; exact e5
theorem BMid.done {N : NetD} {a : Nat} {st : BSt} {u : Nat} {d : Int} {sk : BSt} (h : BMid N a st u d (nthL N.ends u).length sk) (hu : nth st.2 a = u) (hd : nth st.1 u = d) : sk = bstep N a st := by
  unfold bstep
  rw [hu, Int.toNat_natCast, hd, h.eq, List.take_of_length_le (by rw [nbs_length]; exact Nat.le_refl _)]
/-- the outer loop: the walk stands at place a -/
structure BTop (N : NetD) (v a : Nat) (st : BSt) : Prop where
  inv : BInv N.ends.length st
  le : a ≤ st.2.length
  eq : dist N v = (bfs N (N.ends.length + 1 - a) a st).1
theorem BTop.start {N : NetD} {v : Nat} (hv : v < N.ends.length) : BTop N v 0 (bfs0 N v) := ⟨BInv.start hv, Nat.zero_le _, rfl⟩
theorem BTop.next {N : NetD} {v a : Nat} {st sk : BSt} {u : Nat} {d : Int} (h : BTop N v a st) (ha : a < st.2.length) (hm : BMid N a st u d (nthL N.ends u).length sk) (hu : nth st.2 a = u) (hd : nth st.1 u = d) : BTop N v (a + 1) sk := by
  have := h.inv.le
  refine ⟨hm.inv, hm.alt, ?_⟩
  rw [h.eq, show N.ends.length + 1 - a = (N.ends.length + 1 - (a + 1)) + 1 by omega, bfs_go N ha, hm.done hu hd]
theorem BTop.stop {N : NetD} {v : Nat} {st : BSt} (h : BTop N v st.2.length st) : dist N v = st.1 := by rw [h.eq, bfs_end N (Nat.le_refl _)]

theorem dist_inv {N : NetD} (hN : N.nodes) {v : Nat} (hv : v < N.ends.length) : ∃ st, BInv N.ends.length st ∧ dist N v = st.1 := by
  have key : ∀ f a st, f = N.ends.length + 1 - a → BTop N v a st → ∃ st, BInv N.ends.length st ∧ dist N v = st.1 := by
    intro f
    induction f with
    | zero => intro a st hf h; have := h.inv.le; have := h.le; omega
    | succ f ih =>
      intro a st hf h
      by_cases ha : a < st.2.length
      · obtain ⟨u, e1, e2, e3, e4⟩ := h.inv.node a ha
        have mid : ∀ k, k ≤ (nthL N.ends u).length → ∃ sk, BMid N a st u (nth st.1 u) k sk := by
          intro k
          induction k with
          | zero => intro _; exact ⟨st, BMid.start h.inv ha e1 rfl⟩
          | succ k ihk =>
            intro hk
            obtain ⟨sk, hsk⟩ := ihk (by omega)
            obtain ⟨t, ht, htl⟩ := hN u e2 k (by omega)
            exact ⟨_, hsk.next (by omega) ht htl⟩
        obtain ⟨sk, hsk⟩ := mid _ (Nat.le_refl _)
        exact ih (a + 1) sk (by omega) (h.next ha hsk e1 rfl)
      · have := h.le
        obtain rfl : a = st.2.length := by omega
        exact ⟨st, h.inv, h.stop⟩
  exact key _ 0 _ rfl (BTop.start hv)
theorem dist_len {N : NetD} (hN : N.nodes) {v : Nat} (hv : v < N.ends.length) : (dist N v).length = N.ends.length := by
  obtain ⟨st, h, e⟩ := dist_inv hN hv; rw [e]; exact h.len
theorem dist_low {N : NetD} (hN : N.nodes) {v : Nat} (hv : v < N.ends.length) {j : Nat} (hj : j < N.ends.length) : -1 ≤ nth (dist N v) j ∧ nth (dist N v) j ≤ N.ends.length := by
  obtain ⟨st, h, e⟩ := dist_inv hN hv; rw [e]; exact h.low j hj

end Go.Proofs.YtbbdhcfbdndhlaaDoor
