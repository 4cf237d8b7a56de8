/-
  Plain: the walk's distances are the lengths of shortest ways; in a good network they do not hang on the direction.
-/
import Derived.Test.YtcmmklcampmkjaaDistP
namespace Go.Proofs.Ytcmmklcampmkjaa
set_option linter.unusedVariables false

/-- an edge leads from u to s -/
def Adj (N : NetD) (u s : Nat) : Prop := u < N.ends.length ∧ s < N.ends.length ∧ ∃ i, i < (nthL N.ends u).length ∧ (nthE (nthL N.ends u) i).1 = s
def way (N : NetD) : Nat → Nat → Nat → Prop
  | 0, u, t => u = t
  | k + 1, u, t => ∃ s, way N k u s ∧ Adj N s t
theorem Adj.symm {N : NetD} (hg : N.good = true) {u s : Nat} (h : Adj N u s) : Adj N s u := by
  obtain ⟨h1, h2, i, hi, he⟩ := h
  obtain ⟨t, r, e, e1, e2, e3⟩ := good_end hg h1 hi
  rw [e] at he
  obtain rfl : t = s := by have he' : (t : Int) = s := he
                           omega
  exact ⟨h2, h1, r, e2, by rw [e3]⟩
theorem way_step {N : NetD} : ∀ {k u s t : Nat}, Adj N u s → way N k s t → way N (k + 1) u t
  | 0, u, s, t, h, e => ⟨u, rfl, by rw [← (show s = t from e)]; exact h⟩
  | k + 1, u, s, t, h, ⟨r, h1, h2⟩ => ⟨r, way_step h h1, h2⟩
theorem way_symm {N : NetD} (hg : N.good = true) : ∀ {k u t : Nat}, way N k u t → way N k t u
  | 0, u, t, e => Eq.symm e
  | k + 1, u, t, ⟨s, h1, h2⟩ => way_step (h2.symm hg) (way_symm hg h1)

/-- how the found nodes lie: by distance, and each behind one that was found before -/
structure BC (N : NetD) (v : Nat) (st : BSt) : Prop where
  sorted : ∀ i j, i ≤ j → j < st.2.length → nth st.1 (nth st.2 i).toNat ≤ nth st.1 (nth st.2 j).toNat
  found : ∀ j, j < N.ends.length → 0 ≤ nth st.1 j → way N (nth st.1 j).toNat v j
  inw : ∀ j, j < N.ends.length → 0 ≤ nth st.1 j → ∃ i, i < st.2.length ∧ nth st.2 i = j
/-- nodes before place a have found their neighbours -/
def BDone (N : NetD) (a : Nat) (st : BSt) : Prop := ∀ i, i < a → ∀ t, Adj N (nth st.2 i).toNat t → 0 ≤ nth st.1 t ∧ nth st.1 t ≤ nth st.1 (nth st.2 i).toNat + 1

theorem BC.start {N : NetD} {v : Nat} (hv : v < N.ends.length) : BC N v (bfs0 N v) := by
  have hz : nth (bfs0 N v).1 v = 0 := by simp only [bfs0]; rw [nth_set _ _ _ _ (by simpa using hv), if_pos rfl]
  have ho : ∀ j, j < N.ends.length → 0 ≤ nth (bfs0 N v).1 j → j = v := fun j hj h => by
    simp only [bfs0] at h
    rw [nth_set _ _ _ _ (by simpa using hv)] at h
    by_cases e : j = v
    · exact e
    · rw [if_neg e, nth_replicate _ _ hj] at h; omega
  refine ⟨fun i j hij hj => ?_, fun j hj h => ?_, fun j hj h => ?_⟩
  · have : j = 0 := by simp [bfs0] at hj; exact hj
    obtain rfl : i = 0 := by omega
    subst this; exact Int.le_refl _
  · obtain rfl := ho j hj h
    rw [hz]; rfl
  · obtain rfl := ho j hj h
    exact ⟨0, by simp [bfs0], rfl⟩

/-- what is known in the middle: the states between, and that no found node lies farther than one step behind -/
structure BCMid (N : NetD) (v a : Nat) (st : BSt) (u : Nat) (d : Int) (k : Nat) (sk : BSt) : Prop where
  mid : BMid N a st u d k sk
  bc : BC N v sk
  far : ∀ j, j < sk.2.length → nth sk.1 (nth sk.2 j).toNat ≤ d + 1
  done : BDone N a sk
  seen : ∀ i, i < k → ∀ t : Nat, (nthE (nthL N.ends u) i).1 = t → 0 ≤ nth sk.1 t ∧ nth sk.1 t ≤ d + 1
theorem BCMid.next {N : NetD} {v a : Nat} {st : BSt} {u : Nat} {d : Int} {k : Nat} {sk : BSt} (h : BCMid N v a st u d k sk) (hu : u < N.ends.length) (hk : k < (nthL N.ends u).length) {t : Nat} (ht : (nthE (nthL N.ends u) k).1 = t) (htl : t < N.ends.length) :
    BCMid N v a st u d (k + 1) (see (d + 1) sk t) := by
  have hm := h.mid.next hk ht htl
  have hle : sk.1.length = N.ends.length := h.mid.inv.len
  have hadj : Adj N u t := ⟨hu, htl, k, hk, ht⟩
  by_cases hn : nth sk.1 t < 0
  · rw [see_neg hn] at hm ⊢
    have hs : ∀ j, nth (sk.1.set t (d + 1)) j = if j = t then d + 1 else nth sk.1 j := fun j => nth_set _ _ _ _ (by omega)
    have hold : ∀ i, i < sk.2.length → nth (sk.2 ++ [(t : Int)]) i = nth sk.2 i ∧ nth (sk.1.set t (d + 1)) (nth sk.2 i).toNat = nth sk.1 (nth sk.2 i).toNat := fun i hi => by
      obtain ⟨x, e1, e2, e3, e4⟩ := h.mid.inv.node i hi
      refine ⟨nth_append_left hi, ?_⟩
      rw [e1, Int.toNat_natCast, hs, if_neg (by rintro rfl; omega)]
    refine ⟨hm, ⟨fun i j hij hj => ?_, fun j hj h0 => ?_, fun j hj h0 => ?_⟩, fun j hj => ?_, fun i hi s hadj2 => ?_, fun i hi s hs2 => ?_⟩
    · simp only [List.length_append, List.length_singleton] at hj
      dsimp only
      by_cases e2 : j < sk.2.length
      · rw [(hold i (by omega)).1, (hold i (by omega)).2, (hold j e2).1, (hold j e2).2]
        exact h.bc.sorted i j hij e2
      · obtain rfl : j = sk.2.length := by omega
        rw [nth_append_at, Int.toNat_natCast, hs t, if_pos rfl]
        by_cases e1 : i < sk.2.length
        · rw [(hold i e1).1, (hold i e1).2]; exact h.far i e1
        · obtain rfl : i = sk.2.length := by omega
          rw [nth_append_at, Int.toNat_natCast, hs t, if_pos rfl]; exact Int.le_refl _
    · dsimp only at h0 ⊢
      rw [hs] at h0 ⊢
      by_cases e : j = t
      · subst e
        rw [if_pos rfl]
        have hd0 := h.mid.d0
        have hw := h.bc.found u hu (by rw [h.mid.here]; exact hd0)
        rw [h.mid.here] at hw
        rw [show (d + 1).toNat = d.toNat + 1 by omega]
        exact ⟨u, hw, hadj⟩
      · rw [if_neg e] at h0 ⊢; exact h.bc.found j hj h0
    · dsimp only at h0 ⊢
      rw [hs] at h0
      by_cases e : j = t
      · subst e; exact ⟨sk.2.length, by simp, nth_append_at _ _⟩
      · rw [if_neg e] at h0
        obtain ⟨i, hi, e1⟩ := h.bc.inw j hj h0
        exact ⟨i, by simp; omega, by rw [nth_append_left hi]; exact e1⟩
    · simp only [List.length_append, List.length_singleton] at hj
      dsimp only
      by_cases e2 : j < sk.2.length
      · rw [(hold j e2).1, (hold j e2).2]; exact h.far j e2
      · obtain rfl : j = sk.2.length := by omega
        rw [nth_append_at, Int.toNat_natCast, hs, if_pos rfl]; exact Int.le_refl _
    · dsimp only at hadj2 ⊢
      have hil : i < sk.2.length := by have := h.mid.alt; omega
      rw [(hold i hil).1] at hadj2 ⊢
      rw [(hold i hil).2]
      have := h.done i hi s hadj2
      rw [hs, if_neg (by rintro rfl; omega)]
      exact this
    · dsimp only
      by_cases e : i = k
      · subst e
        rw [ht] at hs2
        obtain rfl : t = s := by omega
        rw [hs, if_pos rfl]
        have := h.mid.d0
        omega
      · have := h.seen i (by omega) s hs2
        rw [hs, if_neg (by rintro rfl; omega)]
        exact this
  · rw [see_pos hn] at hm ⊢
    refine ⟨hm, h.bc, h.far, h.done, fun i hi s hs2 => ?_⟩
    by_cases e : i = k
    · subst e
      rw [ht] at hs2
      obtain rfl : t = s := by omega
      obtain ⟨j, hj, e1⟩ := h.bc.inw t htl (by omega)
      have := h.far j hj
      rw [e1, Int.toNat_natCast] at this
      exact ⟨by omega, this⟩
    · exact h.seen i (by omega) s hs2

theorem dist_full {N : NetD} (hN : N.nodes) {v : Nat} (hv : v < N.ends.length) : ∃ st, BInv N.ends.length st ∧ BC N v st ∧ BDone N st.2.length st ∧ dist N v = st.1 := by
  have key : ∀ f a st, f = N.ends.length + 1 - a → BTop N v a st → BC N v st → BDone N a st → (∀ j, a < st.2.length → j < st.2.length → nth st.1 (nth st.2 j).toNat ≤ nth st.1 (nth st.2 a).toNat + 1) → ∃ st, BInv N.ends.length st ∧ BC N v st ∧ BDone N st.2.length st ∧ dist N v = st.1 := by
    intro f
    induction f with
    | zero => intro a st hf h; have := h.inv.le; have := h.le; omega
    | succ f ih =>
      intro a st hf h hc hd hfar
      by_cases ha : a < st.2.length
      · obtain ⟨u, e1, e2, e3, e4⟩ := h.inv.node a ha
        have mid : ∀ k, k ≤ (nthL N.ends u).length → ∃ sk, BCMid N v a st u (nth st.1 u) k sk := by
          intro k
          induction k with
          | zero => intro _; exact ⟨st, BMid.start h.inv ha e1 rfl, hc, fun j hj => by have := hfar j ha hj; rwa [e1, Int.toNat_natCast] at this, hd, fun i hi => absurd hi (by omega)⟩
          | succ k ihk =>
            intro hk
            obtain ⟨sk, hsk⟩ := ihk (by omega)
            obtain ⟨t, ht, htl⟩ := hN u e2 k (by omega)
            exact ⟨_, hsk.next e2 (by omega) ht htl⟩
        obtain ⟨sk, hsk⟩ := mid _ (Nat.le_refl _)
        have hat : nth sk.2 a = u := hsk.mid.at_
        refine ih (a + 1) sk (by omega) (h.next ha hsk.mid e1 rfl) hsk.bc (fun i hi t hadj => ?_) (fun j ha1 hj => ?_)
        · by_cases e : i = a
          · subst e
            rw [hat, Int.toNat_natCast] at hadj ⊢
            obtain ⟨_, _, p, hp, he⟩ := hadj
            rw [hsk.mid.here]
            exact hsk.seen p hp t he
          · exact hsk.done i (by omega) t hadj
        · have := hsk.far j hj
          have h2 := hsk.bc.sorted a (a + 1) (by omega) ha1
          rw [hat, Int.toNat_natCast, hsk.mid.here] at h2
          omega
      · have := h.le
        obtain rfl : a = st.2.length := by omega
        exact ⟨st, h.inv, hc, hd, h.stop⟩
  refine key _ 0 _ rfl (BTop.start hv) (BC.start hv) (fun i hi => absurd hi (by omega)) (fun j h0 hj => ?_)
  have : j = 0 := by simp [bfs0] at hj; exact hj
  subst this
  omega
theorem dist_way {N : NetD} (hN : N.nodes) {v : Nat} (hv : v < N.ends.length) {t : Nat} (ht : t < N.ends.length) (h0 : 0 ≤ nth (dist N v) t) : way N (nth (dist N v) t).toNat v t := by
  obtain ⟨st, h1, h2, h3, e⟩ := dist_full hN hv
  rw [e] at h0 ⊢
  exact h2.found t ht h0
theorem dist_self {N : NetD} (hN : N.nodes) {v : Nat} (hv : v < N.ends.length) : nth (dist N v) v = 0 := by
  have key : ∀ f a st, f = N.ends.length + 1 - a → BTop N v a st → nth st.1 v = 0 → nth (dist N v) v = 0 := by
    intro f
    induction f with
    | zero => intro a st hf h; have := h.inv.le; have := h.le; omega
    | succ f ih =>
      intro a st hf h hz
      by_cases ha : a < st.2.length
      · obtain ⟨u, e1, e2, e3, e4⟩ := h.inv.node a ha
        have mid : ∀ k, k ≤ (nthL N.ends u).length → ∃ sk, BMid N a st u (nth st.1 u) k sk := by
          intro k
          induction k with
          | zero => intro _; exact ⟨st, BMid.start h.inv ha e1 rfl⟩
          | succ k ihk =>
            intro hk
            obtain ⟨sk, hsk⟩ := ihk (by omega)
            obtain ⟨t, ht, htl⟩ := hN u e2 k (by omega)
            exact ⟨_, hsk.next (by omega) ht htl⟩
        obtain ⟨sk, hsk⟩ := mid _ (Nat.le_refl _)
        exact ih (a + 1) sk (by omega) (h.next ha hsk e1 rfl) (by rw [hsk.kept.out v (by omega)]; exact hz)
      · have := h.le
        obtain rfl : a = st.2.length := by omega
        rw [h.stop]; exact hz
  refine key _ 0 _ rfl (BTop.start hv) ?_
  simp only [bfs0]; rw [nth_set _ _ _ _ (by simpa using hv), if_pos rfl]
theorem dist_le {N : NetD} (hN : N.nodes) {v : Nat} (hv : v < N.ends.length) : ∀ {k t : Nat}, way N k v t → 0 ≤ nth (dist N v) t ∧ nth (dist N v) t ≤ k
  | 0, t, e => by rw [← (show v = t from e), dist_self hN hv]; omega
  | k + 1, t, ⟨s, h1, h2⟩ => by
    have hi := dist_le hN hv h1
    obtain ⟨st, a1, a2, a3, e⟩ := dist_full hN hv
    rw [e] at hi ⊢
    obtain ⟨i, hil, e1⟩ := a2.inw s h2.1 hi.1
    have := a3 i hil t (by rw [e1, Int.toNat_natCast]; exact h2)
    rw [e1, Int.toNat_natCast] at this
    omega
theorem dist_symm {N : NetD} (hg : N.good = true) {u v : Nat} (hu : u < N.ends.length) (hv : v < N.ends.length) : nth (dist N u) v = nth (dist N v) u := by
  have hN := good_nodes hg
  have h1 := dist_low hN hu hv
  have h2 := dist_low hN hv hu
  by_cases e1 : 0 ≤ nth (dist N u) v
  · have := dist_le hN hv (way_symm hg (dist_way hN hu hv e1))
    have := dist_le hN hu (way_symm hg (dist_way hN hv hu (by omega)))
    omega
  · by_cases e2 : 0 ≤ nth (dist N v) u
    · have := dist_le hN hu (way_symm hg (dist_way hN hv hu e2))
      omega
    · omega

end Go.Proofs.Ytcmmklcampmkjaa
