/-
  Several texts in one: CoO, DistC, CompP, PartP, RnM, KpP, SimP. No condition on any program.
-/
import Derived.Test.YtmdlginjblnfoaaGreatCzJ
import Derived.Test.YtmdlginjblnfoaaGreatCzD
import Derived.Test.YtmdlginjblnfoaaGreatCzF
import Derived.Test.YtmdlginjblnfoaaGreatCzE

/- Components in order: the numbers that the nodes get, as they are written one by one. No condition on any program. -/
namespace Go.Proofs.YtmdlginjblnfoaaGreat
open Go.ChangeShapes Go.WideShapes Go.ChangeAt Go.RowKit
set_option linter.unusedVariables false

theorem ordTo_numL (l : List CmpD) (n : Nat) : ordTo l n = numL (List.replicate n 0) 0 (l.flatMap CmpD.walk) := zip_numL _ _ _
/-- a component's walk: nodes, and not too many -/
def WOk (N : NetD) (c : CmpD) : Prop := c.walk.length ≤ 40 ∧ ∀ x ∈ c.walk, ∃ t : Nat, x = t ∧ t < N.ends.length
theorem compTo_wok {N : NetD} (hg : N.good = true) {v : Nat} (hv : v < N.ends.length) : ∀ k, k ≤ (nodesOf N v).length → WOk N (compTo N v k)
  | 0, _ => ⟨by simp [compTo, cmp0], by simp [compTo, cmp0]⟩
  | k + 1, h => by
    have ih := compTo_wok hg hv k (by omega)
    obtain ⟨t, et, ht⟩ := nodes_mem hg hv (show k < (nodesOf N v).length by omega)
    have hok := walk_ok (good_nodes hg) ht
    have hlen := hok.len
    have hn := (good_n hg).2
    rw [compTo_succ N v (by omega), et]
    unfold cmpStep
    rw [Int.toNat_natCast]
    split
    · exact ⟨by show (walkN N t).length ≤ 40; omega, hok.node⟩
    · split
      · exact ih
      · exact ih
theorem stC_wok {N : NetD} (hg : N.good = true) : ∀ k, k ≤ N.ends.length → (∀ c ∈ (stC N k).1, WOk N c) ∧ (stC N k).1.length ≤ k
  | 0, _ => ⟨(fun c h => by cases h), Nat.le_refl _⟩
  | k + 1, h => by
    obtain ⟨h1, h2⟩ := stC_wok hg k (by omega)
    simp only [stC]
    split
    · exact ⟨h1, by omega⟩
    · refine ⟨fun c hc => ?_, by simp; omega⟩
      rw [List.mem_append, List.mem_singleton] at hc
      rcases hc with hc | rfl
      · exact h1 c hc
      · exact compTo_wok hg (by omega) _ (Nat.le_refl _)
theorem sortedC_wok {N : NetD} (hg : N.good = true) : (∀ c ∈ sortedC N, WOk N c) ∧ (sortedC N).length ≤ N.ends.length := by
  obtain ⟨h1, h2⟩ := stC_wok hg N.ends.length (Nat.le_refl _)
  have hp := (sortedC_spec N).2
  exact ⟨fun c hc => h1 c (hp.mem_iff.1 hc), by rw [hp.length_eq]; exact h2⟩
theorem flat_walk_len {N : NetD} : ∀ l : List CmpD, (∀ c ∈ l, WOk N c) → (l.flatMap CmpD.walk).length ≤ l.length * 40
  | [], _ => by simp
  | c :: l, h => by
    have h1 := (h c (by simp)).1
    have h2 := flat_walk_len l (fun d hd => h d (by simp [hd]))
    rw [List.flatMap_cons, List.length_append, List.length_cons]
    omega
theorem take_flat {l : List CmpD} {k : Nat} (h : k < l.length) : (l.take (k + 1)).flatMap CmpD.walk = (l.take k).flatMap CmpD.walk ++ l[k].walk := by
  rw [List.take_succ_eq_append_getElem h, List.flatMap_append]; simp
end Go.Proofs.YtmdlginjblnfoaaGreat

/- Plain: the walk's distances are the lengths of shortest ways; in a good network they do not hang on the direction. -/
namespace Go.Proofs.YtmdlginjblnfoaaGreat
set_option linter.unusedVariables false

/-- an edge leads from u to s -/
def Adj (N : NetD) (u s : Nat) : Prop := u < N.ends.length ∧ s < N.ends.length ∧ ∃ i, i < (nthL N.ends u).length ∧ (nthE (nthL N.ends u) i).1 = s
def way (N : NetD) : Nat → Nat → Nat → Prop
  | 0, u, t => u = t
  | k + 1, u, t => ∃ s, way N k u s ∧ Adj N s t
theorem Adj.symm {N : NetD} (hg : N.good = true) {u s : Nat} (h : Adj N u s) : Adj N s u := by
  obtain ⟨h1, h2, i, hi, he⟩ := h
  obtain ⟨t, r, e, e1, e2, e3⟩ := good_end hg h1 hi
  rw [e] at he
  obtain rfl : t = s := by have he' : (t : Int) = s := he
                           omega
  exact ⟨h2, h1, r, e2, by rw [e3]⟩
theorem way_step {N : NetD} : ∀ {k u s t : Nat}, Adj N u s → way N k s t → way N (k + 1) u t
  | 0, u, s, t, h, e => ⟨u, rfl, by rw [← (show s = t from e)]; exact h⟩
  | k + 1, u, s, t, h, ⟨r, h1, h2⟩ => ⟨r, way_step h h1, h2⟩
theorem way_symm {N : NetD} (hg : N.good = true) : ∀ {k u t : Nat}, way N k u t → way N k t u
  | 0, u, t, e => Eq.symm e
  | k + 1, u, t, ⟨s, h1, h2⟩ => way_step (h2.symm hg) (way_symm hg h1)

/-- how the found nodes lie: by distance, and each behind one that was found before -/
structure BC (N : NetD) (v : Nat) (st : BSt) : Prop where
  sorted : ∀ i j, i ≤ j → j < st.2.length → nth st.1 (nth st.2 i).toNat ≤ nth st.1 (nth st.2 j).toNat
  found : ∀ j, j < N.ends.length → 0 ≤ nth st.1 j → way N (nth st.1 j).toNat v j
  inw : ∀ j, j < N.ends.length → 0 ≤ nth st.1 j → ∃ i, i < st.2.length ∧ nth st.2 i = j
/-- nodes before place a have found their neighbours -/
def BDone (N : NetD) (a : Nat) (st : BSt) : Prop := ∀ i, i < a → ∀ t, Adj N (nth st.2 i).toNat t → 0 ≤ nth st.1 t ∧ nth st.1 t ≤ nth st.1 (nth st.2 i).toNat + 1

theorem BC.start {N : NetD} {v : Nat} (hv : v < N.ends.length) : BC N v (bfs0 N v) := by
  have hz : nth (bfs0 N v).1 v = 0 := by simp only [bfs0]; rw [nth_set _ _ _ _ (by simpa using hv), if_pos rfl]
  have ho : ∀ j, j < N.ends.length → 0 ≤ nth (bfs0 N v).1 j → j = v := fun j hj h => by
    simp only [bfs0] at h
    rw [nth_set _ _ _ _ (by simpa using hv)] at h
    by_cases e : j = v
    · exact e
    · rw [if_neg e, nth_replicate _ _ hj] at h; omega
  refine ⟨fun i j hij hj => ?_, fun j hj h => ?_, fun j hj h => ?_⟩
  · have : j = 0 := by simp [bfs0] at hj; exact hj
    obtain rfl : i = 0 := by omega
    subst this; exact Int.le_refl _
  · obtain rfl := ho j hj h
    rw [hz]; rfl
  · obtain rfl := ho j hj h
    exact ⟨0, by simp [bfs0], rfl⟩

/-- what is known in the middle: the states between, and that no found node lies farther than one step behind -/
structure BCMid (N : NetD) (v a : Nat) (st : BSt) (u : Nat) (d : Int) (k : Nat) (sk : BSt) : Prop where
  mid : BMid N a st u d k sk
  bc : BC N v sk
  far : ∀ j, j < sk.2.length → nth sk.1 (nth sk.2 j).toNat ≤ d + 1
  done : BDone N a sk
  seen : ∀ i, i < k → ∀ t : Nat, (nthE (nthL N.ends u) i).1 = t → 0 ≤ nth sk.1 t ∧ nth sk.1 t ≤ d + 1
theorem BCMid.next {N : NetD} {v a : Nat} {st : BSt} {u : Nat} {d : Int} {k : Nat} {sk : BSt} (h : BCMid N v a st u d k sk) (hu : u < N.ends.length) (hk : k < (nthL N.ends u).length) {t : Nat} (ht : (nthE (nthL N.ends u) k).1 = t) (htl : t < N.ends.length) :
    BCMid N v a st u d (k + 1) (see (d + 1) sk t) := by
  have hm := h.mid.next hk ht htl
  have hle : sk.1.length = N.ends.length := h.mid.inv.len
  have hadj : Adj N u t := ⟨hu, htl, k, hk, ht⟩
  by_cases hn : nth sk.1 t < 0
  · rw [see_neg hn] at hm ⊢
    have hs : ∀ j, nth (sk.1.set t (d + 1)) j = if j = t then d + 1 else nth sk.1 j := fun j => nth_set _ _ _ _ (by omega)
    have hold : ∀ i, i < sk.2.length → nth (sk.2 ++ [(t : Int)]) i = nth sk.2 i ∧ nth (sk.1.set t (d + 1)) (nth sk.2 i).toNat = nth sk.1 (nth sk.2 i).toNat := fun i hi => by
      obtain ⟨x, e1, e2, e3, e4⟩ := h.mid.inv.node i hi
      refine ⟨nth_append_left hi, ?_⟩
      rw [e1, Int.toNat_natCast, hs, if_neg (by rintro rfl; omega)]
    refine ⟨hm, ⟨fun i j hij hj => ?_, fun j hj h0 => ?_, fun j hj h0 => ?_⟩, fun j hj => ?_, fun i hi s hadj2 => ?_, fun i hi s hs2 => ?_⟩
    · simp only [List.length_append, List.length_singleton] at hj
      dsimp only
      by_cases e2 : j < sk.2.length
      · rw [(hold i (by omega)).1, (hold i (by omega)).2, (hold j e2).1, (hold j e2).2]
        exact h.bc.sorted i j hij e2
      · obtain rfl : j = sk.2.length := by omega
        rw [nth_append_at, Int.toNat_natCast, hs t, if_pos rfl]
        by_cases e1 : i < sk.2.length
        · rw [(hold i e1).1, (hold i e1).2]; exact h.far i e1
        · obtain rfl : i = sk.2.length := by omega
          rw [nth_append_at, Int.toNat_natCast, hs t, if_pos rfl]; exact Int.le_refl _
    · dsimp only at h0 ⊢
      rw [hs] at h0 ⊢
      by_cases e : j = t
      · subst e
        rw [if_pos rfl]
        have hd0 := h.mid.d0
        have hw := h.bc.found u hu (by rw [h.mid.here]; exact hd0)
        rw [h.mid.here] at hw
        rw [show (d + 1).toNat = d.toNat + 1 by omega]
        exact ⟨u, hw, hadj⟩
      · rw [if_neg e] at h0 ⊢; exact h.bc.found j hj h0
    · dsimp only at h0 ⊢
      rw [hs] at h0
      by_cases e : j = t
      · subst e; exact ⟨sk.2.length, by simp, nth_append_at _ _⟩
      · rw [if_neg e] at h0
        obtain ⟨i, hi, e1⟩ := h.bc.inw j hj h0
        exact ⟨i, by simp; omega, by rw [nth_append_left hi]; exact e1⟩
    · simp only [List.length_append, List.length_singleton] at hj
      dsimp only
      by_cases e2 : j < sk.2.length
      · rw [(hold j e2).1, (hold j e2).2]; exact h.far j e2
      · obtain rfl : j = sk.2.length := by omega
        rw [nth_append_at, Int.toNat_natCast, hs, if_pos rfl]; exact Int.le_refl _
    · dsimp only at hadj2 ⊢
      have hil : i < sk.2.length := by have := h.mid.alt; omega
      rw [(hold i hil).1] at hadj2 ⊢
      rw [(hold i hil).2]
      have := h.done i hi s hadj2
      rw [hs, if_neg (by rintro rfl; omega)]
      exact this
    · dsimp only
      by_cases e : i = k
      · subst e
        rw [ht] at hs2
        obtain rfl : t = s := by omega
        rw [hs, if_pos rfl]
        have := h.mid.d0
        omega
      · have := h.seen i (by omega) s hs2
        rw [hs, if_neg (by rintro rfl; omega)]
        exact this
  · rw [see_pos hn] at hm ⊢
    refine ⟨hm, h.bc, h.far, h.done, fun i hi s hs2 => ?_⟩
    by_cases e : i = k
    · subst e
      rw [ht] at hs2
      obtain rfl : t = s := by omega
      obtain ⟨j, hj, e1⟩ := h.bc.inw t htl (by omega)
      have := h.far j hj
      rw [e1, Int.toNat_natCast] at this
      exact ⟨by omega, this⟩
    · exact h.seen i (by omega) s hs2

theorem dist_full {N : NetD} (hN : N.nodes) {v : Nat} (hv : v < N.ends.length) : ∃ st, BInv N.ends.length st ∧ BC N v st ∧ BDone N st.2.length st ∧ dist N v = st.1 := by
  have key : ∀ f a st, f = N.ends.length + 1 - a → BTop N v a st → BC N v st → BDone N a st → (∀ j, a < st.2.length → j < st.2.length → nth st.1 (nth st.2 j).toNat ≤ nth st.1 (nth st.2 a).toNat + 1) → ∃ st, BInv N.ends.length st ∧ BC N v st ∧ BDone N st.2.length st ∧ dist N v = st.1 := by
    intro f
    induction f with
    | zero => intro a st hf h; have := h.inv.le; have := h.le; omega
    | succ f ih =>
      intro a st hf h hc hd hfar
      by_cases ha : a < st.2.length
      · obtain ⟨u, e1, e2, e3, e4⟩ := h.inv.node a ha
        have mid : ∀ k, k ≤ (nthL N.ends u).length → ∃ sk, BCMid N v a st u (nth st.1 u) k sk := by
          intro k
          induction k with
          | zero => intro _; exact ⟨st, BMid.start h.inv ha e1 rfl, hc, fun j hj => by have := hfar j ha hj; rwa [e1, Int.toNat_natCast] at this, hd, fun i hi => absurd hi (by omega)⟩
          | succ k ihk =>
            intro hk
            obtain ⟨sk, hsk⟩ := ihk (by omega)
            obtain ⟨t, ht, htl⟩ := hN u e2 k (by omega)
            exact ⟨_, hsk.next e2 (by omega) ht htl⟩
        obtain ⟨sk, hsk⟩ := mid _ (Nat.le_refl _)
        have hat : nth sk.2 a = u := hsk.mid.at_
        refine ih (a + 1) sk (by omega) (h.next ha hsk.mid e1 rfl) hsk.bc (fun i hi t hadj => ?_) (fun j ha1 hj => ?_)
        · by_cases e : i = a
          · subst e
            rw [hat, Int.toNat_natCast] at hadj ⊢
            obtain ⟨_, _, p, hp, he⟩ := hadj
            rw [hsk.mid.here]
            exact hsk.seen p hp t he
          · exact hsk.done i (by omega) t hadj
        · have := hsk.far j hj
          have h2 := hsk.bc.sorted a (a + 1) (by omega) ha1
          rw [hat, Int.toNat_natCast, hsk.mid.here] at h2
          omega
      · have := h.le
        obtain rfl : a = st.2.length := by omega
        exact ⟨st, h.inv, hc, hd, h.stop⟩
  refine key _ 0 _ rfl (BTop.start hv) (BC.start hv) (fun i hi => absurd hi (by omega)) (fun j h0 hj => ?_)
  have : j = 0 := by simp [bfs0] at hj; exact hj
  subst this
  omega
theorem dist_way {N : NetD} (hN : N.nodes) {v : Nat} (hv : v < N.ends.length) {t : Nat} (ht : t < N.ends.length) (h0 : 0 ≤ nth (dist N v) t) : way N (nth (dist N v) t).toNat v t := by
  obtain ⟨st, h1, h2, h3, e⟩ := dist_full hN hv
  rw [e] at h0 ⊢
  exact h2.found t ht h0
theorem dist_self {N : NetD} (hN : N.nodes) {v : Nat} (hv : v < N.ends.length) : nth (dist N v) v = 0 := by
  have key : ∀ f a st, f = N.ends.length + 1 - a → BTop N v a st → nth st.1 v = 0 → nth (dist N v) v = 0 := by
    intro f
    induction f with
    | zero => intro a st hf h; have := h.inv.le; have := h.le; omega
    | succ f ih =>
      intro a st hf h hz
      by_cases ha : a < st.2.length
      · obtain ⟨u, e1, e2, e3, e4⟩ := h.inv.node a ha
        have mid : ∀ k, k ≤ (nthL N.ends u).length → ∃ sk, BMid N a st u (nth st.1 u) k sk := by
          intro k
          induction k with
          | zero => intro _; exact ⟨st, BMid.start h.inv ha e1 rfl⟩
          | succ k ihk =>
            intro hk
            obtain ⟨sk, hsk⟩ := ihk (by omega)
            obtain ⟨t, ht, htl⟩ := hN u e2 k (by omega)
            exact ⟨_, hsk.next (by omega) ht htl⟩
        obtain ⟨sk, hsk⟩ := mid _ (Nat.le_refl _)
        exact ih (a + 1) sk (by omega) (h.next ha hsk e1 rfl) (by rw [hsk.kept.out v (by omega)]; exact hz)
      · have := h.le
        obtain rfl : a = st.2.length := by omega
        rw [h.stop]; exact hz
  refine key _ 0 _ rfl (BTop.start hv) ?_
  simp only [bfs0]; rw [nth_set _ _ _ _ (by simpa using hv), if_pos rfl]
theorem dist_le {N : NetD} (hN : N.nodes) {v : Nat} (hv : v < N.ends.length) : ∀ {k t : Nat}, way N k v t → 0 ≤ nth (dist N v) t ∧ nth (dist N v) t ≤ k
  | 0, t, e => by rw [← (show v = t from e), dist_self hN hv]; omega
  | k + 1, t, ⟨s, h1, h2⟩ => by
    have hi := dist_le hN hv h1
    obtain ⟨st, a1, a2, a3, e⟩ := dist_full hN hv
    rw [e] at hi ⊢
    obtain ⟨i, hil, e1⟩ := a2.inw s h2.1 hi.1
    have := a3 i hil t (by rw [e1, Int.toNat_natCast]; exact h2)
    rw [e1, Int.toNat_natCast] at this
    omega
theorem dist_symm {N : NetD} (hg : N.good = true) {u v : Nat} (hu : u < N.ends.length) (hv : v < N.ends.length) : nth (dist N u) v = nth (dist N v) u := by
  have hN := good_nodes hg
  have h1 := dist_low hN hu hv
  have h2 := dist_low hN hv hu
  by_cases e1 : 0 ≤ nth (dist N u) v
  · have := dist_le hN hv (way_symm hg (dist_way hN hu hv e1))
    have := dist_le hN hu (way_symm hg (dist_way hN hv hu (by omega)))
    omega
  · by_cases e2 : 0 ≤ nth (dist N v) u
    · have := dist_le hN hu (way_symm hg (dist_way hN hv hu e2))
      omega
    · omega

end Go.Proofs.YtmdlginjblnfoaaGreat

/- Plain: the least node of each component; clusterings; decompositions. No condition on any program. -/
namespace Go.Proofs.YtmdlginjblnfoaaGreat
set_option linter.unusedVariables false

theorem way_trans {N : NetD} : ∀ {k m u s t : Nat}, way N k u s → way N m s t → way N (k + m) u t
  | k, 0, u, s, t, h, e => by rw [← (show s = t from e)]; exact h
  | k, m + 1, u, s, t, h, ⟨r, h1, h2⟩ => ⟨r, way_trans h h1, h2⟩
/-- a way leads from v to t -/
def Reach (N : NetD) (v t : Nat) : Prop := 0 ≤ nth (dist N v) t
instance (N : NetD) (v t : Nat) : Decidable (Reach N v t) := by unfold Reach; infer_instance
theorem Reach.self {N : NetD} (hg : N.good = true) {v : Nat} (hv : v < N.ends.length) : Reach N v v := by unfold Reach; rw [dist_self (good_nodes hg) hv]; omega
theorem Reach.symm {N : NetD} (hg : N.good = true) {u v : Nat} (hu : u < N.ends.length) (hv : v < N.ends.length) (h : Reach N u v) : Reach N v u := by unfold Reach at *; rw [dist_symm hg hv hu]; exact h
theorem Reach.trans {N : NetD} (hg : N.good = true) {u v t : Nat} (hu : u < N.ends.length) (hv : v < N.ends.length) (ht : t < N.ends.length) (h : Reach N u v) (k : Reach N v t) : Reach N u t :=
  (dist_le (good_nodes hg) hu (way_trans (dist_way (good_nodes hg) hu hv h) (dist_way (good_nodes hg) hv ht k))).1
/-- the least node of v's component -/
def comp (N : NetD) (v : Nat) : Nat := (List.range N.ends.length).findIdx fun t => decide (0 ≤ nth (dist N v) t)
theorem comp_is {N : NetD} {v c : Nat} (hc : c < N.ends.length) (h : Reach N v c) (hb : ∀ j, j < c → ¬ Reach N v j) : comp N v = c := by
  unfold comp
  unfold Reach at h hb
  rw [List.findIdx_eq (by simp; omega)]
  refine ⟨by simpa using h, fun j hj => ?_⟩
  simpa using hb j hj
theorem comp_spec {N : NetD} (hg : N.good = true) {v : Nat} (hv : v < N.ends.length) : comp N v < N.ends.length ∧ Reach N v (comp N v) ∧ ∀ j, j < comp N v → ¬ Reach N v j := by
  have key : ∀ c : Nat, c < N.ends.length → Reach N v c → ∃ d, d < N.ends.length ∧ Reach N v d ∧ ∀ j, j < d → ¬ Reach N v j := by
    intro c
    induction c using Nat.strongRecOn with
    | _ c ih =>
      intro hc hr
      by_cases h : ∃ j, j < c ∧ Reach N v j
      · obtain ⟨j, hj, hn⟩ := h; exact ih j hj (by omega) hn
      · exact ⟨c, hc, hr, fun j hj hn => h ⟨j, hj, hn⟩⟩
  obtain ⟨d, h1, h2, h3⟩ := key v hv (Reach.self hg hv)
  rw [comp_is h1 h2 h3]
  exact ⟨h1, h2, h3⟩
theorem comp_le {N : NetD} (hg : N.good = true) {v t : Nat} (hv : v < N.ends.length) (h : Reach N v t) : comp N v ≤ t := by
  have := (comp_spec hg hv).2.2 t
  by_cases e : comp N v ≤ t
  · exact e
  · exact absurd h (this (by omega))
theorem comp_reach {N : NetD} (hg : N.good = true) {v t : Nat} (hv : v < N.ends.length) (ht : t < N.ends.length) : Reach N v t ↔ comp N v = comp N t := by
  obtain ⟨a1, a2, a3⟩ := comp_spec hg hv
  obtain ⟨b1, b2, b3⟩ := comp_spec hg ht
  constructor
  · intro h
    have h1 := comp_le hg hv (h.trans hg hv ht b1 b2)
    have h2 := comp_le hg ht ((h.symm hg hv ht).trans hg ht hv a1 a2)
    omega
  · intro e
    rw [e] at a2
    exact a2.trans hg hv b1 ht (b2.symm hg ht b1)
def compAll (N : NetD) : List Int := (List.range N.ends.length).map fun v => (comp N v : Int)
theorem compAll_length (N : NetD) : (compAll N).length = N.ends.length := by simp [compAll]
theorem nth_compAll {N : NetD} {v : Nat} (hv : v < N.ends.length) : nth (compAll N) v = comp N v := by simp [nth, compAll, hv]
/-- the loop over the nodes: components whose least node lies before k are written -/
def CompAt (N : NetD) (k : Nat) (zs : List Int) : Prop := zs.length = N.ends.length ∧ ∀ w, w < N.ends.length → nth zs w = if comp N w < k then (comp N w : Int) else -1
theorem CompAt.start (N : NetD) : CompAt N 0 (List.replicate N.ends.length (-1)) := ⟨by simp, fun w hw => by rw [nth_replicate _ _ hw, if_neg (by omega)]⟩
theorem CompAt.skip {N : NetD} (hg : N.good = true) {k : Nat} {zs : List Int} (h : CompAt N k zs) (hk : k < N.ends.length) (h0 : 0 ≤ nth zs k) : CompAt N (k + 1) zs := by
  refine ⟨h.1, fun w hw => ?_⟩
  rw [h.2 w hw]
  have hck : comp N k < k := by
    have := h.2 k hk
    by_cases e : comp N k < k
    · exact e
    · rw [if_neg e] at this; omega
  by_cases e : comp N w < k
  · rw [if_pos e, if_pos (by omega)]
  · rw [if_neg e, if_neg]
    intro e2
    have e3 : comp N w = k := by omega
    have := (comp_spec hg hw).2.1
    rw [e3] at this
    have := (comp_reach hg hw hk).1 this
    omega
/-- the inner loop: nodes before m are written -/
def CompMid (N : NetD) (k m : Nat) (zs : List Int) : Prop := zs.length = N.ends.length ∧ ∀ w, w < N.ends.length → nth zs w = if w < m ∧ Reach N k w then (k : Int) else if comp N w < k then (comp N w : Int) else -1
theorem CompAt.mid {N : NetD} {k : Nat} {zs : List Int} (h : CompAt N k zs) : CompMid N k 0 zs := ⟨h.1, fun w hw => by rw [h.2 w hw, if_neg (by omega : ¬ (w < 0 ∧ _))]⟩
theorem CompMid.no {N : NetD} {k m : Nat} {zs : List Int} (h : CompMid N k m zs) (hr : ¬ 0 ≤ nth (dist N k) m) : CompMid N k (m + 1) zs := by
  refine ⟨h.1, fun w hw => ?_⟩
  rw [h.2 w hw]
  by_cases e2 : w < m ∧ Reach N k w
  · rw [if_pos e2, if_pos ⟨by omega, e2.2⟩]
  · rw [if_neg e2, if_neg (c := w < m + 1 ∧ Reach N k w) (fun h => by
      by_cases e : w = m
      · subst e; exact hr h.2
      · exact e2 ⟨by omega, h.2⟩)]
theorem CompMid.done {N : NetD} (hg : N.good = true) {k : Nat} {zs : List Int} (h : CompMid N k N.ends.length zs) (hk : k < N.ends.length) (hc : ¬ comp N k < k) : CompAt N (k + 1) zs := by
  refine ⟨h.1, fun w hw => ?_⟩
  rw [h.2 w hw]
  have hck : comp N k = k := by have := comp_le hg hk (Reach.self hg hk); omega
  by_cases e : Reach N k w
  · have := (comp_reach hg hk hw).1 e
    rw [if_pos ⟨hw, e⟩, if_pos (by omega)]; omega
  · rw [if_neg (c := w < N.ends.length ∧ Reach N k w) (fun h => e h.2)]
    have : comp N w ≠ k := by
      intro e3
      have := (comp_spec hg hw).2.1
      rw [e3] at this
      exact e (this.symm hg hw hk)
    by_cases e2 : comp N w < k
    · rw [if_pos e2, if_pos (by omega)]
    · rw [if_neg e2, if_neg (by omega)]
theorem CompAt.all {N : NetD} (hg : N.good = true) {zs : List Int} (h : CompAt N N.ends.length zs) : zs = compAll N :=
  ext_nth (by rw [h.1, compAll_length]) fun i hi => by
    rw [h.1] at hi
    rw [h.2 i hi, nth_compAll hi, if_pos (comp_spec hg hi).1]
theorem CompAt.neg {N : NetD} {k : Nat} {zs : List Int} (h : CompAt N k zs) (hk : k < N.ends.length) (h0 : ¬ 0 ≤ nth zs k) : ¬ comp N k < k := by
  intro e
  rw [h.2 k hk, if_pos e] at h0
  omega

end Go.Proofs.YtmdlginjblnfoaaGreat

/- Plain: the network of kept ports is a network; its ends are those of the network, with other numbers. No condition on any program. -/
namespace Go.Proofs.YtmdlginjblnfoaaGreat
set_option linter.unusedVariables false

theorem cntK_mono (kp : Nat → Nat → Bool) (v : Nat) {m k : Nat} (h : m ≤ k) : cntK kp v m ≤ cntK kp v k := by
  induction k with
  | zero => rw [Nat.le_zero.1 h]; exact Nat.le_refl _
  | succ k ih =>
    rcases Nat.lt_or_eq_of_le h with h1 | rfl
    · have := ih (by omega); rw [cntK_succ]; omega
    · exact Nat.le_refl _
theorem cntK_lt (kp : Nat → Nat → Bool) (v : Nat) {m k : Nat} (h : m < k) (hk : kp v m = true) : cntK kp v m < cntK kp v k := by
  have h1 := cntK_succ kp v m
  rw [if_pos hk] at h1
  have := cntK_mono kp v (show m + 1 ≤ k by omega)
  omega
/-- each new port is a port -/
theorem cntK_port (kp : Nat → Nat → Bool) (v : Nat) : ∀ (d c : Nat), c < cntK kp v d → ∃ i, i < d ∧ kp v i = true ∧ cntK kp v i = c
  | 0, c, h => by simp [cntK] at h
  | d + 1, c, h => by
    rw [cntK_succ] at h
    by_cases hd : kp v d = true
    · rw [if_pos hd] at h
      by_cases hc : c < cntK kp v d
      · obtain ⟨i, h1, h2⟩ := cntK_port kp v d c hc; exact ⟨i, by omega, h2⟩
      · exact ⟨d, by omega, hd, by omega⟩
    · rw [if_neg hd] at h
      obtain ⟨i, h1, h2⟩ := cntK_port kp v d c (by omega); exact ⟨i, by omega, h2⟩
theorem rowU_other (kp : Nat → Nat → Bool) (U : Int → Int → Po) {v k : Nat} {x y : Int} (hx : x ≠ (v : Int)) : ∀ m, rowU kp U v k m x y = U x y
  | 0 => rfl
  | m + 1 => by
    simp only [rowU]
    split
    · rw [setUE_ne (fun e => hx e.1)]; exact rowU_other kp U hx m
    · exact rowU_other kp U hx m
theorem rowU_at (kp : Nat → Nat → Bool) (U : Int → Int → Po) (v k : Nat) {i : Nat} (hi : kp v i = true) : ∀ m, i < m → rowU kp U v k m v i = (k, cntK kp v i)
  | 0, h => absurd h (by omega)
  | m + 1, h => by
    simp only [rowU]
    by_cases e : m = i
    · rw [e, if_pos hi, setUE_at]
    · have ih := rowU_at kp U v k hi m (by omega)
      split
      · rw [setUE_ne (fun e2 => e (by omega))]; exact ih
      · exact ih
/-- the elements are nodes, each once -/
structure PickOk (N : NetD) (zs : List Int) : Prop where
  node : ∀ k, k < zs.length → ∃ t : Nat, nth zs k = t ∧ t < N.ends.length
  once : ∀ a b, a < zs.length → b < zs.length → nth zs a = nth zs b → a = b
/-- kept ports come in pairs, and lead to picked nodes -/
structure KeepOk (N : NetD) (zs : List Int) (kp : Nat → Nat → Bool) : Prop where
  pair : ∀ k v i w j : Nat, k < zs.length → nth zs k = (v : Int) → i < (nthL N.ends v).length → kp v i = true → nthE (nthL N.ends v) i = ((w : Int), (j : Int)) → kp w j = true ∧ ∃ q, q < zs.length ∧ nth zs q = (w : Int)
section
variable {N : NetD} {kp : Nat → Nat → Bool} {zs : List Int}
theorem part_place (hz : PickOk N zs) {k v i : Nat} (hv : nth zs k = (v : Int)) (hi : i < (nthL N.ends v).length) (hk : kp v i = true) : ∀ K, K ≤ zs.length → k < K → allU N kp zs K v i = (k, cntK kp v i)
  | 0, _, h => absurd h (by omega)
  | K + 1, h1, h2 => by
    show rowU kp (allU N kp zs K) (nth zs K).toNat K (nthL N.ends (nth zs K).toNat).length v i = _
    by_cases e : K = k
    · rw [e, hv, Int.toNat_natCast]; exact rowU_at kp _ v k hk _ hi
    · obtain ⟨t, et, _⟩ := hz.node K (by omega)
      have e2 : (v : Int) ≠ ((nth zs K).toNat : Nat) := fun h => e (hz.once K k (by omega) (by omega) (by rw [hv, et]; rw [et] at h; omega))
      rw [rowU_other kp _ e2]; exact part_place hz hv hi hk K (by omega) (by omega)
theorem partRow_pre (N : NetD) (kp : Nat → Nat → Bool) (U : Int → Int → Po) (v m : Nat) : ∀ d, m ≤ d → partRow N kp U v m <+: partRow N kp U v d
  | 0, h => by rw [Nat.le_zero.1 h]; exact List.prefix_refl _
  | d + 1, h => by
    rcases Nat.lt_or_eq_of_le h with h1 | rfl
    · have ih := partRow_pre N kp U v m d (by omega)
      cases hk : kp v d with
      | true => rw [partRow_yes hk]; exact ih.trans (List.prefix_append _ _)
      | false => rw [partRow_no hk]; exact ih
    · exact List.prefix_refl _
theorem partRow_get {U : Int → Int → Po} {v i d : Nat} (hi : i < d) (hk : kp v i = true) : nthP (partRow N kp U v d) (cntK kp v i) = U (nthE (nthL N.ends v) i).1 (nthE (nthL N.ends v) i).2 := by
  obtain ⟨r, hr⟩ := partRow_pre N kp U v (i + 1) d (by omega)
  rw [← hr, partRow_yes hk]
  have hl := partRow_len N kp U v i
  unfold nthP
  rw [List.append_assoc, List.getD_eq_getElem?_getD, List.getElem?_append_right (by omega), hl]
  simp
theorem part_n (N : NetD) (zs : List Int) (kp : Nat → Nat → Bool) : (partN N zs kp).ends.length = zs.length := by simp [partN, partRows]
theorem part_row {k v : Nat} (hk : k < zs.length) (hv : nth zs k = (v : Int)) : nthL (partN N zs kp).ends k = castL (partRow N kp (allU N kp zs zs.length) v (nthL N.ends v).length) := by
  have hv' : zs[k] = (v : Int) := by rw [← nth_eq hk]; exact hv
  have e : (partN N zs kp).ends = zs.map fun z => castL (partRow N kp (allU N kp zs zs.length) z.toNat (nthL N.ends z.toNat).length) := by
    unfold partN partRows
    rw [List.map_map]; rfl
  rw [e]
  unfold nthL
  rw [List.getD_eq_getElem?_getD, List.getElem?_map, List.getElem?_eq_getElem hk, hv']
  simp
theorem part_deg {k v : Nat} (hk : k < zs.length) (hv : nth zs k = (v : Int)) : (nthL (partN N zs kp).ends k).length = cntK kp v (nthL N.ends v).length := by rw [part_row hk hv, castL_length, partRow_len]
theorem part_end (hz : PickOk N zs) (hK : KeepOk N zs kp) (hg : N.good = true) {k v i w j q : Nat} (hk : k < zs.length) (hv : nth zs k = (v : Int)) (hi : i < (nthL N.ends v).length) (hkp : kp v i = true) (he : nthE (nthL N.ends v) i = ((w : Int), (j : Int))) (hq : q < zs.length) (hw : nth zs q = (w : Int)) :
    nthE (nthL (partN N zs kp).ends k) (cntK kp v i) = ((q : Int), (cntK kp w j : Int)) := by
  obtain ⟨t, et, ht⟩ := hz.node k hk
  have hvn : v < N.ends.length := by rw [hv] at et; omega
  obtain ⟨w', j', e1, h1, h2, h3⟩ := good_end hg hvn hi
  rw [he] at e1
  simp only [Prod.mk.injEq] at e1
  have ew : w = w' := by omega
  have ej : j = j' := by omega
  subst ew ej
  rw [part_row hk hv, nthE_castL (by rw [partRow_len]; exact cntK_lt kp v hi hkp), partRow_get hi hkp, he]
  rw [part_place hz hw h2 (hK.pair k v i w j hk hv hi hkp he).1 zs.length (Nat.le_refl _) hq]
theorem nth_pickL {l : List Int} {k : Nat} (hk : k < zs.length) : nth (pickL l zs) k = nth l (nth zs k).toNat := by
  rw [nth_eq (by rw [pickL_len]; exact hk)]
  unfold pickL
  rw [List.getElem_map, ← nth_eq hk]
theorem ids_inj {ids : List Int} {n : Int} (h : idsGood ids n = true) {a b : Nat} (ha : a < ids.length) (hb : b < ids.length) (e : nth ids a = nth ids b) : a = b := by
  unfold idsGood at h
  rw [Bool.and_eq_true] at h
  have key : ∀ x y : Nat, x < y → y < ids.length → nth ids x ≠ nth ids y := fun x y hxy hy e => by
    have := rangeAll_at h.1 hy
    unfold idAt at this
    rw [Bool.and_eq_true, Bool.not_eq_true', decide_eq_false_iff_not] at this
    apply this.2
    rw [← e, nth_eq (show x < ids.length by omega)]
    exact List.mem_iff_getElem.2 ⟨x, by rw [List.length_take]; omega, by rw [List.getElem_take]⟩
  rcases Nat.lt_trichotomy a b with h1 | h1 | h1
  · exact absurd e (key a b h1 hb)
  · exact h1
  · exact absurd e.symm (key b a h1 ha)
/-- THE NETWORK OF KEPT PORTS IS A NETWORK -/
theorem part_good (hg : N.good = true) (hz : PickOk N zs) (hK : KeepOk N zs kp) (h1 : 1 ≤ zs.length) (h40 : zs.length ≤ 40) : (partN N zs kp).good = true := by
  have hhead : (partN N zs kp).headOk = true := by
    have hgh := hg
    unfold NetD.good NetD.headOk at hgh
    simp only [Bool.and_eq_true] at hgh
    obtain ⟨⟨_, hids, hins⟩, _⟩ := hgh
    unfold NetD.headOk
    rw [part_n]
    simp only [Bool.and_eq_true]
    refine ⟨by unfold inB; simp; omega, ?_, ?_⟩
    · show idsGood (if 0 < N.ids.length then pickL N.ids zs else []) _ = true
      split
      · rename_i h0
        have hidl : N.ids.length = N.ends.length := by rcases good_idsl hg with h | h <;> omega
        rw [idsGood_ok]
        · rw [pickL_len]; simp
        · intro k hk
          rw [pickL_len] at hk
          obtain ⟨t, et, ht⟩ := hz.node k hk
          unfold idAt
          rw [nth_pickL hk, et, Int.toNat_natCast, Bool.and_eq_true]
          have hat : idAt N.ids t = true := by
            unfold idsGood at hids
            rw [Bool.and_eq_true] at hids
            exact rangeAll_at hids.1 (by omega)
          unfold idAt at hat
          rw [Bool.and_eq_true] at hat
          refine ⟨hat.1, ?_⟩
          rw [Bool.not_eq_true', decide_eq_false_iff_not]
          intro hm
          obtain ⟨a, ha, e⟩ := List.mem_iff_getElem.1 hm
          rw [List.length_take, pickL_len] at ha
          rw [List.getElem_take, ← nth_eq (by rw [pickL_len]; omega), nth_pickL (by omega)] at e
          obtain ⟨s, es, hs⟩ := hz.node a (by omega)
          rw [es, Int.toNat_natCast] at e
          have := ids_inj hids (by omega) (by omega) e
          have := hz.once a k (by omega) hk (by rw [es, et, this])
          omega
      · rw [idsGood_ok (fun j hj => absurd hj (by simp))]; simp
    · show insGood (pickL N.inputs zs) _ = true
      unfold insGood at hins ⊢
      rw [pickL_len]
      simp only [Bool.and_eq_true, decide_eq_true_eq, List.all_eq_true] at hins ⊢
      refine ⟨trivial, fun x hx => ?_⟩
      unfold pickL at hx
      obtain ⟨z, hzm, rfl⟩ := List.mem_map.1 hx
      obtain ⟨a, ha, e⟩ := List.mem_iff_getElem.1 hzm
      obtain ⟨t, et, ht⟩ := hz.node a ha
      rw [nth_eq ha, e] at et
      rw [et, Int.toNat_natCast]
      exact hins.2 _ (nth_mem (by have := good_insl hg; omega))
  refine good_yes hhead fun k hk => ?_
  rw [part_n] at hk
  obtain ⟨v, hv, hvn⟩ := hz.node k hk
  have hd6 := good_deg hg hvn
  have hle := cntK_le kp v (nthL N.ends v).length
  refine row_yes (by rw [part_deg hk hv]; omega) fun c hc => ?_
  rw [part_deg hk hv] at hc
  obtain ⟨i, hi, hkp, rfl⟩ := cntK_port kp v _ c hc
  obtain ⟨w, j, he, hw, hj, hback⟩ := good_end hg hvn hi
  obtain ⟨hkw, q, hq, hqw⟩ := hK.pair k v i w j hk hv hi hkp he
  unfold NetD.endOk NetD.port
  rw [part_end hz hK hg hk hv hi hkp he hq hqw]
  have hb := part_end hz hK hg hq hqw hj hkw hback hk hv
  have hlt := cntK_lt kp w hj hkw
  simp only [Int.toNat_natCast, Bool.and_eq_true, decide_eq_true_eq]
  rw [part_n, part_deg hq hqw]
  refine ⟨⟨?_, ?_⟩, hb⟩
  · unfold inB; simp; omega
  · unfold inB; simp; omega
end
end Go.Proofs.YtmdlginjblnfoaaGreat

/- A network that a call is writing: its top row at one block, its rows in others, its two rows of numbers apart; plain: what renumbering leaves. No condition on any program. -/
namespace Go.Proofs.YtmdlginjblnfoaaGreat
open Go.ChangeShapes Go.WideShapes Go.ChangeAt Go.RowKit
set_option linter.unusedVariables false

/-- the ends of a row, each node with another number -/
def mapEnds (p : List Int) (l : List (Int × Int)) : List (Int × Int) := l.map fun e => (nth p e.1.toNat, e.2)
/-- the first k nodes renumbered, into a copy -/
def renTo (N : NetD) (p : List Int) : Nat → NetD
  | 0 => N
  | k + 1 => ⟨(renTo N p k).ends.set (nth p k).toNat (mapEnds p (nthL N.ends k)), if 0 < N.ids.length then (renTo N p k).ids.set (nth p k).toNat (nth N.ids k) else (renTo N p k).ids, (renTo N p k).inputs.set (nth p k).toNat (nth N.inputs k)⟩
def renN (N : NetD) (p : List Int) : NetD := renTo N p N.ends.length
theorem renTo_len (N : NetD) (p : List Int) : ∀ k, (renTo N p k).ends.length = N.ends.length ∧ (renTo N p k).ids.length = N.ids.length ∧ (renTo N p k).inputs.length = N.inputs.length
  | 0 => ⟨rfl, rfl, rfl⟩
  | k + 1 => by
    obtain ⟨h1, h2, h3⟩ := renTo_len N p k
    refine ⟨?_, ?_, ?_⟩
    · show (List.set _ _ _).length = _; rw [List.length_set, h1]
    · show (if 0 < N.ids.length then _ else _ : List Int).length = _
      split
      · rw [List.length_set, h2]
      · exact h2
    · show (List.set _ _ _).length = _; rw [List.length_set, h3]
theorem mapEnds_len (p : List Int) (l : List (Int × Int)) : (mapEnds p l).length = l.length := by simp [mapEnds]

/-- rows of ends apart from each other, in [lo, hi) and not at g; the top row at block g -/
def EndSSz (w : World) (g lo hi : Nat) (v : Value) (xss : List (List (Int × Int))) : Prop :=
  ∃ vs : Nat → Value, Sl w g (g + 1) 1 v xss.length vs ∧ (∀ i, i < xss.length → EndS w lo hi (vs i) (nthL xss i) ∧ (rowOf (nthL xss i).length (vs i) = none ∨ rowOf (nthL xss i).length (vs i) ≠ some g)) ∧
    ∀ i j, i < j → j < xss.length → rowOf (nthL xss i).length (vs i) = none ∨ rowOf (nthL xss i).length (vs i) ≠ rowOf (nthL xss j).length (vs j)
/-- out is being written: its top row lies at block g, ids in [d1, d2), inputs in [d3, i2), rows from i2 on and not at g -/
structure RN (w : World) (base d1 d2 d3 i2 rt g : Nat) (vE vD vI : Value) (N : NetD) : Prop where
  o1 : base ≤ d1
  o2 : d1 ≤ d2
  o3 : d2 ≤ d3
  o5 : d3 ≤ i2
  o4 : i2 ≤ rt
  o6 : rt ≤ w.heap.size
  g1 : base ≤ g
  g2 : g < rt
  g3 : g < d1 ∨ d2 ≤ g
  g4 : g < d3 ∨ i2 ≤ g
  ids : IntS w d1 d2 vD N.ids
  ins : IntS w d3 i2 vI N.inputs
  top : ∃ off c, vE = .slice (some ⟨g, off, none⟩) N.ends.length c
  rows : EndSSz w g i2 rt vE N.ends
theorem Sl.keepHi {w : World} {g n c : Nat} {f : Nat → Value} {hi : Nat} (h : Sl w g hi 1 (.slice (some ⟨g, 0, none⟩) n c) n f) : Sl w g (g + 1) 1 (.slice (some ⟨g, 0, none⟩) n c) n f := by
  obtain ⟨A, c', e, h1, h2, h3⟩ := h
  injection e with e1 _ e3
  subst e1 e3
  refine ⟨_, _, rfl, h1, h2, fun hn => ?_⟩
  obtain ⟨b, off, e4, h4, h5, h6⟩ := h3 hn
  injection e4 with e4
  injection e4 with e5 e6
  subst e5 e6
  exact ⟨_, _, rfl, h4, by omega, h6⟩
section
variable {w w' : World} {base d1 d2 d3 i2 rt g : Nat} {vE vD vI : Value} {N : NetD}
/-- writes elsewhere -/
theorem RN.far {row : Option Nat} (h : RN w base d1 d2 d3 i2 rt g vE vD vI N) (hg : w.grownBy w' row) (hr : ∀ k, row = some k → k < base ∨ w.heap.size ≤ k) : RN w' base d1 d2 d3 i2 rt g vE vD vI N := by
  have hs := hg.size
  have a1 := h.o1; have a2 := h.o2; have a3 := h.o3; have a8 := h.o5; have a4 := h.o4; have a0 := h.o6; have a5 := h.g1; have a6 := h.g2
  obtain ⟨vs, h1, h2, h3⟩ := h.rows
  refine ⟨a1, a2, a3, a8, a4, by omega, a5, a6, h.g3, h.g4, h.ids.far hg (by omega) (fun k e => by have := hr k e; omega), h.ins.far hg (by omega) (fun k e => by have := hr k e; omega), h.top, vs, ?_, fun i hi => ?_, h3⟩
  · exact Sl.keep h1 fun k k1 k2 => hg.block k (by omega) (fun e => by have := hr k e.symm; omega)
  · obtain ⟨e1, e2⟩ := h2 i hi
    exact ⟨e1.far hg (by omega) (fun k e => by have := hr k e; omega), e2⟩
theorem RN.still (h : RN w base d1 d2 d3 i2 rt g vE vD vI N) (hg : w.grownBy w' none) : RN w' base d1 d2 d3 i2 rt g vE vD vI N := h.far hg (fun k e => by cases e)
theorem RN.below (h : RN w base d1 d2 d3 i2 rt g vE vD vI N) (hb : Below w.heap.size w w') : RN w' base d1 d2 d3 i2 rt g vE vD vI N := h.still ⟨hb.os, hb.tape, hb.output, hb.size, fun k hk _ => hb.block k hk⟩
theorem RN.belowB {B : Nat} (h : RN w base d1 d2 d3 i2 rt g vE vD vI N) (hb : Below B w w') (hB : rt ≤ B) : RN w' base d1 d2 d3 i2 rt g vE vD vI N := by
  have hs := hb.size
  have a1 := h.o1; have a2 := h.o2; have a3 := h.o3; have a8 := h.o5; have a4 := h.o4; have a0 := h.o6; have a5 := h.g1; have a6 := h.g2
  obtain ⟨vs, h1, h2, h3⟩ := h.rows
  refine ⟨a1, a2, a3, a8, a4, by omega, a5, a6, h.g3, h.g4, h.ids.below hb (by omega), h.ins.below hb (by omega), h.top, vs, Sl.below h1 hb (by omega), fun i hi => ?_, h3⟩
  obtain ⟨e1, e2⟩ := h2 i hi
  exact ⟨e1.below hb hB, e2⟩
theorem RN.turned {l2 h2 : Nat} (h : RN w base d1 d2 d3 i2 rt g vE vD vI N) (hb : Turned l2 h2 w w') (hd : rt ≤ l2 ∨ h2 ≤ base) : RN w' base d1 d2 d3 i2 rt g vE vD vI N := by
  have hs := hb.size
  have a1 := h.o1; have a2 := h.o2; have a3 := h.o3; have a8 := h.o5; have a4 := h.o4; have a0 := h.o6; have a5 := h.g1; have a6 := h.g2
  obtain ⟨vs, h1, h2, h3⟩ := h.rows
  refine ⟨a1, a2, a3, a8, a4, by omega, a5, a6, h.g3, h.g4, h.ids.turned hb (by omega) (by omega), h.ins.turned hb (by omega) (by omega), h.top, vs, Sl.turned h1 hb (by omega) (by omega), fun i hi => ?_, h3⟩
  obtain ⟨e1, e2⟩ := h2 i hi
  exact ⟨e1.turned hb (by omega) (by omega), e2⟩
theorem RN.up {rt' : Nat} (h : RN w base d1 d2 d3 i2 rt g vE vD vI N) (h1 : rt ≤ rt') (h2 : rt' ≤ w.heap.size) : RN w base d1 d2 d3 i2 rt' g vE vD vI N := by
  obtain ⟨vs, k1, k2, k3⟩ := h.rows
  refine ⟨h.o1, h.o2, h.o3, h.o5, Nat.le_trans h.o4 h1, h2, h.g1, Nat.lt_of_lt_of_le h.g2 h1, h.g3, h.g4, h.ids, h.ins, h.top, vs, k1, fun i hi => ?_, k3⟩
  obtain ⟨e1, e2⟩ := k2 i hi
  exact ⟨e1.mono (Nat.le_refl _) h1, e2⟩
/-- what it reads as -/
theorem RN.netZ (h : RN w base d1 d2 d3 i2 rt g vE vD vI N) : Net w base rt (.agg #[vE, vD, vI]) N := by
  have a1 := h.o1; have a2 := h.o2; have a3 := h.o3; have a8 := h.o5; have a4 := h.o4; have a5 := h.g1; have a6 := h.g2
  obtain ⟨vs, h1, h2, _⟩ := h.rows
  exact ⟨vE, vD, vI, rfl, ⟨vs, h1.mono a5 (by omega), fun i hi => (h2 i hi).1.mono (by omega) (Nat.le_refl _)⟩, h.ids.mono (by omega) (by omega), h.ins.mono (by omega) (by omega)⟩
theorem RN.net (h : RN w base d1 d2 d3 i2 rt g vE vD vI N) : Net w base w.heap.size (.agg #[vE, vD, vI]) N := h.netZ.mono (Nat.le_refl _) h.o6
/-- one row of ends put in the place of another -/
theorem RN.setE {off n c : Nat} (h : RN w base d1 d2 d3 i2 rt g (.slice (some ⟨g, off, none⟩) n c) vD vI N) {a : Nat} (ha : a < N.ends.length) {u : Value} {xs : List (Int × Int)} (hu : EndS w rt w.heap.size u xs) (hne : rowOf xs.length u = none ∨ rowOf xs.length u ≠ some g) :
    RN (w.setCell ⟨g, off + a, none⟩ u) base d1 d2 d3 i2 (w.setCell ⟨g, off + a, none⟩ u).heap.size g (.slice (some ⟨g, off, none⟩) n c) vD vI ⟨N.ends.set a xs, N.ids, N.inputs⟩ := by
  have a1 := h.o1; have a2 := h.o2; have a3 := h.o3; have a8 := h.o5; have a4 := h.o4; have a0 := h.o6; have a5 := h.g1; have a6 := h.g2; have a7 := h.g3; have a9 := h.g4
  have hg : w.grownBy (w.setCell ⟨g, off + a, none⟩ u) (some g) := grown_set w ⟨g, off + a, none⟩ _
  have hs := hg.size
  have hn : n = N.ends.length := by obtain ⟨o2, c2, e⟩ := h.top; injection e
  subst hn
  obtain ⟨vs, h1, h2, h3⟩ := h.rows
  have hset : ∀ i, nthL (N.ends.set a xs) i = if i = a then xs else nthL N.ends i := fun i => by
    unfold nthL
    simp only [List.getD_eq_getElem?_getD, List.getElem?_set]
    by_cases e : a = i
    · subst e; simp [ha]
    · rw [if_neg e, if_neg (fun h => e h.symm)]
  have hap : ∀ i, i < N.ends.length → (rowOf (nthL N.ends i).length (vs i) = none ∨ rowOf (nthL N.ends i).length (vs i) ≠ rowOf xs.length u) ∧ (rowOf xs.length u = none ∨ rowOf xs.length u ≠ rowOf (nthL N.ends i).length (vs i)) := fun i hi => by
    rcases Sl.row (h2 i hi).1 with e | ⟨b, e, _, hb⟩
    · rcases Sl.row hu with e2 | ⟨b2, e2, _, _⟩
      · exact ⟨.inl e, .inl e2⟩
      · exact ⟨.inl e, .inr (by rw [e, e2]; simp)⟩
    · rcases Sl.row hu with e2 | ⟨b2, e2, hb2, _⟩
      · exact ⟨.inr (by rw [e, e2]; simp), .inl e2⟩
      · exact ⟨.inr (by rw [e, e2]; intro e3; injection e3; omega), .inr (by rw [e, e2]; intro e3; injection e3; omega)⟩
  refine ⟨a1, a2, a3, a8, by omega, Nat.le_refl _, a5, by omega, a7, a9, h.ids.far hg (by omega) (fun k e => by cases e; omega), h.ins.far hg (by omega) (fun k e => by cases e; omega), ⟨off, c, by simp⟩, fun i => if i = a then u else vs i, ?_, fun i hi => ?_, fun i j hij hj => ?_⟩
  · have := Sl.set h1 (j := a) (by omega) u
    simpa using this
  · simp only [List.length_set] at hi
    dsimp only
    rw [hset]
    by_cases e : i = a
    · rw [if_pos e, if_pos e]
      exact ⟨(Sl.grown hu hg (Nat.le_refl _) hne : EndS _ _ _ _ _).mono (by omega) hs, hne⟩
    · rw [if_neg e, if_neg e]
      obtain ⟨e1, e2⟩ := h2 i hi
      exact ⟨(Sl.grown e1 hg (by omega) e2 : EndS _ _ _ _ _).mono (Nat.le_refl _) (by omega), e2⟩
  · simp only [List.length_set] at hj
    dsimp only
    rw [hset, hset]
    by_cases e : i = a
    · rw [if_pos e, if_pos e, if_neg (by omega), if_neg (by omega)]
      exact (hap j hj).2
    · rw [if_neg e, if_neg e]
      by_cases e2 : j = a
      · rw [if_pos e2, if_pos e2]
        exact (hap i (by omega)).1
      · rw [if_neg e2, if_neg e2]
        exact h3 i j hij hj
theorem RN.topAt {off n c : Nat} (h : RN w base d1 d2 d3 i2 rt g (.slice (some ⟨g, off, none⟩) n c) vD vI N) {a : Nat} (ha : a < N.ends.length) : ∃ x, w.cell? ⟨g, off + a, none⟩ = some x ∧ x.oneCell' = true ∧ w.frozen? ⟨g, off + a, none⟩ = false := by
  have hn : n = N.ends.length := by obtain ⟨o2, c2, e⟩ := h.top; injection e
  subst hn
  obtain ⟨vs, h1, h2, _⟩ := h.rows
  obtain ⟨e1, e2⟩ := h1.at_ (j := a) (by omega)
  obtain ⟨A, c2, e3, _⟩ := (h2 a ha).1
  exact ⟨_, e1, by rw [e3]; rfl, e2⟩
theorem RN.topForm {off n c : Nat} (h : RN w base d1 d2 d3 i2 rt g (.slice (some ⟨g, off, none⟩) n c) vD vI N) {a : Nat} (ha : a < N.ends.length) {x : Value} (hx : w.cell? ⟨g, off + a, none⟩ = some x) : ∃ A m c2, x = .slice A m c2 := by
  have hn : n = N.ends.length := by obtain ⟨o2, c2, e⟩ := h.top; injection e
  subst hn
  obtain ⟨vs, h1, h2, _⟩ := h.rows
  obtain ⟨e1, e2⟩ := h1.at_ (j := a) (by omega)
  rw [hx] at e1
  injection e1 with e1
  obtain ⟨A, c2, e3, _⟩ := (h2 a ha).1
  exact ⟨A, _, c2, by rw [e1, e3]⟩
theorem RN.weak {base' : Nat} (h : RN w base d1 d2 d3 i2 rt g vE vD vI N) (hb : base' ≤ base) : RN w base' d1 d2 d3 i2 rt g vE vD vI N :=
  ⟨Nat.le_trans hb h.o1, h.o2, h.o3, h.o5, h.o4, h.o6, Nat.le_trans hb h.g1, h.g2, h.g3, h.g4, h.ids, h.ins, h.top, h.rows⟩
/-- a number set in the ids or in the inputs -/
theorem RN.setD {b off n c : Nat} (h : RN w base d1 d2 d3 i2 rt g vE (.slice (some ⟨b, off, none⟩) n c) vI N) (hb1 : d1 ≤ b) (hb2 : b < d2) {a : Nat} (ha : a < N.ids.length) (z : Int) :
    RN (w.setCell ⟨b, off + a, none⟩ (.int .i64 z)) base d1 d2 d3 i2 (w.setCell ⟨b, off + a, none⟩ (.int .i64 z)).heap.size g vE (.slice (some ⟨b, off, none⟩) n c) vI ⟨N.ends, N.ids.set a z, N.inputs⟩ := by
  have a1 := h.o1; have a2 := h.o2; have a3 := h.o3; have a8 := h.o5; have a4 := h.o4; have a0 := h.o6; have a5 := h.g1; have a6 := h.g2; have a7 := h.g3; have a9 := h.g4
  have hg : w.grownBy (w.setCell ⟨b, off + a, none⟩ (.int .i64 z)) (some b) := grown_set w ⟨b, off + a, none⟩ _
  have hs := hg.size
  obtain ⟨vs, h1, h2, h3⟩ := h.rows
  refine ⟨a1, a2, a3, a8, by omega, Nat.le_refl _, a5, by omega, a7, a9, h.ids.set ha z, h.ins.far hg (by omega) (fun k e => by cases e; omega), h.top, vs, ?_, fun i hi => ?_, h3⟩
  · exact Sl.keep h1 fun k k1 k2 => hg.block k (by omega) (fun e => by cases e; omega)
  · obtain ⟨e1, e2⟩ := h2 i hi
    exact ⟨(e1.far hg (by omega) (fun k e => by cases e; omega)).mono (Nat.le_refl _) (by omega), e2⟩
theorem RN.setI {b off n c : Nat} (h : RN w base d1 d2 d3 i2 rt g vE vD (.slice (some ⟨b, off, none⟩) n c) N) (hb1 : d3 ≤ b) (hb2 : b < i2) {a : Nat} (ha : a < N.inputs.length) (z : Int) :
    RN (w.setCell ⟨b, off + a, none⟩ (.int .i64 z)) base d1 d2 d3 i2 (w.setCell ⟨b, off + a, none⟩ (.int .i64 z)).heap.size g vE vD (.slice (some ⟨b, off, none⟩) n c) ⟨N.ends, N.ids, N.inputs.set a z⟩ := by
  have a1 := h.o1; have a2 := h.o2; have a3 := h.o3; have a8 := h.o5; have a4 := h.o4; have a0 := h.o6; have a5 := h.g1; have a6 := h.g2; have a7 := h.g3; have a9 := h.g4
  have hg : w.grownBy (w.setCell ⟨b, off + a, none⟩ (.int .i64 z)) (some b) := grown_set w ⟨b, off + a, none⟩ _
  have hs := hg.size
  obtain ⟨vs, h1, h2, h3⟩ := h.rows
  refine ⟨a1, a2, a3, a8, by omega, Nat.le_refl _, a5, by omega, a7, a9, h.ids.far hg (by omega) (fun k e => by cases e; omega), h.ins.set ha z, h.top, vs, ?_, fun i hi => ?_, h3⟩
  · exact Sl.keep h1 fun k k1 k2 => hg.block k (by omega) (fun e => by cases e; omega)
  · obtain ⟨e1, e2⟩ := h2 i hi
    exact ⟨(e1.far hg (by omega) (fun k e => by cases e; omega)).mono (Nat.le_refl _) (by omega), e2⟩
/-- a network in the making: rows not there yet -/
theorem RN.made {t : TypeId} {n : Nat} {ids ins : List Int} (h : w.rowIs g t n (fun _ => .slice none 0 0)) (hm : n ≤ maxLen) (h0 : 0 < n) (o1 : base ≤ d1) (o2 : d1 ≤ d2) (o3 : d2 ≤ d3) (o5 : d3 ≤ i2) (o4 : i2 ≤ w.heap.size) (g1 : base ≤ g) (g2 : g < w.heap.size) (g3 : g < d1 ∨ d2 ≤ g) (g4 : g < d3 ∨ i2 ≤ g)
    (hD : IntS w d1 d2 vD ids) (hI : IntS w d3 i2 vI ins) : RN w base d1 d2 d3 i2 w.heap.size g (.slice (some ⟨g, 0, none⟩) n n) vD vI ⟨List.replicate n [], ids, ins⟩ := by
  have hnil : ∀ i, i < n → nthL (List.replicate n ([] : List (Int × Int))) i = [] := fun i hi => by simp [nthL, hi]
  refine ⟨o1, o2, o3, o5, o4, Nat.le_refl _, g1, g2, g3, g4, hD, hI, ⟨0, n, by simp⟩, fun _ => .slice none 0 0, ?_, fun i hi => ?_, fun i j hij hj => ?_⟩
  · have := Sl.of_row (lo := g) (sz := 1) (n := n) (c := n) h (Nat.le_refl _) (by omega) (Nat.le_refl _) hm
    simp only [List.length_replicate]
    exact Sl.keepHi this
  · simp only [List.length_replicate] at hi
    dsimp only
    rw [hnil i hi]
    exact ⟨EndS.nil _ _ _, .inl (by simp [rowOf])⟩
  · simp only [List.length_replicate] at hj
    rw [hnil i (by omega)]
    exact .inl (by simp [rowOf])
/-- a network whose top row, ids, inputs and rows lie apart -/
def NetZ (w : World) (lo hi : Nat) (v : Value) (N : NetD) : Prop := ∃ d1 d2 d3 i2 g vE vD vI, v = .agg #[vE, vD, vI] ∧ RN w lo d1 d2 d3 i2 hi g vE vD vI N
section
variable {lo hi lo' hi' B l2 h2 : Nat} {v : Value}
theorem NetZ.net (h : NetZ w lo hi v N) : Net w lo hi v N := by
  obtain ⟨d1, d2, d3, i2, g, vE, vD, vI, rfl, h⟩ := h
  exact h.netZ
theorem NetZ.below (h : NetZ w lo hi v N) (hb : Below B w w') (hB : hi ≤ B) : NetZ w' lo hi v N := by
  obtain ⟨d1, d2, d3, i2, g, vE, vD, vI, rfl, h⟩ := h
  exact ⟨_, _, _, _, _, _, _, _, rfl, h.belowB hb hB⟩
theorem NetZ.turned (h : NetZ w lo hi v N) (hb : Turned l2 h2 w w') (hB : hi ≤ w.heap.size) (hd : hi ≤ l2 ∨ h2 ≤ lo) : NetZ w' lo hi v N := by
  obtain ⟨d1, d2, d3, i2, g, vE, vD, vI, rfl, h⟩ := h
  exact ⟨_, _, _, _, _, _, _, _, rfl, h.turned hb hd⟩
theorem NetZ.mono (h : NetZ w lo hi v N) (h1 : lo' ≤ lo) (h2 : hi ≤ hi') (h3 : hi' ≤ w.heap.size) : NetZ w lo' hi' v N := by
  obtain ⟨d1, d2, d3, i2, g, vE, vD, vI, rfl, h⟩ := h
  exact ⟨_, _, _, _, _, _, _, _, rfl, (h.weak h1).up h2 h3⟩
end
end
end Go.Proofs.YtmdlginjblnfoaaGreat

/- Plain: the network of some nodes, as the reference makes it, is the program's. No condition on any program. -/
namespace Go.Proofs.YtmdlginjblnfoaaGreat
set_option linter.unusedVariables false

/-- the ports that lie between two of the nodes -/
def kpB (N : NetD) (zs : List Int) (v i : Nat) : Bool := decide ((v : Int) ∈ zs) && decide ((nthE (nthL N.ends v) i).1 ∈ zs)
/-- the kept ends of a node, the ports numbered anew -/
def cutRow (N : NetD) (kp : Nat → Nat → Bool) (v m : Nat) : List (Int × Int) := ((List.range m).filter (kp v)).map fun i => ((nthE (nthL N.ends v) i).1, ((cntK kp (nthE (nthL N.ends v) i).1.toNat (nthE (nthL N.ends v) i).2.toNat : Nat) : Int))
theorem cutRow_yes {N : NetD} {kp : Nat → Nat → Bool} {v m : Nat} (h : kp v m = true) : cutRow N kp v (m + 1) = cutRow N kp v m ++ [((nthE (nthL N.ends v) m).1, ((cntK kp (nthE (nthL N.ends v) m).1.toNat (nthE (nthL N.ends v) m).2.toNat : Nat) : Int))] := by simp [cutRow, List.range_succ, h]
theorem cutRow_no {N : NetD} {kp : Nat → Nat → Bool} {v m : Nat} (h : kp v m = false) : cutRow N kp v (m + 1) = cutRow N kp v m := by simp [cutRow, List.range_succ, h]
/-- where each node goes -/
def toOf (n : Nat) (zs : List Int) : List Int := numL (List.replicate n 0) 0 zs
section
variable {N : NetD} {zs : List Int}
theorem pick_mem (hz : PickOk N zs) {w : Nat} : (w : Int) ∈ zs ↔ ∃ q, q < zs.length ∧ nth zs q = (w : Int) := by
  constructor
  · intro h
    obtain ⟨q, hq, e⟩ := List.mem_iff_getElem.1 h
    exact ⟨q, hq, by rw [nth_eq hq, e]⟩
  · rintro ⟨q, hq, e⟩; rw [← e]; exact nth_mem hq
theorem toOf_at (hz : PickOk N zs) {k w : Nat} (hk : k < zs.length) (hw : nth zs k = (w : Int)) : nth (toOf N.ends.length zs) w = (k : Int) := by
  have h := numL_at zs (List.replicate N.ends.length 0) 0 k hk (fun i j hi hj e => by
    obtain ⟨a, ea, _⟩ := hz.node i hi
    obtain ⟨b, eb, _⟩ := hz.node j hj
    rw [ea, eb, Int.toNat_natCast, Int.toNat_natCast] at e
    exact hz.once i j hi hj (by rw [ea, eb, e])) (fun z hzm => by
    obtain ⟨i, hi, e⟩ := List.mem_iff_getElem.1 hzm
    obtain ⟨a, ea, ha⟩ := hz.node i hi
    rw [nth_eq hi, e] at ea
    rw [ea, Int.toNat_natCast, List.length_replicate]; exact ha)
  rw [hw, Int.toNat_natCast, Nat.zero_add] at h
  exact h
theorem kpB_ok (hg : N.good = true) (hz : PickOk N zs) : KeepOk N zs (kpB N zs) := by
  refine ⟨fun k v i w j hk hv hi hkp he => ?_⟩
  unfold kpB at hkp
  rw [he, Bool.and_eq_true, decide_eq_true_eq, decide_eq_true_eq] at hkp
  obtain ⟨t, et, ht⟩ := hz.node k hk
  have hvn : v < N.ends.length := by rw [hv] at et; omega
  obtain ⟨w', j', e1, h1, h2, h3⟩ := good_end hg hvn hi
  rw [he] at e1
  simp only [Prod.mk.injEq] at e1
  have ew : w = w' := by omega
  have ej : j = j' := by omega
  subst ew ej
  refine ⟨?_, (pick_mem hz).1 hkp.2⟩
  unfold kpB
  rw [h3, Bool.and_eq_true, decide_eq_true_eq, decide_eq_true_eq]
  exact ⟨hkp.2, hkp.1⟩
/-- THE REFERENCE'S ROWS ARE THE PROGRAM'S -/
theorem cut_part {kp : Nat → Nat → Bool} (hg : N.good = true) (hz : PickOk N zs) (hK : KeepOk N zs kp) {k v : Nat} (hk : k < zs.length) (hv : nth zs k = (v : Int)) : ∀ m, m ≤ (nthL N.ends v).length → mapEnds (toOf N.ends.length zs) (cutRow N kp v m) = castL (partRow N kp (allU N kp zs zs.length) v m)
  | 0, _ => by simp [cutRow, mapEnds, partRow, castL]
  | m + 1, hm => by
    have ih := cut_part hg hz hK hk hv m (by omega)
    cases hb : kp v m with
    | false => rw [cutRow_no hb, partRow_no hb]; exact ih
    | true =>
      have hi : m < (nthL N.ends v).length := by omega
      obtain ⟨t, et, ht⟩ := hz.node k hk
      have hvn : v < N.ends.length := by rw [hv] at et; omega
      obtain ⟨w, j, he, h1, h2, h3⟩ := good_end hg hvn hi
      obtain ⟨hkw, q, hq, hqw⟩ := hK.pair k v m w j hk hv hi hb he
      rw [cutRow_yes hb, partRow_yes hb, castL_snoc, he]
      have hp := part_place hz hqw h2 hkw zs.length (Nat.le_refl _) hq
      dsimp only
      rw [hp]
      unfold mapEnds at ih ⊢
      rw [List.map_append, ih]
      simp only [List.map_cons, List.map_nil, Int.toNat_natCast, castP]
      rw [toOf_at hz hq hqw]
end
end Go.Proofs.YtmdlginjblnfoaaGreat

/- Plain: distances in a network of kept ports; networks of the same nodes have the same distances. No condition on any program. -/
namespace Go.Proofs.YtmdlginjblnfoaaGreat
set_option linter.unusedVariables false

/-- the nodes of two networks correspond, and so do their edges -/
structure Corr (P Q : NetD) (R : Nat → Nat → Prop) : Prop where
  go : ∀ u a s, R u a → Adj P u s → ∃ b, R s b ∧ Adj Q a b
  back : ∀ u a b, R u a → Adj Q a b → ∃ s, R s b ∧ Adj P u s
  one : ∀ u a b, R u a → R u b → a = b
  own : ∀ u v a, R u a → R v a → u = v
  inP : ∀ u a, R u a → u < P.ends.length
  inQ : ∀ u a, R u a → a < Q.ends.length
section
variable {P Q : NetD} {R : Nat → Nat → Prop}
theorem Corr.way (h : Corr P Q R) {u a : Nat} (hr : R u a) : ∀ {k t : Nat}, way P k u t → ∃ b, R t b ∧ way Q k a b
  | 0, t, e => by
    have e : u = t := e
    subst e
    exact ⟨a, hr, rfl⟩
  | k + 1, t, ⟨s, h1, h2⟩ => by
    obtain ⟨b, hb, hw⟩ := Corr.way h hr h1
    obtain ⟨c, hc, ha⟩ := h.go s b t hb h2
    exact ⟨c, hc, b, hw, ha⟩
theorem Corr.wayB (h : Corr P Q R) {u a : Nat} (hr : R u a) : ∀ {k b : Nat}, Go.Proofs.YtmdlginjblnfoaaGreat.way Q k a b → ∃ t, R t b ∧ Go.Proofs.YtmdlginjblnfoaaGreat.way P k u t
  | 0, b, e => by
    have e : a = b := e
    subst e
    exact ⟨u, hr, rfl⟩
  | k + 1, b, ⟨c, h1, h2⟩ => by
    obtain ⟨s, hs, hw⟩ := Corr.wayB h hr h1
    obtain ⟨t, ht, ha⟩ := h.back s c b hs h2
    exact ⟨t, ht, s, hw, ha⟩
/-- what is reached corresponds to something, at the same distance -/
theorem Corr.dist (h : Corr P Q R) (hP : P.nodes) (hQ : Q.nodes) {u a t : Nat} (hr : R u a) (ht : t < P.ends.length) (h0 : 0 ≤ nth (dist P u) t) : ∃ b, R t b ∧ nth (Go.Proofs.YtmdlginjblnfoaaGreat.dist Q a) b = nth (Go.Proofs.YtmdlginjblnfoaaGreat.dist P u) t := by
  obtain ⟨b, hb, hw⟩ := h.way hr (dist_way hP (h.inP _ _ hr) ht h0)
  obtain ⟨k1, k2⟩ := dist_le hQ (h.inQ _ _ hr) hw
  obtain ⟨s, hs, hw2⟩ := h.wayB hr (dist_way hQ (h.inQ _ _ hr) (h.inQ _ _ hb) k1)
  obtain rfl := h.own _ _ _ hs hb
  obtain ⟨k3, k4⟩ := dist_le hP (h.inP _ _ hr) hw2
  exact ⟨b, hb, by omega⟩
theorem Corr.eq (h : Corr P Q R) (hP : P.nodes) (hQ : Q.nodes) {u a t b : Nat} (hr : R u a) (hs : R t b) : nth (Go.Proofs.YtmdlginjblnfoaaGreat.dist Q a) b = nth (Go.Proofs.YtmdlginjblnfoaaGreat.dist P u) t := by
  by_cases h0 : 0 ≤ nth (Go.Proofs.YtmdlginjblnfoaaGreat.dist P u) t
  · obtain ⟨c, hc, e⟩ := h.dist hP hQ hr (h.inP _ _ hs) h0
    rw [h.one _ _ _ hs hc]; exact e
  · have l1 := (dist_low hP (h.inP _ _ hr) (h.inP _ _ hs)).1
    have l2 := (dist_low hQ (h.inQ _ _ hr) (h.inQ _ _ hs)).1
    by_cases h1 : 0 ≤ nth (Go.Proofs.YtmdlginjblnfoaaGreat.dist Q a) b
    · obtain ⟨s, hs2, hw⟩ := h.wayB hr (dist_way hQ (h.inQ _ _ hr) (h.inQ _ _ hs) h1)
      obtain rfl := h.own _ _ _ hs2 hs
      exact absurd (dist_le hP (h.inP _ _ hr) hw).1 h0
    · omega
end
section
variable {N : NetD} {kp : Nat → Nat → Bool} {zs : List Int}
/-- all nodes in order -/
def allV (n : Nat) : List Int := (List.range n).map fun (v : Nat) => (v : Int)
theorem allV_len (n : Nat) : (allV n).length = n := by simp [allV]
theorem nth_allV {n v : Nat} (h : v < n) : nth (allV n) v = (v : Int) := by simp [nth, allV, h]
/-- ports kept between nodes that satisfy something -/
structure KeepS (N : NetD) (S : Nat → Nat → Prop) (kp : Nat → Nat → Bool) : Prop where
  is : ∀ v i w : Nat, v < N.ends.length → i < (nthL N.ends v).length → (nthE (nthL N.ends v) i).1 = (w : Int) → (kp v i = true ↔ S v w)
theorem KeepS.ok {S : Nat → Nat → Prop} (hg : N.good = true) (h : KeepS N S kp) (hs : ∀ v w, S v w → S w v) : KeepOk N (allV N.ends.length) kp := by
  refine ⟨fun k v i w j hk hv hi hkp he => ?_⟩
  rw [allV_len] at hk
  rw [nth_allV hk] at hv
  obtain rfl : k = v := by omega
  obtain ⟨w', j', e1, h1, h2, h3⟩ := good_end hg hk hi
  rw [he] at e1
  simp only [Prod.mk.injEq] at e1
  have ew : w = w' := by omega
  have ej : j = j' := by omega
  subst ew ej
  have := (h.is k i w hk hi (by rw [he])).1 hkp
  exact ⟨(h.is w j k h1 h2 (by rw [h3])).2 (hs _ _ this), w, by rw [allV_len]; exact h1, nth_allV h1⟩
end
end Go.Proofs.YtmdlginjblnfoaaGreat
