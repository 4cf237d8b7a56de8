/-
  Several texts in one: CanP. No condition on any program.
-/
import Derived.Test.YtmdlginjblnfoaaGreatCzK
import Derived.Test.YtmdlginjblnfoaaGreatCzJ

/- Plain: the canonical order lists each node once; the canonical network and its components as networks of kept ports. No condition on any program. -/
namespace Go.Proofs.YtmdlginjblnfoaaGreat
set_option linter.unusedVariables false

theorem mem_wkStep {L : List Int} {x y : Int} : x ∈ wkStep L y ↔ x ∈ L ∨ x = y := by
  unfold wkStep
  split
  · rename_i h
    exact ⟨.inl, fun e => e.elim id fun e => by rw [e]; exact h⟩
  · simp
theorem mem_wkRow {N : NetD} {L : List Int} {u : Nat} {x : Int} : ∀ m, m ≤ (nbs N u).length → (x ∈ wkRow N L u m ↔ x ∈ L ∨ ∃ i, i < m ∧ x = nth (nbs N u) i)
  | 0, _ => by rw [wkRow_zero]; exact ⟨.inl, fun h => h.elim id fun ⟨i, hi, _⟩ => absurd hi (by omega)⟩
  | m + 1, hm => by
    rw [wkRow_succ _ _ _ (by omega), mem_wkStep, mem_wkRow m (by omega)]
    constructor
    · rintro ((h | ⟨i, hi, e⟩) | e)
      · exact .inl h
      · exact .inr ⟨i, by omega, e⟩
      · exact .inr ⟨m, by omega, e⟩
    · rintro (h | ⟨i, hi, e⟩)
      · exact .inl (.inl h)
      · by_cases e2 : i = m
        · subst e2; exact .inr e
        · exact .inl (.inr ⟨i, by omega, e⟩)
/-- what was found is reached; the neighbours of the first a have been found -/
structure WkIn (N : NetD) (v a : Nat) (L : List Int) : Prop where
  way : ∀ t : Nat, (t : Int) ∈ L → ∃ k, way N k v t
  near : ∀ i u j, i < a → nth L i = ((u : Nat) : Int) → j < (nbs N u).length → nth (nbs N u) j ∈ L
theorem start_eq {N : NetD} {v t : Nat} (h : (t : Int) ∈ [(v : Int)]) : way N 0 v t := by
  have : (t : Int) = v := by simpa using h
  show v = t
  omega
theorem nodup_inj {l : List Int} (h : l.Nodup) {a b : Nat} (ha : a < l.length) (hb : b < l.length) (e : l[a] = l[b]) : a = b := by
  have key := List.pairwise_iff_getElem.1 h
  rcases Nat.lt_trichotomy a b with h1 | h1 | h1
  · exact absurd e (key a b ha hb h1)
  · exact h1
  · exact absurd e.symm (key b a hb ha h1)
theorem walk_in {N : NetD} (hN : N.nodes) {v : Nat} (hv : v < N.ends.length) : WkIn N v (walkN N v).length (walkN N v) := by
  have key : ∀ f a L, WkTop N v a L → WkIn N v a L → N.ends.length - a = f → ∃ L', WkTop N v L'.length L' ∧ WkIn N v L'.length L' := by
    intro f
    induction f with
    | zero =>
      intro a L h hi e
      have := h.ok.len; have := h.le
      have e2 : L.length = a := by omega
      exact ⟨L, by rw [e2]; exact h, by rw [e2]; exact hi⟩
    | succ f ih =>
      intro a L h hi e
      by_cases ha : a < L.length
      · obtain ⟨u, hu, hun⟩ := h.ok.at_ ha
        have hp := wkRow_pre N L u _ (Nat.le_refl _)
        refine ih (a + 1) _ (h.next hN ha hu hun) ⟨fun t ht => ?_, fun i s j hia hs hj => ?_⟩ (by omega)
        · rcases (mem_wkRow _ (Nat.le_refl _)).1 ht with ht | ⟨i, hil, e2⟩
          · exact hi.way t ht
          · obtain ⟨k, hk⟩ := hi.way u (by rw [← hu]; exact nth_mem ha)
            rw [nbs_length] at hil
            obtain ⟨s, es, hs⟩ := hN u hun i hil
            rw [nth_nbs N u hil, es] at e2
            have : t = s := by omega
            subst this
            exact ⟨k + 1, u, hk, hun, hs, i, hil, es⟩
        · by_cases e2 : i = a
          · subst e2
            rw [nth_pre hp ha, hu] at hs
            have : u = s := by omega
            subst this
            exact (mem_wkRow _ (Nat.le_refl _)).2 (.inr ⟨j, hj, rfl⟩)
          · rw [nth_pre hp (by omega)] at hs
            exact hp.subset (hi.near i s j (by omega) hs hj)
      · have e2 : L.length = a := by have := h.le; omega
        exact ⟨L, by rw [e2]; exact h, by rw [e2]; exact hi⟩
  obtain ⟨L, h, hi⟩ := key _ 0 _ (WkTop.start hv) ⟨fun t ht => ⟨0, start_eq ht⟩, fun i u j hi => absurd hi (by omega)⟩ rfl
  rw [h.stop]; exact hi
theorem walk_closed {N : NetD} (hN : N.nodes) {v : Nat} (hv : v < N.ends.length) {s t : Nat} (hs : (s : Int) ∈ walkN N v) (ha : Adj N s t) : (t : Int) ∈ walkN N v := by
  obtain ⟨i, hi, e⟩ := List.mem_iff_getElem.1 hs
  obtain ⟨h1, h2, j, hj, e2⟩ := ha
  have := (walk_in hN hv).near i s j hi (by rw [nth_eq hi, e]) (by rw [nbs_length]; exact hj)
  rw [nth_nbs N s hj, e2] at this
  exact this
/-- the walk finds what is reached -/
theorem walk_reach {N : NetD} (hN : N.nodes) {v t : Nat} (hv : v < N.ends.length) (ht : t < N.ends.length) : (t : Int) ∈ walkN N v ↔ Reach N v t := by
  constructor
  · intro h
    obtain ⟨k, hk⟩ := (walk_in hN hv).way t h
    exact (dist_le hN hv hk).1
  · intro h
    have key : ∀ k s, way N k v s → (s : Int) ∈ walkN N v := by
      intro k
      induction k with
      | zero => intro s e; have e : v = s := e
                rw [← e]; exact walk_pos hN hv
      | succ k ih => intro s ⟨r, h1, h2⟩; exact walk_closed hN hv (ih r h1) h2
    exact key _ _ (dist_way hN hv ht h)
theorem walk_perm {N : NetD} (hg : N.good = true) {u v : Nat} (hu : u < N.ends.length) (hv : v < N.ends.length) (h : (u : Int) ∈ walkN N v) : (walkN N u).Perm (walkN N v) := by
  have hN := good_nodes hg
  have hr := (walk_reach hN hv hu).1 h
  refine (List.perm_ext_iff_of_nodup (walk_ok hN hu).nodup (walk_ok hN hv).nodup).2 fun x => ?_
  constructor
  · intro hx
    obtain ⟨t, rfl, ht⟩ := (walk_ok hN hu).node x hx
    exact (walk_reach hN hv ht).2 (hr.trans hg hv hu ht ((walk_reach hN hu ht).1 hx))
  · intro hx
    obtain ⟨t, rfl, ht⟩ := (walk_ok hN hv).node x hx
    exact (walk_reach hN hu ht).2 ((hr.symm hg hv hu).trans hg hu hv ht ((walk_reach hN hv ht).1 hx))
theorem compTo_is {N : NetD} (hg : N.good = true) {v : Nat} (hv : v < N.ends.length) : ∀ k, k ≤ (nodesOf N v).length → ((compTo N v k).cnt = 0 ∧ k = 0) ∨ ∃ u : Nat, u < N.ends.length ∧ (u : Int) ∈ walkN N v ∧ (compTo N v k).walk = walkN N u
  | 0, _ => .inl ⟨rfl, rfl⟩
  | k + 1, h => by
    have ih := compTo_is hg hv k (by omega)
    have hc := compTo_walk hg hv k (by omega)
    obtain ⟨t, et, ht⟩ := nodes_mem hg hv (show k < (nodesOf N v).length by omega)
    have htm : (t : Int) ∈ walkN N v := by
      have := nth_mem (show k < (nodesOf N v).length by omega)
      rw [et] at this
      exact (sortI_perm _).mem_iff.1 this
    rw [compTo_succ N v (by omega), et]
    right
    unfold cmpStep
    rw [Int.toNat_natCast]
    split
    · exact ⟨t, ht, htm, rfl⟩
    · rename_i h1
      have h2 : ∃ u : Nat, u < N.ends.length ∧ (u : Int) ∈ walkN N v ∧ (compTo N v k).walk = walkN N u := by
        rcases ih with ih | ih
        · exact absurd (.inl ih.1) h1
        · exact ih
      split
      · exact h2
      · exact h2
theorem compD_walk {N : NetD} (hg : N.good = true) {v : Nat} (hv : v < N.ends.length) : (compD N v).walk.Perm (walkN N v) ∧ ∃ u : Nat, u < N.ends.length ∧ (compD N v).walk = walkN N u := by
  have hpos : 0 < (nodesOf N v).length := by unfold nodesOf; rw [sortI_length]; exact List.length_pos_of_mem (walk_pos (good_nodes hg) hv)
  rcases compTo_is hg hv _ (Nat.le_refl _) with ⟨_, h⟩ | ⟨u, h1, h2, h3⟩
  · omega
  · unfold compD
    rw [h3]
    exact ⟨walk_perm hg h1 hv h2, u, h1, rfl⟩
/-- the nodes that have been listed -/
structure StIs (N : NetD) (k : Nat) : Prop where
  nodup : (stC N k).2.Nodup
  mem : ∀ t : Nat, t < N.ends.length → ((t : Int) ∈ (stC N k).2 ↔ ∃ j, j < k ∧ Reach N j t)
  node : ∀ x ∈ (stC N k).2, ∃ t : Nat, x = t ∧ t < N.ends.length
  flat : ((stC N k).1.flatMap CmpD.walk).Perm (stC N k).2
  walk : ∀ c ∈ (stC N k).1, ∃ u : Nat, u < N.ends.length ∧ c.walk = walkN N u
theorem stC_is {N : NetD} (hg : N.good = true) : ∀ k, k ≤ N.ends.length → StIs N k
  | 0, _ => ⟨by simp [stC], (fun t _ => by simp [stC]), by simp [stC], by simp [stC], by simp [stC]⟩
  | k + 1, h => by
    have ih := stC_is hg k (by omega)
    have hk : k < N.ends.length := by omega
    have hN := good_nodes hg
    by_cases hin : (k : Int) ∈ (stC N k).2
    · have e : stC N (k + 1) = stC N k := by simp only [stC]; rw [if_pos hin]
      refine ⟨by rw [e]; exact ih.nodup, fun t ht => ?_, by rw [e]; exact ih.node, by rw [e]; exact ih.flat, by rw [e]; exact ih.walk⟩
      rw [e, ih.mem t ht]
      constructor
      · rintro ⟨j, hj, hr⟩; exact ⟨j, by omega, hr⟩
      · rintro ⟨j, hj, hr⟩
        by_cases ej : j = k
        · subst ej
          obtain ⟨i, hi, hr2⟩ := (ih.mem j hk).1 hin
          exact ⟨i, hi, hr2.trans hg (by omega) hk ht hr⟩
        · exact ⟨j, by omega, hr⟩
    · have e1 : (stC N (k + 1)).1 = (stC N k).1 ++ [compD N k] := by simp only [stC]; rw [if_neg hin]
      have e2 : (stC N (k + 1)).2 = (stC N k).2 ++ nodesOf N k := by simp only [stC]; rw [if_neg hin]
      have hnm : ∀ x, x ∈ nodesOf N k ↔ x ∈ walkN N k := fun x => (sortI_perm _).mem_iff
      refine ⟨?_, fun t ht => ?_, fun x hx => ?_, ?_, fun c hc => ?_⟩
      · rw [e2, List.nodup_append]
        refine ⟨ih.nodup, (sortI_perm _).nodup_iff.2 (walk_ok hN hk).nodup, fun a ha b hb => ?_⟩
        rintro rfl
        apply hin
        obtain ⟨t, rfl, ht⟩ := ih.node a ha
        obtain ⟨j, hj, hr⟩ := (ih.mem t ht).1 ha
        have hr2 := (walk_reach hN hk ht).1 ((hnm _).1 hb)
        exact (ih.mem k hk).2 ⟨j, hj, hr.trans hg (by omega) ht hk (hr2.symm hg hk ht)⟩
      · rw [e2, List.mem_append, hnm, walk_reach hN hk ht, ih.mem t ht]
        constructor
        · rintro (⟨j, hj, hr⟩ | hr)
          · exact ⟨j, by omega, hr⟩
          · exact ⟨k, by omega, hr⟩
        · rintro ⟨j, hj, hr⟩
          by_cases ej : j = k
          · subst ej; exact .inr hr
          · exact .inl ⟨j, by omega, hr⟩
      · rw [e2, List.mem_append, hnm] at hx
        rcases hx with hx | hx
        · exact ih.node x hx
        · exact (walk_ok hN hk).node x hx
      · rw [e1, e2, List.flatMap_append]
        refine ih.flat.append ?_
        simp only [List.flatMap_cons, List.flatMap_nil, List.append_nil]
        exact (compD_walk hg hk).1.trans (sortI_perm _).symm
      · rw [e1, List.mem_append, List.mem_singleton] at hc
        rcases hc with hc | rfl
        · exact ih.walk c hc
        · exact (compD_walk hg hk).2
/-- all nodes, component after component -/
def flatN (N : NetD) : List Int := (sortedC N).flatMap CmpD.walk
theorem flat_pick {N : NetD} (hg : N.good = true) : PickOk N (flatN N) ∧ (flatN N).length = N.ends.length ∧ ∀ t : Nat, t < N.ends.length → (t : Int) ∈ flatN N := by
  have hst := stC_is hg _ (Nat.le_refl N.ends.length)
  have hp : (flatN N).Perm (stC N N.ends.length).2 := ((sortedC_spec N).2.flatMap_right _).trans hst.flat
  have hnd : (flatN N).Nodup := hp.nodup_iff.2 hst.nodup
  have hmem : ∀ t : Nat, t < N.ends.length → (t : Int) ∈ flatN N := fun t ht => hp.mem_iff.2 ((hst.mem t ht).2 ⟨t, ht, Reach.self hg ht⟩)
  have hnode : ∀ x ∈ flatN N, ∃ t : Nat, x = t ∧ t < N.ends.length := fun x hx => hst.node x (hp.mem_iff.1 hx)
  refine ⟨⟨fun k hk => hnode _ (nth_mem hk), fun a b ha hb e => ?_⟩, ?_, hmem⟩
  · rw [nth_eq ha, nth_eq hb] at e
    exact nodup_inj hnd ha hb e
  · have h1 := (show WkOk N (flatN N) from ⟨hnd, hnode⟩).len
    have h2 := nodupI_len (allV N.ends.length) (flatN N) (by
      unfold allV
      exact List.pairwise_map.2 (List.nodup_range.imp fun h e => h (by omega))) (fun x hx => by
      unfold allV at hx
      obtain ⟨t, ht, rfl⟩ := List.mem_map.1 hx
      exact hmem t (List.mem_range.1 ht))
    rw [allV_len] at h2
    omega
theorem sorted_walk {N : NetD} (hg : N.good = true) {c : CmpD} (hc : c ∈ sortedC N) : ∃ u : Nat, u < N.ends.length ∧ c.walk = walkN N u :=
  (stC_is hg _ (Nat.le_refl N.ends.length)).walk c ((sortedC_spec N).2.mem_iff.1 hc)
theorem canonL_to (N : NetD) : canonL N = toOf N.ends.length (flatN N) := by unfold canonL; rw [ordTo_numL]; rfl
/-- all ports -/
def kpT : Nat → Nat → Bool := fun _ _ => true
theorem cntK_all {kp : Nat → Nat → Bool} {v : Nat} : ∀ m, (∀ i, i < m → kp v i = true) → cntK kp v m = m
  | 0, _ => rfl
  | m + 1, h => by rw [cntK_succ, cntK_all m (fun i hi => h i (by omega)), if_pos (h m (by omega))]
theorem cntK_T (v m : Nat) : cntK kpT v m = m := cntK_all m fun _ _ => rfl
/-- a list of nodes that holds all neighbours of its nodes -/
def Shut (N : NetD) (zs : List Int) : Prop := ∀ v w : Nat, (v : Int) ∈ zs → Adj N v w → (w : Int) ∈ zs
theorem Shut.keep {N : NetD} {zs : List Int} (hg : N.good = true) (hz : PickOk N zs) (h : Shut N zs) : KeepOk N zs kpT := by
  refine ⟨fun k v i w j hk hv hi _ he => ⟨rfl, (pick_mem hz).1 (h v w (by rw [← hv]; exact nth_mem hk) ?_)⟩⟩
  obtain ⟨t, et, ht⟩ := hz.node k hk
  have hvn : v < N.ends.length := by rw [hv] at et; omega
  obtain ⟨w', j', e1, h1, h2, h3⟩ := good_end hg hvn hi
  rw [he] at e1
  simp only [Prod.mk.injEq] at e1
  have ew : w = w' := by omega
  subst ew
  exact ⟨hvn, h1, i, hi, by rw [he]⟩
theorem walk_pick {N : NetD} (hN : N.nodes) {v : Nat} (hv : v < N.ends.length) : PickOk N (walkN N v) :=
  ⟨fun k hk => (walk_ok hN hv).at_ hk, fun a b ha hb e => by
    rw [nth_eq ha, nth_eq hb] at e
    exact nodup_inj (walk_ok hN hv).nodup ha hb e⟩
theorem walk_shut {N : NetD} (hN : N.nodes) {v : Nat} (hv : v < N.ends.length) : Shut N (walkN N v) := fun _ _ hs ha => walk_closed hN hv hs ha

section
variable {N : NetD} {zs : List Int}
theorem to_inv (hz : PickOk N zs) {j k : Nat} (hk : k < zs.length) (hv : nth zs k = (j : Int)) : (nth (toOf N.ends.length zs) j).toNat = k := by rw [toOf_at hz hk hv, Int.toNat_natCast]
/-- what renumbering has left at the first nodes -/
theorem renTo_at (hg : N.good = true) (hz : PickOk N zs) (hl : zs.length = N.ends.length) (hall : ∀ t : Nat, t < N.ends.length → (t : Int) ∈ zs) : ∀ K, K ≤ N.ends.length → ∀ j k, j < K → k < zs.length → nth zs k = (j : Int) →
    nthL (renTo N (toOf N.ends.length zs) K).ends k = mapEnds (toOf N.ends.length zs) (nthL N.ends j) ∧ (0 < N.ids.length → nth (renTo N (toOf N.ends.length zs) K).ids k = nth N.ids j) ∧ nth (renTo N (toOf N.ends.length zs) K).inputs k = nth N.inputs j
  | 0, _, j, k, hj, _, _ => absurd hj (by omega)
  | K + 1, hK, j, k, hj, hk, hv => by
    obtain ⟨l1, l2, l3⟩ := renTo_len N (toOf N.ends.length zs) K
    obtain ⟨q, hq, hqK⟩ := (pick_mem hz).1 (hall K (by omega))
    have hp := to_inv hz hq hqK
    have hidl := good_idsl hg
    have hinl := good_insl hg
    show nthL (List.set _ _ _) k = _ ∧ (0 < N.ids.length → nth (if 0 < N.ids.length then _ else _) k = _) ∧ nth (List.set _ _ _) k = _
    rw [hp]
    have hset : ∀ (a b : List (List (Int × Int))) (x : List (Int × Int)), q < a.length → nthL (a.set q x) k = if k = q then x else nthL a k := fun a b x ha => by
      unfold nthL
      simp only [List.getD_eq_getElem?_getD, List.getElem?_set]
      by_cases e : q = k
      · subst e; simp [ha]
      · rw [if_neg e, if_neg (fun h => e h.symm)]
    rw [hset _ [] _ (by omega), nth_set _ _ _ _ (by omega)]
    by_cases e : k = q
    · subst e
      rw [hv] at hqK
      have : j = K := by omega
      subst this
      refine ⟨by rw [if_pos rfl], fun h0 => ?_, by rw [if_pos rfl]⟩
      rw [if_pos h0, nth_set _ _ _ _ (by omega), if_pos rfl]
    · have hjK : j < K := by
        by_cases e2 : j = K
        · subst e2; exact absurd (hz.once k q hk hq (by rw [hv, hqK])) e
        · omega
      obtain ⟨h1, h2, h3⟩ := renTo_at hg hz hl hall K (by omega) j k hjK hk hv
      refine ⟨by rw [if_neg e]; exact h1, fun h0 => ?_, by rw [if_neg e]; exact h3⟩
      rw [if_pos h0, nth_set _ _ _ _ (by omega), if_neg e]
      exact h2 h0
theorem all_shut (hall : ∀ t : Nat, t < N.ends.length → (t : Int) ∈ zs) : Shut N zs := fun v w _ h => hall w h.2.1
theorem nthE_mapEnds (p : List Int) {l : List (Int × Int)} {i : Nat} (h : i < l.length) : nthE (mapEnds p l) i = (nth p (nthE l i).1.toNat, (nthE l i).2) := by
  simp [nthE, mapEnds, h]
/-- RENUMBERED: the network of all ports, the nodes in the order of their numbers -/
theorem ren_part (hg : N.good = true) (hz : PickOk N zs) (hl : zs.length = N.ends.length) (hall : ∀ t : Nat, t < N.ends.length → (t : Int) ∈ zs) : renN N (toOf N.ends.length zs) = partN N zs kpT := by
  obtain ⟨l1, l2, l3⟩ := renTo_len N (toOf N.ends.length zs) N.ends.length
  have hidl := good_idsl hg
  have hinl := good_insl hg
  have hK := Shut.keep hg hz (all_shut hall)
  have key := renTo_at hg hz hl hall N.ends.length (Nat.le_refl _)
  have e1 : (renN N (toOf N.ends.length zs)).ends = (partN N zs kpT).ends := by
    refine ext_nthL (by rw [part_n, hl]; exact l1) fun k hk => ?_
    have hk' : k < zs.length := by rw [hl, ← l1]; exact hk
    obtain ⟨v, hv, hvn⟩ := hz.node k hk'
    rw [show nthL (renN N (toOf N.ends.length zs)).ends k = _ from (key v k hvn hk' hv).1]
    refine ext_nthE (by rw [mapEnds_len, part_deg hk' hv, cntK_T]) fun i hi => ?_
    rw [mapEnds_len] at hi
    obtain ⟨w, j, he, hw, hj, _⟩ := good_end hg hvn hi
    obtain ⟨q, hq, hqw⟩ := (pick_mem hz).1 (hall w hw)
    have hpe := part_end hz hK hg hk' hv hi rfl he hq hqw
    rw [cntK_T, cntK_T] at hpe
    rw [hpe, nthE_mapEnds _ hi, he]
    dsimp only
    rw [Int.toNat_natCast, toOf_at hz hq hqw]
  have e2 : (renN N (toOf N.ends.length zs)).ids = (partN N zs kpT).ids := by
    show (renN N (toOf N.ends.length zs)).ids = if 0 < N.ids.length then pickL N.ids zs else []
    by_cases h0 : 0 < N.ids.length
    · rw [if_pos h0]
      have hidn : N.ids.length = N.ends.length := by rcases hidl with h | h <;> omega
      refine ext_nth (by rw [pickL_len, hl]; exact l2.trans hidn) fun k hk => ?_
      have hk' : k < zs.length := by rw [show (renN N (toOf N.ends.length zs)).ids.length = _ from l2] at hk; omega
      obtain ⟨v, hv, hvn⟩ := hz.node k hk'
      rw [show nth (renN N (toOf N.ends.length zs)).ids k = _ from (key v k hvn hk' hv).2.1 h0, nth_pickL hk', hv, Int.toNat_natCast]
    · rw [if_neg h0]
      exact List.eq_nil_of_length_eq_zero (by rw [show (renN N (toOf N.ends.length zs)).ids.length = _ from l2]; omega)
  have e3 : (renN N (toOf N.ends.length zs)).inputs = (partN N zs kpT).inputs := by
    show (renN N (toOf N.ends.length zs)).inputs = pickL N.inputs zs
    refine ext_nth (by rw [pickL_len, hl]; exact l3.trans hinl) fun k hk => ?_
    have hk' : k < zs.length := by rw [show (renN N (toOf N.ends.length zs)).inputs.length = _ from l3] at hk; omega
    obtain ⟨v, hv, hvn⟩ := hz.node k hk'
    rw [show nth (renN N (toOf N.ends.length zs)).inputs k = _ from (key v k hvn hk' hv).2.2, nth_pickL hk', hv, Int.toNat_natCast]
  calc renN N (toOf N.ends.length zs) = ⟨(renN N (toOf N.ends.length zs)).ends, (renN N (toOf N.ends.length zs)).ids, (renN N (toOf N.ends.length zs)).inputs⟩ := rfl
    _ = ⟨(partN N zs kpT).ends, (partN N zs kpT).ids, (partN N zs kpT).inputs⟩ := by rw [e1, e2, e3]
    _ = partN N zs kpT := rfl
end
/-- numbers from a on -/
def fromL (a n : Nat) : List Int := (List.range n).map fun (k : Nat) => ((a + k : Nat) : Int)
theorem fromL_len (a n : Nat) : (fromL a n).length = n := by simp [fromL]
theorem nth_fromL {a n k : Nat} (h : k < n) : nth (fromL a n) k = ((a + k : Nat) : Int) := by simp [nth, fromL, h]
theorem mem_fromL {a n x : Nat} : ((x : Nat) : Int) ∈ fromL a n ↔ a ≤ x ∧ x < a + n := by
  unfold fromL
  rw [List.mem_map]
  constructor
  · rintro ⟨k, hk, e⟩; rw [List.mem_range] at hk; omega
  · rintro ⟨h1, h2⟩; exact ⟨x - a, List.mem_range.2 (by omega), by omega⟩
theorem nth_mid {a b c : List Int} {k : Nat} (hk : k < b.length) : nth (a ++ b ++ c) (a.length + k) = nth b k := by
  unfold nth
  simp only [List.getD_eq_getElem?_getD]
  rw [List.append_assoc, List.getElem?_append_right (by omega), show a.length + k - a.length = k by omega, List.getElem?_append_left hk]
/-- A PART OF A PART: nodes that lie one behind the other in the network of all ports, closed under neighbours -/
theorem part_part {N : NetD} {a b c : List Int} (hg : N.good = true) (hz : PickOk N (a ++ b ++ c)) (hl : (a ++ b ++ c).length = N.ends.length) (hall : ∀ t : Nat, t < N.ends.length → (t : Int) ∈ a ++ b ++ c) (hb : PickOk N b) (hs : Shut N b) (h0 : 0 < b.length) :
    partN (partN N (a ++ b ++ c) kpT) (fromL a.length b.length) (kpB (partN N (a ++ b ++ c) kpT) (fromL a.length b.length)) = partN N b kpT := by
  obtain ⟨n1, n40⟩ := good_n hg
  have hlen : a.length + b.length + c.length = N.ends.length := by rw [← hl]; simp; omega
  have hK := Shut.keep hg hz (all_shut hall)
  have hKb := Shut.keep hg hb hs
  have hgW := part_good hg hz hK (by omega) (by omega)
  obtain ⟨W, HW⟩ : ∃ W, W = partN N (a ++ b ++ c) kpT := ⟨_, rfl⟩
  rw [← HW] at hgW ⊢
  have hWn : W.ends.length = N.ends.length := by rw [HW, part_n, hl]
  have hpk : PickOk W (fromL a.length b.length) := by
    refine ⟨fun k hk => ?_, fun x y hx hy e => ?_⟩
    · rw [fromL_len] at hk; exact ⟨_, nth_fromL hk, by omega⟩
    · rw [fromL_len] at hx hy; rw [nth_fromL hx, nth_fromL hy] at e; omega
  have hKW := kpB_ok hgW hpk
  have hat : ∀ k, k < b.length → nth (a ++ b ++ c) (a.length + k) = nth b k := fun k hk => nth_mid hk
  have hdeg : ∀ k v : Nat, k < b.length → nth b k = (v : Int) → (nthL W.ends (a.length + k)).length = (nthL N.ends v).length := fun k v hk hv => by
    rw [HW, part_deg (by omega) (by rw [hat k hk]; exact hv), cntK_T]
  have hend : ∀ k v i w j q : Nat, k < b.length → nth b k = (v : Int) → i < (nthL N.ends v).length → nthE (nthL N.ends v) i = ((w : Int), (j : Int)) → q < b.length → nth b q = (w : Int) → nthE (nthL W.ends (a.length + k)) i = (((a.length + q : Nat) : Int), (j : Int)) := fun k v i w j q hk hv hi he hq hw => by
    have h := part_end hz hK hg (k := a.length + k) (by omega) (by rw [hat k hk]; exact hv) hi rfl he (q := a.length + q) (by omega) (by rw [hat q hq]; exact hw)
    rw [cntK_T, cntK_T] at h
    rw [HW]; exact h
  have hto : ∀ k v i : Nat, k < b.length → nth b k = (v : Int) → i < (nthL N.ends v).length → ∃ w j q : Nat, nthE (nthL N.ends v) i = ((w : Int), (j : Int)) ∧ j < (nthL N.ends w).length ∧ q < b.length ∧ nth b q = (w : Int) := fun k v i hk hv hi => by
    obtain ⟨t, et, ht⟩ := hb.node k hk
    have hvn : v < N.ends.length := by rw [hv] at et; omega
    obtain ⟨w, j, he, hw, hj, _⟩ := good_end hg hvn hi
    obtain ⟨_, q, hq, hqw⟩ := hKb.pair k v i w j hk hv hi rfl he
    exact ⟨w, j, q, he, hj, hq, hqw⟩
  have hkp : ∀ k v i : Nat, k < b.length → nth b k = (v : Int) → i < (nthL N.ends v).length → kpB W (fromL a.length b.length) (a.length + k) i = true := fun k v i hk hv hi => by
    obtain ⟨w, j, q, he, hj, hq, hqw⟩ := hto k v i hk hv hi
    unfold kpB
    rw [hend k v i w j q hk hv hi he hq hqw, Bool.and_eq_true, decide_eq_true_eq, decide_eq_true_eq]
    exact ⟨mem_fromL.2 (by omega), mem_fromL.2 (by omega)⟩
  have hcnt : ∀ k v m : Nat, k < b.length → nth b k = (v : Int) → m ≤ (nthL N.ends v).length → cntK (kpB W (fromL a.length b.length)) (a.length + k) m = m := fun k v m hk hv hm => cntK_all m fun i hi => hkp k v i hk hv (by omega)
  have e1 : (partN W (fromL a.length b.length) (kpB W (fromL a.length b.length))).ends = (partN N b kpT).ends := by
    refine ext_nthL (by rw [part_n, part_n, fromL_len]) fun k hk => ?_
    rw [part_n, fromL_len] at hk
    obtain ⟨v, hv, hvn⟩ := hb.node k hk
    have hkf : k < (fromL a.length b.length).length := by rw [fromL_len]; exact hk
    refine ext_nthE ?_ fun i hi => ?_
    · rw [part_deg hkf (nth_fromL hk), part_deg hk hv, hdeg k v hk hv, hcnt k v _ hk hv (Nat.le_refl _), cntK_T]
    · rw [part_deg hkf (nth_fromL hk), hdeg k v hk hv, hcnt k v _ hk hv (Nat.le_refl _)] at hi
      obtain ⟨w, j, q, he, hj, hq, hqw⟩ := hto k v i hk hv hi
      have h1 := part_end hpk hKW hgW hkf (nth_fromL hk) (i := i) (by rw [hdeg k v hk hv]; exact hi) (hkp k v i hk hv hi) (hend k v i w j q hk hv hi he hq hqw) (q := q) (by rw [fromL_len]; exact hq) (nth_fromL hq)
      rw [hcnt k v i hk hv (by omega), hcnt q w j hq hqw (by omega)] at h1
      have h2 := part_end hb hKb hg hk hv hi rfl he hq hqw
      rw [cntK_T, cntK_T] at h2
      rw [h1, h2]
  have hpick : ∀ l : List Int, pickL (pickL l (a ++ b ++ c)) (fromL a.length b.length) = pickL l b := fun l => by
    refine ext_nth (by rw [pickL_len, pickL_len, fromL_len]) fun k hk => ?_
    rw [pickL_len, fromL_len] at hk
    rw [nth_pickL (by rw [fromL_len]; exact hk), nth_fromL hk, Int.toNat_natCast, nth_pickL (by omega), hat k hk, nth_pickL hk]
  have hWi : W.ids = if 0 < N.ids.length then pickL N.ids (a ++ b ++ c) else [] := by rw [HW]; rfl
  have hWn2 : W.inputs = pickL N.inputs (a ++ b ++ c) := by rw [HW]; rfl
  have e2 : (partN W (fromL a.length b.length) (kpB W (fromL a.length b.length))).ids = (partN N b kpT).ids := by
    show (if 0 < W.ids.length then pickL W.ids (fromL a.length b.length) else []) = if 0 < N.ids.length then pickL N.ids b else []
    by_cases hi : 0 < N.ids.length
    · rw [if_pos hi] at hWi
      rw [if_pos hi, hWi, if_pos (by rw [pickL_len]; omega), hpick]
    · rw [if_neg hi] at hWi
      rw [if_neg hi, hWi, if_neg (by simp)]
  have e3 : (partN W (fromL a.length b.length) (kpB W (fromL a.length b.length))).inputs = (partN N b kpT).inputs := by
    show pickL W.inputs (fromL a.length b.length) = pickL N.inputs b
    rw [hWn2, hpick]
  obtain ⟨X, HX⟩ : ∃ X, X = partN W (fromL a.length b.length) (kpB W (fromL a.length b.length)) := ⟨_, rfl⟩
  rw [← HX] at e1 e2 e3 ⊢
  cases X
  simp only at e1 e2 e3
  rw [e1, e2, e3]
end Go.Proofs.YtmdlginjblnfoaaGreat
