/-
  Several texts in one: CompP, PartP, NumP, RnM, KpP, SimP, DistI. No condition on any program.
-/
import Derived.Test.YtcmmklcampmkjaaBcF
import Derived.Test.YtcmmklcampmkjaaBcE

/- Plain: the least node of each component; clusterings; decompositions. No condition on any program. -/
namespace Go.Proofs.Ytcmmklcampmkjaa
set_option linter.unusedVariables false

theorem way_trans {N : NetD} : ∀ {k m u s t : Nat}, way N k u s → way N m s t → way N (k + m) u t
  | k, 0, u, s, t, h, e => by rw [← (show s = t from e)]; exact h
  | k, m + 1, u, s, t, h, ⟨r, h1, h2⟩ => ⟨r, way_trans h h1, h2⟩
/-- a way leads from v to t -/
def Reach (N : NetD) (v t : Nat) : Prop := 0 ≤ nth (dist N v) t
instance (N : NetD) (v t : Nat) : Decidable (Reach N v t) := by unfold Reach; infer_instance
theorem Reach.self {N : NetD} (hg : N.good = true) {v : Nat} (hv : v < N.ends.length) : Reach N v v := by unfold Reach; rw [dist_self (good_nodes hg) hv]; omega
theorem Reach.symm {N : NetD} (hg : N.good = true) {u v : Nat} (hu : u < N.ends.length) (hv : v < N.ends.length) (h : Reach N u v) : Reach N v u := by unfold Reach at *; rw [dist_symm hg hv hu]; exact h
theorem Reach.trans {N : NetD} (hg : N.good = true) {u v t : Nat} (hu : u < N.ends.length) (hv : v < N.ends.length) (ht : t < N.ends.length) (h : Reach N u v) (k : Reach N v t) : Reach N u t :=
  (dist_le (good_nodes hg) hu (way_trans (dist_way (good_nodes hg) hu hv h) (dist_way (good_nodes hg) hv ht k))).1
/-- the least node of v's component -/
def comp (N : NetD) (v : Nat) : Nat := (List.range N.ends.length).findIdx fun t => decide (0 ≤ nth (dist N v) t)
theorem comp_is {N : NetD} {v c : Nat} (hc : c < N.ends.length) (h : Reach N v c) (hb : ∀ j, j < c → ¬ Reach N v j) : comp N v = c := by
  unfold comp
  unfold Reach at h hb
  rw [List.findIdx_eq (by simp; omega)]
  refine ⟨by simpa using h, fun j hj => ?_⟩
  simpa using hb j hj
theorem comp_spec {N : NetD} (hg : N.good = true) {v : Nat} (hv : v < N.ends.length) : comp N v < N.ends.length ∧ Reach N v (comp N v) ∧ ∀ j, j < comp N v → ¬ Reach N v j := by
  have key : ∀ c : Nat, c < N.ends.length → Reach N v c → ∃ d, d < N.ends.length ∧ Reach N v d ∧ ∀ j, j < d → ¬ Reach N v j := by
    intro c
    induction c using Nat.strongRecOn with
    | _ c ih =>
      intro hc hr
      by_cases h : ∃ j, j < c ∧ Reach N v j
      · obtain ⟨j, hj, hn⟩ := h; exact ih j hj (by omega) hn
      · exact ⟨c, hc, hr, fun j hj hn => h ⟨j, hj, hn⟩⟩
  obtain ⟨d, h1, h2, h3⟩ := key v hv (Reach.self hg hv)
  rw [comp_is h1 h2 h3]
  exact ⟨h1, h2, h3⟩
theorem comp_le {N : NetD} (hg : N.good = true) {v t : Nat} (hv : v < N.ends.length) (h : Reach N v t) : comp N v ≤ t := by
  have := (comp_spec hg hv).2.2 t
  by_cases e : comp N v ≤ t
  · exact e
  · exact absurd h (this (by omega))
theorem comp_reach {N : NetD} (hg : N.good = true) {v t : Nat} (hv : v < N.ends.length) (ht : t < N.ends.length) : Reach N v t ↔ comp N v = comp N t := by
  obtain ⟨a1, a2, a3⟩ := comp_spec hg hv
  obtain ⟨b1, b2, b3⟩ := comp_spec hg ht
  constructor
  · intro h
    have h1 := comp_le hg hv (h.trans hg hv ht b1 b2)
    have h2 := comp_le hg ht ((h.symm hg hv ht).trans hg ht hv a1 a2)
    omega
  · intro e
    rw [e] at a2
    exact a2.trans hg hv b1 ht (b2.symm hg ht b1)
def compAll (N : NetD) : List Int := (List.range N.ends.length).map fun v => (comp N v : Int)
theorem compAll_length (N : NetD) : (compAll N).length = N.ends.length := by simp [compAll]
theorem nth_compAll {N : NetD} {v : Nat} (hv : v < N.ends.length) : nth (compAll N) v = comp N v := by simp [nth, compAll, hv]
/-- the loop over the nodes: components whose least node lies before k are written -/
def CompAt (N : NetD) (k : Nat) (zs : List Int) : Prop := zs.length = N.ends.length ∧ ∀ w, w < N.ends.length → nth zs w = if comp N w < k then (comp N w : Int) else -1
theorem CompAt.start (N : NetD) : CompAt N 0 (List.replicate N.ends.length (-1)) := ⟨by simp, fun w hw => by rw [nth_replicate _ _ hw, if_neg (by omega)]⟩
theorem CompAt.skip {N : NetD} (hg : N.good = true) {k : Nat} {zs : List Int} (h : CompAt N k zs) (hk : k < N.ends.length) (h0 : 0 ≤ nth zs k) : CompAt N (k + 1) zs := by
  refine ⟨h.1, fun w hw => ?_⟩
  rw [h.2 w hw]
  have hck : comp N k < k := by
    have := h.2 k hk
    by_cases e : comp N k < k
    · exact e
    · rw [if_neg e] at this; omega
  by_cases e : comp N w < k
  · rw [if_pos e, if_pos (by omega)]
  · rw [if_neg e, if_neg]
    intro e2
    have e3 : comp N w = k := by omega
    have := (comp_spec hg hw).2.1
    rw [e3] at this
    have := (comp_reach hg hw hk).1 this
    omega
/-- the inner loop: nodes before m are written -/
def CompMid (N : NetD) (k m : Nat) (zs : List Int) : Prop := zs.length = N.ends.length ∧ ∀ w, w < N.ends.length → nth zs w = if w < m ∧ Reach N k w then (k : Int) else if comp N w < k then (comp N w : Int) else -1
theorem CompAt.mid {N : NetD} {k : Nat} {zs : List Int} (h : CompAt N k zs) : CompMid N k 0 zs := ⟨h.1, fun w hw => by rw [h.2 w hw, if_neg (by omega : ¬ (w < 0 ∧ _))]⟩
theorem CompMid.no {N : NetD} {k m : Nat} {zs : List Int} (h : CompMid N k m zs) (hr : ¬ 0 ≤ nth (dist N k) m) : CompMid N k (m + 1) zs := by
  refine ⟨h.1, fun w hw => ?_⟩
  rw [h.2 w hw]
  by_cases e2 : w < m ∧ Reach N k w
  · rw [if_pos e2, if_pos ⟨by omega, e2.2⟩]
  · rw [if_neg e2, if_neg (c := w < m + 1 ∧ Reach N k w) (fun h => by
      by_cases e : w = m
      · subst e; exact hr h.2
      · exact e2 ⟨by omega, h.2⟩)]
theorem CompMid.done {N : NetD} (hg : N.good = true) {k : Nat} {zs : List Int} (h : CompMid N k N.ends.length zs) (hk : k < N.ends.length) (hc : ¬ comp N k < k) : CompAt N (k + 1) zs := by
  refine ⟨h.1, fun w hw => ?_⟩
  rw [h.2 w hw]
  have hck : comp N k = k := by have := comp_le hg hk (Reach.self hg hk); omega
  by_cases e : Reach N k w
  · have := (comp_reach hg hk hw).1 e
    rw [if_pos ⟨hw, e⟩, if_pos (by omega)]; omega
  · rw [if_neg (c := w < N.ends.length ∧ Reach N k w) (fun h => e h.2)]
    have : comp N w ≠ k := by
      intro e3
      have := (comp_spec hg hw).2.1
      rw [e3] at this
      exact e (this.symm hg hw hk)
    by_cases e2 : comp N w < k
    · rw [if_pos e2, if_pos (by omega)]
    · rw [if_neg e2, if_neg (by omega)]
theorem CompAt.all {N : NetD} (hg : N.good = true) {zs : List Int} (h : CompAt N N.ends.length zs) : zs = compAll N :=
  ext_nth (by rw [h.1, compAll_length]) fun i hi => by
    rw [h.1] at hi
    rw [h.2 i hi, nth_compAll hi, if_pos (comp_spec hg hi).1]
theorem CompAt.neg {N : NetD} {k : Nat} {zs : List Int} (h : CompAt N k zs) (hk : k < N.ends.length) (h0 : ¬ 0 ≤ nth zs k) : ¬ comp N k < k := by
  intro e
  rw [h.2 k hk, if_pos e] at h0
  omega

/-- the greatest of some numbers, at least 0 -/
def mostI (zs : List Int) : Int := zs.foldl (fun a x => if x < a then a else x) 0
theorem mostI_snoc (zs : List Int) (x : Int) : mostI (zs ++ [x]) = if x < mostI zs then mostI zs else x := by unfold mostI; rw [List.foldl_append]; rfl
theorem mostI_spec (zs : List Int) : 0 ≤ mostI zs ∧ (∀ x ∈ zs, x ≤ mostI zs) ∧ (mostI zs = 0 ∨ mostI zs ∈ zs) := by
  suffices h : ∀ l : List Int, 0 ≤ mostI l.reverse ∧ (∀ x ∈ l, x ≤ mostI l.reverse) ∧ (mostI l.reverse = 0 ∨ mostI l.reverse ∈ l) by
    have := h zs.reverse
    simpa using this
  intro l
  induction l with
  | nil => exact ⟨by simp [mostI], (fun x hx => by cases hx), .inl rfl⟩
  | cons x l ih =>
    rw [List.reverse_cons, mostI_snoc]
    obtain ⟨h1, h2, h3⟩ := ih
    by_cases e : x < mostI l.reverse
    · rw [if_pos e]
      refine ⟨h1, fun y hy => ?_, ?_⟩
      · rcases List.mem_cons.1 hy with rfl | hy
        · omega
        · exact h2 y hy
      · rcases h3 with h3 | h3
        · exact .inl h3
        · exact .inr (List.mem_cons_of_mem _ h3)
    · rw [if_neg e]
      refine ⟨by omega, fun y hy => ?_, .inr (List.mem_cons_self ..)⟩
      rcases List.mem_cons.1 hy with rfl | hy
      · omega
      · have := h2 y hy; omega
theorem mostI_eq {zs : List Int} {m : Int} (h0 : 0 ≤ m) (h1 : ∀ x ∈ zs, x ≤ m) (h2 : m = 0 ∨ m ∈ zs) : mostI zs = m := by
  obtain ⟨a, b, c⟩ := mostI_spec zs
  have : mostI zs ≤ m := by
    rcases c with c | c
    · omega
    · exact h1 _ c
  have : m ≤ mostI zs := by
    rcases h2 with h2 | h2
    · omega
    · exact b _ h2
  omega

end Go.Proofs.Ytcmmklcampmkjaa

/- Plain: the network of kept ports is a network; its ends are those of the network, with other numbers. No condition on any program. -/
namespace Go.Proofs.Ytcmmklcampmkjaa
set_option linter.unusedVariables false

theorem cntK_mono (kp : Nat → Nat → Bool) (v : Nat) {m k : Nat} (h : m ≤ k) : cntK kp v m ≤ cntK kp v k := by
  induction k with
  | zero => rw [Nat.le_zero.1 h]; exact Nat.le_refl _
  | succ k ih =>
    rcases Nat.lt_or_eq_of_le h with h1 | rfl
    · have := ih (by omega); rw [cntK_succ]; omega
    · exact Nat.le_refl _
theorem cntK_lt (kp : Nat → Nat → Bool) (v : Nat) {m k : Nat} (h : m < k) (hk : kp v m = true) : cntK kp v m < cntK kp v k := by
  have h1 := cntK_succ kp v m
  rw [if_pos hk] at h1
  have := cntK_mono kp v (show m + 1 ≤ k by omega)
  omega
/-- each new port is a port -/
theorem cntK_port (kp : Nat → Nat → Bool) (v : Nat) : ∀ (d c : Nat), c < cntK kp v d → ∃ i, i < d ∧ kp v i = true ∧ cntK kp v i = c
  | 0, c, h => by simp [cntK] at h
  | d + 1, c, h => by
    rw [cntK_succ] at h
    by_cases hd : kp v d = true
    · rw [if_pos hd] at h
      by_cases hc : c < cntK kp v d
      · obtain ⟨i, h1, h2⟩ := cntK_port kp v d c hc; exact ⟨i, by omega, h2⟩
      · exact ⟨d, by omega, hd, by omega⟩
    · rw [if_neg hd] at h
      obtain ⟨i, h1, h2⟩ := cntK_port kp v d c (by omega); exact ⟨i, by omega, h2⟩
theorem rowU_other (kp : Nat → Nat → Bool) (U : Int → Int → Po) {v k : Nat} {x y : Int} (hx : x ≠ (v : Int)) : ∀ m, rowU kp U v k m x y = U x y
  | 0 => rfl
  | m + 1 => by
    simp only [rowU]
    split
    · rw [setUE_ne (fun e => hx e.1)]; exact rowU_other kp U hx m
    · exact rowU_other kp U hx m
theorem rowU_at (kp : Nat → Nat → Bool) (U : Int → Int → Po) (v k : Nat) {i : Nat} (hi : kp v i = true) : ∀ m, i < m → rowU kp U v k m v i = (k, cntK kp v i)
  | 0, h => absurd h (by omega)
  | m + 1, h => by
    simp only [rowU]
    by_cases e : m = i
    · rw [e, if_pos hi, setUE_at]
    · have ih := rowU_at kp U v k hi m (by omega)
      split
      · rw [setUE_ne (fun e2 => e (by omega))]; exact ih
      · exact ih
/-- the elements are nodes, each once -/
structure PickOk (N : NetD) (zs : List Int) : Prop where
  node : ∀ k, k < zs.length → ∃ t : Nat, nth zs k = t ∧ t < N.ends.length
  once : ∀ a b, a < zs.length → b < zs.length → nth zs a = nth zs b → a = b
/-- kept ports come in pairs, and lead to picked nodes -/
structure KeepOk (N : NetD) (zs : List Int) (kp : Nat → Nat → Bool) : Prop where
  pair : ∀ k v i w j : Nat, k < zs.length → nth zs k = (v : Int) → i < (nthL N.ends v).length → kp v i = true → nthE (nthL N.ends v) i = ((w : Int), (j : Int)) → kp w j = true ∧ ∃ q, q < zs.length ∧ nth zs q = (w : Int)
section
variable {N : NetD} {kp : Nat → Nat → Bool} {zs : List Int}
theorem part_place (hz : PickOk N zs) {k v i : Nat} (hv : nth zs k = (v : Int)) (hi : i < (nthL N.ends v).length) (hk : kp v i = true) : ∀ K, K ≤ zs.length → k < K → allU N kp zs K v i = (k, cntK kp v i)
  | 0, _, h => absurd h (by omega)
  | K + 1, h1, h2 => by
    show rowU kp (allU N kp zs K) (nth zs K).toNat K (nthL N.ends (nth zs K).toNat).length v i = _
    by_cases e : K = k
    · rw [e, hv, Int.toNat_natCast]; exact rowU_at kp _ v k hk _ hi
    · obtain ⟨t, et, _⟩ := hz.node K (by omega)
      have e2 : (v : Int) ≠ ((nth zs K).toNat : Nat) := fun h => e (hz.once K k (by omega) (by omega) (by rw [hv, et]; rw [et] at h; omega))
      rw [rowU_other kp _ e2]; exact part_place hz hv hi hk K (by omega) (by omega)
theorem partRow_pre (N : NetD) (kp : Nat → Nat → Bool) (U : Int → Int → Po) (v m : Nat) : ∀ d, m ≤ d → partRow N kp U v m <+: partRow N kp U v d
  | 0, h => by rw [Nat.le_zero.1 h]; exact List.prefix_refl _
  | d + 1, h => by
    rcases Nat.lt_or_eq_of_le h with h1 | rfl
    · have ih := partRow_pre N kp U v m d (by omega)
      cases hk : kp v d with
      | true => rw [partRow_yes hk]; exact ih.trans (List.prefix_append _ _)
      | false => rw [partRow_no hk]; exact ih
    · exact List.prefix_refl _
theorem partRow_get {U : Int → Int → Po} {v i d : Nat} (hi : i < d) (hk : kp v i = true) : nthP (partRow N kp U v d) (cntK kp v i) = U (nthE (nthL N.ends v) i).1 (nthE (nthL N.ends v) i).2 := by
  obtain ⟨r, hr⟩ := partRow_pre N kp U v (i + 1) d (by omega)
  rw [← hr, partRow_yes hk]
  have hl := partRow_len N kp U v i
  unfold nthP
  rw [List.append_assoc, List.getD_eq_getElem?_getD, List.getElem?_append_right (by omega), hl]
  simp
theorem part_n (N : NetD) (zs : List Int) (kp : Nat → Nat → Bool) : (partN N zs kp).ends.length = zs.length := by simp [partN, partRows]
theorem part_row {k v : Nat} (hk : k < zs.length) (hv : nth zs k = (v : Int)) : nthL (partN N zs kp).ends k = castL (partRow N kp (allU N kp zs zs.length) v (nthL N.ends v).length) := by
  have hv' : zs[k] = (v : Int) := by rw [← nth_eq hk]; exact hv
  have e : (partN N zs kp).ends = zs.map fun z => castL (partRow N kp (allU N kp zs zs.length) z.toNat (nthL N.ends z.toNat).length) := by
    unfold partN partRows
    rw [List.map_map]; rfl
  rw [e]
  unfold nthL
  rw [List.getD_eq_getElem?_getD, List.getElem?_map, List.getElem?_eq_getElem hk, hv']
  simp
theorem part_deg {k v : Nat} (hk : k < zs.length) (hv : nth zs k = (v : Int)) : (nthL (partN N zs kp).ends k).length = cntK kp v (nthL N.ends v).length := by rw [part_row hk hv, castL_length, partRow_len]
theorem part_end (hz : PickOk N zs) (hK : KeepOk N zs kp) (hg : N.good = true) {k v i w j q : Nat} (hk : k < zs.length) (hv : nth zs k = (v : Int)) (hi : i < (nthL N.ends v).length) (hkp : kp v i = true) (he : nthE (nthL N.ends v) i = ((w : Int), (j : Int))) (hq : q < zs.length) (hw : nth zs q = (w : Int)) :
    nthE (nthL (partN N zs kp).ends k) (cntK kp v i) = ((q : Int), (cntK kp w j : Int)) := by
  obtain ⟨t, et, ht⟩ := hz.node k hk
  have hvn : v < N.ends.length := by rw [hv] at et; omega
  obtain ⟨w', j', e1, h1, h2, h3⟩ := good_end hg hvn hi
  rw [he] at e1
  simp only [Prod.mk.injEq] at e1
  have ew : w = w' := by omega
  have ej : j = j' := by omega
  subst ew ej
  rw [part_row hk hv, nthE_castL (by rw [partRow_len]; exact cntK_lt kp v hi hkp), partRow_get hi hkp, he]
  rw [part_place hz hw h2 (hK.pair k v i w j hk hv hi hkp he).1 zs.length (Nat.le_refl _) hq]
theorem nth_pickL {l : List Int} {k : Nat} (hk : k < zs.length) : nth (pickL l zs) k = nth l (nth zs k).toNat := by
  rw [nth_eq (by rw [pickL_len]; exact hk)]
  unfold pickL
  rw [List.getElem_map, ← nth_eq hk]
theorem ids_inj {ids : List Int} {n : Int} (h : idsGood ids n = true) {a b : Nat} (ha : a < ids.length) (hb : b < ids.length) (e : nth ids a = nth ids b) : a = b := by
  unfold idsGood at h
  rw [Bool.and_eq_true] at h
  have key : ∀ x y : Nat, x < y → y < ids.length → nth ids x ≠ nth ids y := fun x y hxy hy e => by
    have := rangeAll_at h.1 hy
    unfold idAt at this
    rw [Bool.and_eq_true, Bool.not_eq_true', decide_eq_false_iff_not] at this
    apply this.2
    rw [← e, nth_eq (show x < ids.length by omega)]
    exact List.mem_iff_getElem.2 ⟨x, by rw [List.length_take]; omega, by rw [List.getElem_take]⟩
  rcases Nat.lt_trichotomy a b with h1 | h1 | h1
  · exact absurd e (key a b h1 hb)
  · exact h1
  · exact absurd e.symm (key b a h1 ha)
/-- THE NETWORK OF KEPT PORTS IS A NETWORK -/
theorem part_good (hg : N.good = true) (hz : PickOk N zs) (hK : KeepOk N zs kp) (h1 : 1 ≤ zs.length) (h40 : zs.length ≤ 40) : (partN N zs kp).good = true := by
  have hhead : (partN N zs kp).headOk = true := by
    have hgh := hg
    unfold NetD.good NetD.headOk at hgh
    simp only [Bool.and_eq_true] at hgh
    obtain ⟨⟨_, hids, hins⟩, _⟩ := hgh
    unfold NetD.headOk
    rw [part_n]
    simp only [Bool.and_eq_true]
    refine ⟨by unfold inB; simp; omega, ?_, ?_⟩
    · show idsGood (if 0 < N.ids.length then pickL N.ids zs else []) _ = true
      split
      · rename_i h0
        have hidl : N.ids.length = N.ends.length := by rcases good_idsl hg with h | h <;> omega
        rw [idsGood_ok]
        · rw [pickL_len]; simp
        · intro k hk
          rw [pickL_len] at hk
          obtain ⟨t, et, ht⟩ := hz.node k hk
          unfold idAt
          rw [nth_pickL hk, et, Int.toNat_natCast, Bool.and_eq_true]
          have hat : idAt N.ids t = true := by
            unfold idsGood at hids
            rw [Bool.and_eq_true] at hids
            exact rangeAll_at hids.1 (by omega)
          unfold idAt at hat
          rw [Bool.and_eq_true] at hat
          refine ⟨hat.1, ?_⟩
          rw [Bool.not_eq_true', decide_eq_false_iff_not]
          intro hm
          obtain ⟨a, ha, e⟩ := List.mem_iff_getElem.1 hm
          rw [List.length_take, pickL_len] at ha
          rw [List.getElem_take, ← nth_eq (by rw [pickL_len]; omega), nth_pickL (by omega)] at e
          obtain ⟨s, es, hs⟩ := hz.node a (by omega)
          rw [es, Int.toNat_natCast] at e
          have := ids_inj hids (by omega) (by omega) e
          have := hz.once a k (by omega) hk (by rw [es, et, this])
          omega
      · rw [idsGood_ok (fun j hj => absurd hj (by simp))]; simp
    · show insGood (pickL N.inputs zs) _ = true
      unfold insGood at hins ⊢
      rw [pickL_len]
      simp only [Bool.and_eq_true, decide_eq_true_eq, List.all_eq_true] at hins ⊢
      refine ⟨trivial, fun x hx => ?_⟩
      unfold pickL at hx
      obtain ⟨z, hzm, rfl⟩ := List.mem_map.1 hx
      obtain ⟨a, ha, e⟩ := List.mem_iff_getElem.1 hzm
      obtain ⟨t, et, ht⟩ := hz.node a ha
      rw [nth_eq ha, e] at et
      rw [et, Int.toNat_natCast]
      exact hins.2 _ (nth_mem (by have := good_insl hg; omega))
  refine good_yes hhead fun k hk => ?_
  rw [part_n] at hk
  obtain ⟨v, hv, hvn⟩ := hz.node k hk
  have hd6 := good_deg hg hvn
  have hle := cntK_le kp v (nthL N.ends v).length
  refine row_yes (by rw [part_deg hk hv]; omega) fun c hc => ?_
  rw [part_deg hk hv] at hc
  obtain ⟨i, hi, hkp, rfl⟩ := cntK_port kp v _ c hc
  obtain ⟨w, j, he, hw, hj, hback⟩ := good_end hg hvn hi
  obtain ⟨hkw, q, hq, hqw⟩ := hK.pair k v i w j hk hv hi hkp he
  unfold NetD.endOk NetD.port
  rw [part_end hz hK hg hk hv hi hkp he hq hqw]
  have hb := part_end hz hK hg hq hqw hj hkw hback hk hv
  have hlt := cntK_lt kp w hj hkw
  simp only [Int.toNat_natCast, Bool.and_eq_true, decide_eq_true_eq]
  rw [part_n, part_deg hq hqw]
  refine ⟨⟨?_, ?_⟩, hb⟩
  · unfold inB; simp; omega
  · unfold inB; simp; omega
end
end Go.Proofs.Ytcmmklcampmkjaa

/- Plain: numbers from a on, written at the places that a list names. No condition on any program. -/
namespace Go.Proofs.Ytcmmklcampmkjaa
set_option linter.unusedVariables false

/-- numbers from a on, written at the places that a list names -/
def numL : List Int → Nat → List Int → List Int
  | o, _, [] => o
  | o, a, x :: l => numL (o.set x.toNat (a : Nat)) (a + 1) l
theorem numL_length : ∀ (l o : List Int) (a : Nat), (numL o a l).length = o.length
  | [], o, a => rfl
  | x :: l, o, a => by simp only [numL]; rw [numL_length l]; simp
theorem numL_snoc (x : Int) : ∀ (l o : List Int) (a : Nat), numL o a (l ++ [x]) = (numL o a l).set x.toNat ((a + l.length : Nat) : Int)
  | [], o, a => by simp [numL]
  | y :: l, o, a => by
    show numL (o.set y.toNat (a : Nat)) (a + 1) (l ++ [x]) = (numL (o.set y.toNat (a : Nat)) (a + 1) l).set _ _
    rw [numL_snoc x l, List.length_cons, show a + 1 + l.length = a + (l.length + 1) by omega]
theorem numL_other : ∀ (l o : List Int) (a x : Nat), (∀ z ∈ l, z.toNat < o.length ∧ z.toNat ≠ x) → nth (numL o a l) x = nth o x
  | [], o, a, x, _ => rfl
  | y :: l, o, a, x, h => by
    have hy := h y (by simp)
    show nth (numL (o.set y.toNat (a : Nat)) (a + 1) l) x = _
    rw [numL_other l _ _ x (fun z hz => by rw [List.length_set]; exact h z (by simp [hz])), nth_set _ _ _ _ hy.1, if_neg (fun e => hy.2 e.symm)]
theorem numL_at : ∀ (l o : List Int) (a k : Nat), k < l.length → (∀ i j, i < l.length → j < l.length → (nth l i).toNat = (nth l j).toNat → i = j) → (∀ z ∈ l, z.toNat < o.length) → nth (numL o a l) (nth l k).toNat = ((a + k : Nat) : Int)
  | [], o, a, k, hk, _, _ => absurd hk (by simp)
  | y :: l, o, a, 0, _, h1, h2 => by
    show nth (numL (o.set y.toNat (a : Nat)) (a + 1) l) y.toNat = _
    rw [numL_other l _ _ _ (fun z hz => ?_), nth_set _ _ _ _ (h2 y (by simp)), if_pos rfl]; · rfl
    refine ⟨by rw [List.length_set]; exact h2 z (by simp [hz]), fun e => ?_⟩
    obtain ⟨i, hi, ei⟩ := List.mem_iff_getElem.1 hz
    have := h1 (i + 1) 0 (by simpa using hi) (by simp) (by rw [nth_cons_succ, nth_cons_zero, nth_eq hi, ei]; exact e)
    omega
  | y :: l, o, a, k + 1, hk, h1, h2 => by
    show nth (numL (o.set y.toNat (a : Nat)) (a + 1) l) (nth l k).toNat = _
    rw [numL_at l _ (a + 1) k (by simpa using hk) (fun i j hi hj e => by have := h1 (i + 1) (j + 1) (by simpa using hi) (by simpa using hj) e; omega) (fun z hz => by rw [List.length_set]; exact h2 z (by simp [hz]))]
    congr 1; omega
end Go.Proofs.Ytcmmklcampmkjaa

/- A network that a call is writing: its top row at one block, its rows in others, its two rows of numbers apart; plain: what renumbering leaves. No condition on any program. -/
namespace Go.Proofs.Ytcmmklcampmkjaa
open Go.ChangeShapes Go.WideShapes Go.ChangeAt Go.RowKit
set_option linter.unusedVariables false

/-- the ends of a row, each node with another number -/
def mapEnds (p : List Int) (l : List (Int × Int)) : List (Int × Int) := l.map fun e => (nth p e.1.toNat, e.2)
/-- rows of ends apart from each other, in [lo, hi) and not at g; the top row at block g -/
def EndSSz (w : World) (g lo hi : Nat) (v : Value) (xss : List (List (Int × Int))) : Prop :=
  ∃ vs : Nat → Value, Sl w g (g + 1) 1 v xss.length vs ∧ (∀ i, i < xss.length → EndS w lo hi (vs i) (nthL xss i) ∧ (rowOf (nthL xss i).length (vs i) = none ∨ rowOf (nthL xss i).length (vs i) ≠ some g)) ∧
    ∀ i j, i < j → j < xss.length → rowOf (nthL xss i).length (vs i) = none ∨ rowOf (nthL xss i).length (vs i) ≠ rowOf (nthL xss j).length (vs j)
/-- out is being written: its top row lies at block g, ids in [d1, d2), inputs in [d3, i2), rows from i2 on and not at g -/
structure RN (w : World) (base d1 d2 d3 i2 rt g : Nat) (vE vD vI : Value) (N : NetD) : Prop where
  o1 : base ≤ d1
  o2 : d1 ≤ d2
  o3 : d2 ≤ d3
  o5 : d3 ≤ i2
  o4 : i2 ≤ rt
  o6 : rt ≤ w.heap.size
  g1 : base ≤ g
  g2 : g < rt
  g3 : g < d1 ∨ d2 ≤ g
  g4 : g < d3 ∨ i2 ≤ g
  ids : IntS w d1 d2 vD N.ids
  ins : IntS w d3 i2 vI N.inputs
  top : ∃ off c, vE = .slice (some ⟨g, off, none⟩) N.ends.length c
  rows : EndSSz w g i2 rt vE N.ends
theorem Sl.keepHi {w : World} {g n c : Nat} {f : Nat → Value} {hi : Nat} (h : Sl w g hi 1 (.slice (some ⟨g, 0, none⟩) n c) n f) : Sl w g (g + 1) 1 (.slice (some ⟨g, 0, none⟩) n c) n f := by
  obtain ⟨A, c', e, h1, h2, h3⟩ := h
  injection e with e1 _ e3
  subst e1 e3
  refine ⟨_, _, rfl, h1, h2, fun hn => ?_⟩
  obtain ⟨b, off, e4, h4, h5, h6⟩ := h3 hn
  injection e4 with e4
  injection e4 with e5 e6
  subst e5 e6
  exact ⟨_, _, rfl, h4, by omega, h6⟩
section
variable {w w' : World} {base d1 d2 d3 i2 rt g : Nat} {vE vD vI : Value} {N : NetD}
/-- writes elsewhere -/
theorem RN.far {row : Option Nat} (h : RN w base d1 d2 d3 i2 rt g vE vD vI N) (hg : w.grownBy w' row) (hr : ∀ k, row = some k → k < base ∨ w.heap.size ≤ k) : RN w' base d1 d2 d3 i2 rt g vE vD vI N := by
  have hs := hg.size
  have a1 := h.o1; have a2 := h.o2; have a3 := h.o3; have a8 := h.o5; have a4 := h.o4; have a0 := h.o6; have a5 := h.g1; have a6 := h.g2
  obtain ⟨vs, h1, h2, h3⟩ := h.rows
  refine ⟨a1, a2, a3, a8, a4, by omega, a5, a6, h.g3, h.g4, h.ids.far hg (by omega) (fun k e => by have := hr k e; omega), h.ins.far hg (by omega) (fun k e => by have := hr k e; omega), h.top, vs, ?_, fun i hi => ?_, h3⟩
  · exact Sl.keep h1 fun k k1 k2 => hg.block k (by omega) (fun e => by have := hr k e.symm; omega)
  · obtain ⟨e1, e2⟩ := h2 i hi
    exact ⟨e1.far hg (by omega) (fun k e => by have := hr k e; omega), e2⟩
theorem RN.still (h : RN w base d1 d2 d3 i2 rt g vE vD vI N) (hg : w.grownBy w' none) : RN w' base d1 d2 d3 i2 rt g vE vD vI N := h.far hg (fun k e => by cases e)
theorem RN.below (h : RN w base d1 d2 d3 i2 rt g vE vD vI N) (hb : Below w.heap.size w w') : RN w' base d1 d2 d3 i2 rt g vE vD vI N := h.still ⟨hb.os, hb.tape, hb.output, hb.size, fun k hk _ => hb.block k hk⟩
theorem RN.belowB {B : Nat} (h : RN w base d1 d2 d3 i2 rt g vE vD vI N) (hb : Below B w w') (hB : rt ≤ B) : RN w' base d1 d2 d3 i2 rt g vE vD vI N := by
  have hs := hb.size
  have a1 := h.o1; have a2 := h.o2; have a3 := h.o3; have a8 := h.o5; have a4 := h.o4; have a0 := h.o6; have a5 := h.g1; have a6 := h.g2
  obtain ⟨vs, h1, h2, h3⟩ := h.rows
  refine ⟨a1, a2, a3, a8, a4, by omega, a5, a6, h.g3, h.g4, h.ids.below hb (by omega), h.ins.below hb (by omega), h.top, vs, Sl.below h1 hb (by omega), fun i hi => ?_, h3⟩
  obtain ⟨e1, e2⟩ := h2 i hi
  exact ⟨e1.below hb hB, e2⟩
theorem RN.turned {l2 h2 : Nat} (h : RN w base d1 d2 d3 i2 rt g vE vD vI N) (hb : Turned l2 h2 w w') (hd : rt ≤ l2 ∨ h2 ≤ base) : RN w' base d1 d2 d3 i2 rt g vE vD vI N := by
  have hs := hb.size
  have a1 := h.o1; have a2 := h.o2; have a3 := h.o3; have a8 := h.o5; have a4 := h.o4; have a0 := h.o6; have a5 := h.g1; have a6 := h.g2
  obtain ⟨vs, h1, h2, h3⟩ := h.rows
  refine ⟨a1, a2, a3, a8, a4, by omega, a5, a6, h.g3, h.g4, h.ids.turned hb (by omega) (by omega), h.ins.turned hb (by omega) (by omega), h.top, vs, Sl.turned h1 hb (by omega) (by omega), fun i hi => ?_, h3⟩
  obtain ⟨e1, e2⟩ := h2 i hi
  exact ⟨e1.turned hb (by omega) (by omega), e2⟩
theorem RN.up {rt' : Nat} (h : RN w base d1 d2 d3 i2 rt g vE vD vI N) (h1 : rt ≤ rt') (h2 : rt' ≤ w.heap.size) : RN w base d1 d2 d3 i2 rt' g vE vD vI N := by
  obtain ⟨vs, k1, k2, k3⟩ := h.rows
  refine ⟨h.o1, h.o2, h.o3, h.o5, Nat.le_trans h.o4 h1, h2, h.g1, Nat.lt_of_lt_of_le h.g2 h1, h.g3, h.g4, h.ids, h.ins, h.top, vs, k1, fun i hi => ?_, k3⟩
  obtain ⟨e1, e2⟩ := k2 i hi
  exact ⟨e1.mono (Nat.le_refl _) h1, e2⟩
/-- what it reads as -/
theorem RN.netZ (h : RN w base d1 d2 d3 i2 rt g vE vD vI N) : Net w base rt (.agg #[vE, vD, vI]) N := by
  have a1 := h.o1; have a2 := h.o2; have a3 := h.o3; have a8 := h.o5; have a4 := h.o4; have a5 := h.g1; have a6 := h.g2
  obtain ⟨vs, h1, h2, _⟩ := h.rows
  exact ⟨vE, vD, vI, rfl, ⟨vs, h1.mono a5 (by omega), fun i hi => (h2 i hi).1.mono (by omega) (Nat.le_refl _)⟩, h.ids.mono (by omega) (by omega), h.ins.mono (by omega) (by omega)⟩
theorem RN.net (h : RN w base d1 d2 d3 i2 rt g vE vD vI N) : Net w base w.heap.size (.agg #[vE, vD, vI]) N := h.netZ.mono (Nat.le_refl _) h.o6
theorem RN.weak {base' : Nat} (h : RN w base d1 d2 d3 i2 rt g vE vD vI N) (hb : base' ≤ base) : RN w base' d1 d2 d3 i2 rt g vE vD vI N :=
  ⟨Nat.le_trans hb h.o1, h.o2, h.o3, h.o5, h.o4, h.o6, Nat.le_trans hb h.g1, h.g2, h.g3, h.g4, h.ids, h.ins, h.top, h.rows⟩
/-- a network in the making: rows not there yet -/
theorem RN.made {t : TypeId} {n : Nat} {ids ins : List Int} (h : w.rowIs g t n (fun _ => .slice none 0 0)) (hm : n ≤ maxLen) (h0 : 0 < n) (o1 : base ≤ d1) (o2 : d1 ≤ d2) (o3 : d2 ≤ d3) (o5 : d3 ≤ i2) (o4 : i2 ≤ w.heap.size) (g1 : base ≤ g) (g2 : g < w.heap.size) (g3 : g < d1 ∨ d2 ≤ g) (g4 : g < d3 ∨ i2 ≤ g)
    (hD : IntS w d1 d2 vD ids) (hI : IntS w d3 i2 vI ins) : RN w base d1 d2 d3 i2 w.heap.size g (.slice (some ⟨g, 0, none⟩) n n) vD vI ⟨List.replicate n [], ids, ins⟩ := by
  have hnil : ∀ i, i < n → nthL (List.replicate n ([] : List (Int × Int))) i = [] := fun i hi => by simp [nthL, hi]
  refine ⟨o1, o2, o3, o5, o4, Nat.le_refl _, g1, g2, g3, g4, hD, hI, ⟨0, n, by simp⟩, fun _ => .slice none 0 0, ?_, fun i hi => ?_, fun i j hij hj => ?_⟩
  · have := Sl.of_row (lo := g) (sz := 1) (n := n) (c := n) h (Nat.le_refl _) (by omega) (Nat.le_refl _) hm
    simp only [List.length_replicate]
    exact Sl.keepHi this
  · simp only [List.length_replicate] at hi
    dsimp only
    rw [hnil i hi]
    exact ⟨EndS.nil _ _ _, .inl (by simp [rowOf])⟩
  · simp only [List.length_replicate] at hj
    rw [hnil i (by omega)]
    exact .inl (by simp [rowOf])
/-- a network whose top row, ids, inputs and rows lie apart -/
def NetZ (w : World) (lo hi : Nat) (v : Value) (N : NetD) : Prop := ∃ d1 d2 d3 i2 g vE vD vI, v = .agg #[vE, vD, vI] ∧ RN w lo d1 d2 d3 i2 hi g vE vD vI N
section
variable {lo hi lo' hi' B l2 h2 : Nat} {v : Value}
theorem NetZ.net (h : NetZ w lo hi v N) : Net w lo hi v N := by
  obtain ⟨d1, d2, d3, i2, g, vE, vD, vI, rfl, h⟩ := h
  exact h.netZ
theorem NetZ.below (h : NetZ w lo hi v N) (hb : Below B w w') (hB : hi ≤ B) : NetZ w' lo hi v N := by
  obtain ⟨d1, d2, d3, i2, g, vE, vD, vI, rfl, h⟩ := h
  exact ⟨_, _, _, _, _, _, _, _, rfl, h.belowB hb hB⟩
theorem NetZ.turned (h : NetZ w lo hi v N) (hb : Turned l2 h2 w w') (hB : hi ≤ w.heap.size) (hd : hi ≤ l2 ∨ h2 ≤ lo) : NetZ w' lo hi v N := by
  obtain ⟨d1, d2, d3, i2, g, vE, vD, vI, rfl, h⟩ := h
  exact ⟨_, _, _, _, _, _, _, _, rfl, h.turned hb hd⟩
theorem NetZ.mono (h : NetZ w lo hi v N) (h1 : lo' ≤ lo) (h2 : hi ≤ hi') (h3 : hi' ≤ w.heap.size) : NetZ w lo' hi' v N := by
  obtain ⟨d1, d2, d3, i2, g, vE, vD, vI, rfl, h⟩ := h
  exact ⟨_, _, _, _, _, _, _, _, rfl, (h.weak h1).up h2 h3⟩
end
end
end Go.Proofs.Ytcmmklcampmkjaa

/- Plain: the network of some nodes, as the reference makes it, is the program's. No condition on any program. -/
namespace Go.Proofs.Ytcmmklcampmkjaa
set_option linter.unusedVariables false

/-- the ports that lie between two of the nodes -/
def kpB (N : NetD) (zs : List Int) (v i : Nat) : Bool := decide ((v : Int) ∈ zs) && decide ((nthE (nthL N.ends v) i).1 ∈ zs)
/-- the kept ends of a node, the ports numbered anew -/
def cutRow (N : NetD) (kp : Nat → Nat → Bool) (v m : Nat) : List (Int × Int) := ((List.range m).filter (kp v)).map fun i => ((nthE (nthL N.ends v) i).1, ((cntK kp (nthE (nthL N.ends v) i).1.toNat (nthE (nthL N.ends v) i).2.toNat : Nat) : Int))
theorem cutRow_yes {N : NetD} {kp : Nat → Nat → Bool} {v m : Nat} (h : kp v m = true) : cutRow N kp v (m + 1) = cutRow N kp v m ++ [((nthE (nthL N.ends v) m).1, ((cntK kp (nthE (nthL N.ends v) m).1.toNat (nthE (nthL N.ends v) m).2.toNat : Nat) : Int))] := by simp [cutRow, List.range_succ, h]
theorem cutRow_no {N : NetD} {kp : Nat → Nat → Bool} {v m : Nat} (h : kp v m = false) : cutRow N kp v (m + 1) = cutRow N kp v m := by simp [cutRow, List.range_succ, h]
/-- where each node goes -/
def toOf (n : Nat) (zs : List Int) : List Int := numL (List.replicate n 0) 0 zs
section
variable {N : NetD} {zs : List Int}
theorem pick_mem (hz : PickOk N zs) {w : Nat} : (w : Int) ∈ zs ↔ ∃ q, q < zs.length ∧ nth zs q = (w : Int) := by
  constructor
  · intro h
    obtain ⟨q, hq, e⟩ := List.mem_iff_getElem.1 h
    exact ⟨q, hq, by rw [nth_eq hq, e]⟩
  · rintro ⟨q, hq, e⟩; rw [← e]; exact nth_mem hq
theorem toOf_at (hz : PickOk N zs) {k w : Nat} (hk : k < zs.length) (hw : nth zs k = (w : Int)) : nth (toOf N.ends.length zs) w = (k : Int) := by
  have h := numL_at zs (List.replicate N.ends.length 0) 0 k hk (fun i j hi hj e => by
    obtain ⟨a, ea, _⟩ := hz.node i hi
    obtain ⟨b, eb, _⟩ := hz.node j hj
    rw [ea, eb, Int.toNat_natCast, Int.toNat_natCast] at e
    exact hz.once i j hi hj (by rw [ea, eb, e])) (fun z hzm => by
    obtain ⟨i, hi, e⟩ := List.mem_iff_getElem.1 hzm
    obtain ⟨a, ea, ha⟩ := hz.node i hi
    rw [nth_eq hi, e] at ea
    rw [ea, Int.toNat_natCast, List.length_replicate]; exact ha)
  rw [hw, Int.toNat_natCast, Nat.zero_add] at h
  exact h
theorem kpB_ok (hg : N.good = true) (hz : PickOk N zs) : KeepOk N zs (kpB N zs) := by
  refine ⟨fun k v i w j hk hv hi hkp he => ?_⟩
  unfold kpB at hkp
  rw [he, Bool.and_eq_true, decide_eq_true_eq, decide_eq_true_eq] at hkp
  obtain ⟨t, et, ht⟩ := hz.node k hk
  have hvn : v < N.ends.length := by rw [hv] at et; omega
  obtain ⟨w', j', e1, h1, h2, h3⟩ := good_end hg hvn hi
  rw [he] at e1
  simp only [Prod.mk.injEq] at e1
  have ew : w = w' := by omega
  have ej : j = j' := by omega
  subst ew ej
  refine ⟨?_, (pick_mem hz).1 hkp.2⟩
  unfold kpB
  rw [h3, Bool.and_eq_true, decide_eq_true_eq, decide_eq_true_eq]
  exact ⟨hkp.2, hkp.1⟩
/-- THE REFERENCE'S ROWS ARE THE PROGRAM'S -/
theorem cut_part {kp : Nat → Nat → Bool} (hg : N.good = true) (hz : PickOk N zs) (hK : KeepOk N zs kp) {k v : Nat} (hk : k < zs.length) (hv : nth zs k = (v : Int)) : ∀ m, m ≤ (nthL N.ends v).length → mapEnds (toOf N.ends.length zs) (cutRow N kp v m) = castL (partRow N kp (allU N kp zs zs.length) v m)
  | 0, _ => by simp [cutRow, mapEnds, partRow, castL]
  | m + 1, hm => by
    have ih := cut_part hg hz hK hk hv m (by omega)
    cases hb : kp v m with
    | false => rw [cutRow_no hb, partRow_no hb]; exact ih
    | true =>
      have hi : m < (nthL N.ends v).length := by omega
      obtain ⟨t, et, ht⟩ := hz.node k hk
      have hvn : v < N.ends.length := by rw [hv] at et; omega
      obtain ⟨w, j, he, h1, h2, h3⟩ := good_end hg hvn hi
      obtain ⟨hkw, q, hq, hqw⟩ := hK.pair k v m w j hk hv hi hb he
      rw [cutRow_yes hb, partRow_yes hb, castL_snoc, he]
      have hp := part_place hz hqw h2 hkw zs.length (Nat.le_refl _) hq
      dsimp only
      rw [hp]
      unfold mapEnds at ih ⊢
      rw [List.map_append, ih]
      simp only [List.map_cons, List.map_nil, Int.toNat_natCast, castP]
      rw [toOf_at hz hq hqw]
end
end Go.Proofs.Ytcmmklcampmkjaa

/- Plain: distances in a network of kept ports; networks of the same nodes have the same distances. No condition on any program. -/
namespace Go.Proofs.Ytcmmklcampmkjaa
set_option linter.unusedVariables false

/-- the nodes of two networks correspond, and so do their edges -/
structure Corr (P Q : NetD) (R : Nat → Nat → Prop) : Prop where
  go : ∀ u a s, R u a → Adj P u s → ∃ b, R s b ∧ Adj Q a b
  back : ∀ u a b, R u a → Adj Q a b → ∃ s, R s b ∧ Adj P u s
  one : ∀ u a b, R u a → R u b → a = b
  own : ∀ u v a, R u a → R v a → u = v
  inP : ∀ u a, R u a → u < P.ends.length
  inQ : ∀ u a, R u a → a < Q.ends.length
section
variable {P Q : NetD} {R : Nat → Nat → Prop}
theorem Corr.way (h : Corr P Q R) {u a : Nat} (hr : R u a) : ∀ {k t : Nat}, way P k u t → ∃ b, R t b ∧ way Q k a b
  | 0, t, e => by
    have e : u = t := e
    subst e
    exact ⟨a, hr, rfl⟩
  | k + 1, t, ⟨s, h1, h2⟩ => by
    obtain ⟨b, hb, hw⟩ := Corr.way h hr h1
    obtain ⟨c, hc, ha⟩ := h.go s b t hb h2
    exact ⟨c, hc, b, hw, ha⟩
theorem Corr.wayB (h : Corr P Q R) {u a : Nat} (hr : R u a) : ∀ {k b : Nat}, Go.Proofs.Ytcmmklcampmkjaa.way Q k a b → ∃ t, R t b ∧ Go.Proofs.Ytcmmklcampmkjaa.way P k u t
  | 0, b, e => by
    have e : a = b := e
    subst e
    exact ⟨u, hr, rfl⟩
  | k + 1, b, ⟨c, h1, h2⟩ => by
    obtain ⟨s, hs, hw⟩ := Corr.wayB h hr h1
    obtain ⟨t, ht, ha⟩ := h.back s c b hs h2
    exact ⟨t, ht, s, hw, ha⟩
/-- what is reached corresponds to something, at the same distance -/
theorem Corr.dist (h : Corr P Q R) (hP : P.nodes) (hQ : Q.nodes) {u a t : Nat} (hr : R u a) (ht : t < P.ends.length) (h0 : 0 ≤ nth (dist P u) t) : ∃ b, R t b ∧ nth (Go.Proofs.Ytcmmklcampmkjaa.dist Q a) b = nth (Go.Proofs.Ytcmmklcampmkjaa.dist P u) t := by
  obtain ⟨b, hb, hw⟩ := h.way hr (dist_way hP (h.inP _ _ hr) ht h0)
  obtain ⟨k1, k2⟩ := dist_le hQ (h.inQ _ _ hr) hw
  obtain ⟨s, hs, hw2⟩ := h.wayB hr (dist_way hQ (h.inQ _ _ hr) (h.inQ _ _ hb) k1)
  obtain rfl := h.own _ _ _ hs hb
  obtain ⟨k3, k4⟩ := dist_le hP (h.inP _ _ hr) hw2
  exact ⟨b, hb, by omega⟩
theorem Corr.eq (h : Corr P Q R) (hP : P.nodes) (hQ : Q.nodes) {u a t b : Nat} (hr : R u a) (hs : R t b) : nth (Go.Proofs.Ytcmmklcampmkjaa.dist Q a) b = nth (Go.Proofs.Ytcmmklcampmkjaa.dist P u) t := by
  by_cases h0 : 0 ≤ nth (Go.Proofs.Ytcmmklcampmkjaa.dist P u) t
  · obtain ⟨c, hc, e⟩ := h.dist hP hQ hr (h.inP _ _ hs) h0
    rw [h.one _ _ _ hs hc]; exact e
  · have l1 := (dist_low hP (h.inP _ _ hr) (h.inP _ _ hs)).1
    have l2 := (dist_low hQ (h.inQ _ _ hr) (h.inQ _ _ hs)).1
    by_cases h1 : 0 ≤ nth (Go.Proofs.Ytcmmklcampmkjaa.dist Q a) b
    · obtain ⟨s, hs2, hw⟩ := h.wayB hr (dist_way hQ (h.inQ _ _ hr) (h.inQ _ _ hs) h1)
      obtain rfl := h.own _ _ _ hs2 hs
      exact absurd (dist_le hP (h.inP _ _ hr) hw).1 h0
    · omega
end
section
variable {N : NetD} {kp : Nat → Nat → Bool} {zs : List Int}
/-- the edges of the network of kept ports -/
theorem part_adj (hg : N.good = true) (hz : PickOk N zs) (hK : KeepOk N zs kp) {a b v w : Nat} (ha : a < zs.length) (hb : b < zs.length) (hv : nth zs a = (v : Int)) (hw : nth zs b = (w : Int)) :
    Adj (partN N zs kp) a b ↔ ∃ i, i < (nthL N.ends v).length ∧ kp v i = true ∧ (nthE (nthL N.ends v) i).1 = (w : Int) := by
  obtain ⟨v', ev, hvn⟩ := hz.node a ha
  rw [hv] at ev
  obtain rfl : v = v' := by omega
  constructor
  · rintro ⟨_, _, c, hc, e⟩
    rw [part_deg ha hv] at hc
    obtain ⟨i, hi, hkp, rfl⟩ := cntK_port kp v _ c hc
    obtain ⟨x, j, he, hx, hj, _⟩ := good_end hg hvn hi
    obtain ⟨_, q, hq, hqx⟩ := hK.pair a v i x j ha hv hi hkp he
    rw [part_end hz hK hg ha hv hi hkp he hq hqx] at e
    have e : (q : Int) = (b : Int) := e
    have eq : q = b := by omega
    subst eq
    rw [hw] at hqx
    exact ⟨i, hi, hkp, by rw [he]; exact hqx.symm⟩
  · rintro ⟨i, hi, hkp, e⟩
    obtain ⟨x, j, he, hx, hj, _⟩ := good_end hg hvn hi
    rw [he] at e
    have e : (x : Int) = (w : Int) := e
    have e2 : x = w := by omega
    subst e2
    refine ⟨by rw [part_n]; exact ha, by rw [part_n]; exact hb, cntK kp v i, by rw [part_deg ha hv]; exact cntK_lt kp v hi hkp, ?_⟩
    rw [part_end hz hK hg ha hv hi hkp he hb hw]
theorem part_adj_lt {a b : Nat} (h : Adj (partN N zs kp) a b) : a < zs.length ∧ b < zs.length := by
  obtain ⟨h1, h2, _⟩ := h
  rw [part_n] at h1 h2
  exact ⟨h1, h2⟩
/-- all nodes in order -/
def allV (n : Nat) : List Int := (List.range n).map fun (v : Nat) => (v : Int)
theorem allV_len (n : Nat) : (allV n).length = n := by simp [allV]
theorem nth_allV {n v : Nat} (h : v < n) : nth (allV n) v = (v : Int) := by simp [nth, allV, h]
theorem allV_pick (N : NetD) : PickOk N (allV N.ends.length) := by
  refine ⟨fun k hk => ?_, fun a b ha hb e => ?_⟩
  · rw [allV_len] at hk; exact ⟨k, nth_allV hk, hk⟩
  · rw [allV_len] at ha hb
    rw [nth_allV ha, nth_allV hb] at e
    omega
/-- ports kept between nodes that satisfy something -/
structure KeepS (N : NetD) (S : Nat → Nat → Prop) (kp : Nat → Nat → Bool) : Prop where
  is : ∀ v i w : Nat, v < N.ends.length → i < (nthL N.ends v).length → (nthE (nthL N.ends v) i).1 = (w : Int) → (kp v i = true ↔ S v w)
theorem KeepS.ok {S : Nat → Nat → Prop} (hg : N.good = true) (h : KeepS N S kp) (hs : ∀ v w, S v w → S w v) : KeepOk N (allV N.ends.length) kp := by
  refine ⟨fun k v i w j hk hv hi hkp he => ?_⟩
  rw [allV_len] at hk
  rw [nth_allV hk] at hv
  obtain rfl : k = v := by omega
  obtain ⟨w', j', e1, h1, h2, h3⟩ := good_end hg hk hi
  rw [he] at e1
  simp only [Prod.mk.injEq] at e1
  have ew : w = w' := by omega
  have ej : j = j' := by omega
  subst ew ej
  have := (h.is k i w hk hi (by rw [he])).1 hkp
  exact ⟨(h.is w j k h1 h2 (by rw [h3])).2 (hs _ _ this), w, by rw [allV_len]; exact h1, nth_allV h1⟩
/-- THE SAME NODES, THE SAME DISTANCES: all nodes, with the ports between nodes of zs kept (and others that do not touch them), against the network of zs -/
theorem corr_part {S : Nat → Nat → Prop} (hg : N.good = true) (hS : KeepS N S kp) (hs : ∀ v w, S v w → S w v) (hz : PickOk N zs) (hzs : ∀ v w : Nat, w < N.ends.length → (v : Int) ∈ zs → (S v w ↔ (w : Int) ∈ zs)) :
    Corr (partN N (allV N.ends.length) kp) (partN N zs (kpB N zs)) (fun u a => a < zs.length ∧ nth zs a = (u : Int)) := by
  have hA := hS.ok hg hs
  have hK := kpB_ok hg hz
  have hin : ∀ u a : Nat, a < zs.length → nth zs a = (u : Int) → u < N.ends.length := fun u a ha e => by
    obtain ⟨t, et, ht⟩ := hz.node a ha
    rw [e] at et; omega
  refine ⟨fun u a s ⟨ha, hu⟩ hadj => ?_, fun u a b ⟨ha, hu⟩ hadj => ?_, fun u a b ⟨ha, hu⟩ ⟨hb, hv⟩ => hz.once a b ha hb (by rw [hu, hv]), fun u v a ⟨ha, hu⟩ ⟨_, hv⟩ => by rw [hu] at hv; omega, fun u a ⟨ha, hu⟩ => by rw [part_n, allV_len]; exact hin u a ha hu, fun u a ⟨ha, hu⟩ => by rw [part_n]; exact ha⟩
  · obtain ⟨hul, hsl⟩ := part_adj_lt hadj
    have hun := hin u a ha hu
    rw [allV_len] at hul hsl
    obtain ⟨i, hi, hkp, he⟩ := (part_adj hg (allV_pick N) hA (by rw [allV_len]; exact hul) (by rw [allV_len]; exact hsl) (nth_allV hul) (nth_allV hsl)).1 hadj
    have hm : (u : Int) ∈ zs := by rw [← hu]; exact nth_mem ha
    have hsm := (hzs u s hsl hm).1 ((hS.is u i s hun hi he).1 hkp)
    obtain ⟨b, hb, hbs⟩ := (pick_mem hz).1 hsm
    refine ⟨b, ⟨hb, hbs⟩, (part_adj hg hz hK ha hb hu hbs).2 ⟨i, hi, ?_, he⟩⟩
    unfold kpB
    rw [he, Bool.and_eq_true, decide_eq_true_eq, decide_eq_true_eq]
    exact ⟨hm, hsm⟩
  · obtain ⟨_, hb⟩ := part_adj_lt hadj
    obtain ⟨s, es, hsn⟩ := hz.node b hb
    have hun := hin u a ha hu
    obtain ⟨i, hi, hkp, he⟩ := (part_adj hg hz hK ha hb hu es).1 hadj
    have hm : (u : Int) ∈ zs := by rw [← hu]; exact nth_mem ha
    have hsm : (s : Int) ∈ zs := by rw [← es]; exact nth_mem hb
    exact ⟨s, ⟨hb, es⟩, (part_adj hg (allV_pick N) hA (by rw [allV_len]; exact hun) (by rw [allV_len]; exact hsn) (nth_allV hun) (nth_allV hsn)).2 ⟨i, hi, (hS.is u i s hun hi he).2 ((hzs u s hsn hm).2 hsm), he⟩⟩
end
end Go.Proofs.Ytcmmklcampmkjaa

/- Contracts of the program's distancesFrom and allDistances. -/
namespace Go.Proofs.Ytcmmklcampmkjaa
open Go.ChangeShapes Go.WideShapes Go.ChangeAt Go.RowKit
set_option linter.unusedVariables false

theorem tail_one {w : World} {base n c : Nat} {A B : Option Addr} {zs : List Int} (h : OwnQ w base (.slice (if c = 1 then A else B) n (c - 1)) zs) (e : c = 1) : OwnQ w base (.slice A n 0) zs := by
  subst e; exact h
theorem tail_more {w : World} {base n c : Nat} {A B : Option Addr} {zs : List Int} (h : OwnQ w base (.slice (if c = 1 then A else B) n (c - 1)) zs) (e : ¬ c = 1) : OwnQ w base (.slice B n (c - 1)) zs := by
  rwa [if_neg e] at h

set_option maxHeartbeats 4000000 in
set_option maxRecDepth 100000 in
theorem distancesFrom_any (v : Value) (N : NetD) (x : Nat) (lo hi : Nat) (w : World) (h : Net w lo hi v N) (hhi : hi ≤ w.heap.size) (hx : x < N.ends.length) (hn : N.ends.length ≤ 1048576) (hN : N.nodes) (hdeg : ∀ u, u < N.ends.length → (nthL N.ends u).length ≤ 1048576) :
    Calls Try.prog 59 #[v, .int .i64 x] w fun e w' => ∃ r, e = .returned r ∧ IntS w' w.heap.size w'.heap.size r (dist N x) ∧ Below w.heap.size w w' := by
  have HNET := Lib.hid h
  obtain ⟨A, c, A2, c2, A3, c3, rfl, hc1, hc2, _, _, hopen⟩ := h.parts
  obtain ⟨b, off, rfl, hb1, hb2, hNO⟩ := hopen (by omega)
  have NW := Lib.hid hNO
  have hxl : (x : Int) < N.ends.length := by omega
  have HNN := Lib.hid hN
  have HDG := Lib.hid hdeg
  have b0 := (Box3.new w 34 (.slice (some ⟨b, off, none⟩) N.ends.length c) (.slice A2 N.ids.length c2) (.slice A3 N.inputs.length c3)).alloc (.cells #[.int .i64 (-1)] 3)
  have hb0 := below_a2' w (.cells #[.slice (some ⟨b, off, none⟩) N.ends.length c, .slice A2 N.ids.length c2, .slice A3 N.inputs.length c3] 34) (.cells #[.int .i64 (-1)] 3)
  clear h hN hdeg hopen hNO
  go_enter Try.func59, Try.ntmps59
  go_wp2_with fail
  refine (repeat1_any _ (-1) N.ends.length (w.heap.size + 1) (w.heap.size + 1 + 1) _ (IntS.one _ _ _ (by simp)) (by simp) hn).mono ?_
  rintro e w1 ⟨r, rfl, hr, hbr⟩
  have hsh := hr.form
  rw [List.length_replicate] at hsh
  obtain ⟨O, co, rfl, hco1, hco2, hocell⟩ := hsh
  obtain ⟨bo, oo, rfl, ho1, ho2, _⟩ := hocell (by omega)
  have hsz1 := hbr.size
  have hbx := b0.below hbr (by simp; omega)
  have hb := hb0.trans (hbr.mono (by simp; omega))
  rw [show ((w.alloc (.cells #[.slice (some ⟨b, off, none⟩) N.ends.length c, .slice A2 N.ids.length c2, .slice A3 N.inputs.length c3] 34)).alloc (.cells #[.int .i64 (-1)] 3)).heap.size = w.heap.size + 2 by simp] at hr ho1 hsz1
  clear b0 hb0 hbr hocell
  have hoc := hr.at_ (j := x) (by simpa using hx)
  rw [nth_replicate _ _ hx] at hoc
  obtain ⟨hoc1, hoc2⟩ := hoc
  obtain ⟨sO, HSO⟩ : ∃ sO, sO = w1.heap.size := ⟨_, rfl⟩
  have hO1 := (hr.set (j := x) (by simpa using hx) 0).alloc (by rw [size_setCell]; omega) (.cells #[.int .i64 x] 3)
  have hQ1 := OwnQ.one (base := sO) (w1.setCell ⟨bo, oo + x, none⟩ (.int .i64 0)) x 3 (g := w1.heap.size) (by rw [size_setCell]) (by omega)
  have hbx1 := (hbx.far (p := ⟨bo, oo + x, none⟩) (by show w.heap.size ≠ bo; omega) (.int .i64 0)).alloc (.cells #[.int .i64 x] 3)
  have hb1' := (hb.setCell (p := ⟨bo, oo + x, none⟩) (by show w.heap.size ≤ bo; omega) (.int .i64 0)).alloc (by rw [size_setCell]; omega) (.cells #[.int .i64 x] 3)
  have hs1 : sO ≤ ((w1.setCell ⟨bo, oo + x, none⟩ (.int .i64 0)).alloc (.cells #[.int .i64 x] 3)).heap.size := by simp; omega
  rw [← HSO] at hO1 ho2 hsz1
  clear hr hbx hb
  go_wp2_with fail
  clear hoc1 hoc2 HSO
  go_loopg [6] (N.ends.length + 1) (fun gg qv wr => ∃ (a : Nat) (st : BSt), N.ends.length + 1 - a ≤ gg ∧ OwnQ wr sO qv (st.2.drop a) ∧ IntS wr (w.heap.size + 2) sO (.slice (some ⟨bo, oo, none⟩) N.ends.length co) st.1 ∧ Hid (BTop N x a st) ∧
      a ≤ st.2.length ∧ st.2.length ≤ N.ends.length ∧ Box3 wr w.heap.size 34 (.slice (some ⟨b, off, none⟩) N.ends.length c) (.slice A2 N.ids.length c2) (.slice A3 N.inputs.length c3) ∧ sO ≤ wr.heap.size ∧ Below w.heap.size w wr)
  case atStart => exact ⟨0, bfs0 N x, by omega, hQ1, hO1, Lib.hid (BTop.start hx), Nat.zero_le _, (BInv.start hx).le, hbx1, hs1, hb1'⟩
  case round =>
    clear hO1 hQ1 hbx1 hb1' hs1
    obtain ⟨a, st, hgg, hQ, hO, HT, hal, hln, hbx, hs, hb⟩ := hrel
    obtain ⟨ql, HQL⟩ : ∃ ql, Hid ((st.2.drop a).length = ql) := ⟨_, Lib.hid rfl⟩
    have hql : ql + a = st.2.length := by rw [← HQL.out, List.length_drop]; omega
    have HQ := Lib.hid hQ
    obtain ⟨g, qo, cq, rfl, hq1, hq2, hq3, hq4, hq5, _⟩ := hQ
    rw [HQL.out] at hq1 hq5
    unfold maxLen at hq2
    by_cases hlt : a < st.2.length
    case neg =>
      obtain rfl : a = st.2.length := by omega
      obtain rfl : ql = 0 := by omega
      rw [HQL.out]
      go_wp2_with fail
      go_ret
      refine ⟨.slice (some ⟨bo, oo, none⟩) N.ends.length co, rfl, ?_, hb⟩
      rw [HT.out.stop]
      exact hO.mono (by omega) hs
    obtain ⟨u, hu1, hu2, hu3, hu4⟩ := HT.out.inv.node a hlt
    have kw := hq5 0 (by omega)
    rw [nth_drop, Nat.add_zero, Nat.add_zero, hu1] at kw
    have HU1 := Lib.hid hu1
    obtain ⟨A4, c4, e1, e2, e3, e4⟩ := NW.out u hu2
    have g1 := (hb.cell (p := ⟨b, off + u, none⟩) (by show b < _; omega)).trans e1
    have g0 := hbx.cells.1
    obtain ⟨d, HD⟩ : ∃ d, Hid (nth st.1 u = d) := ⟨_, Lib.hid rfl⟩
    rw [HD.out] at hu3 hu4
    have hd1 := HDG.out u hu2
    have hui : (u : Int) < N.ends.length := by omega
    have HQ2 := HQ.out
    rw [HQL.out, List.drop_eq_getElem_cons hlt] at HQ2
    have HQT := Lib.hid HQ2.tail
    have HC4 := Lib.hid e4
    clear HQ2 hu1 hq5 e1 e4
    obtain ⟨wo, rfl⟩ : ∃ wo : World, wo = wr := ⟨_, rfl⟩
    rw [HQL.out]
    have hqp : (0 : Int) < ql := by omega
    go_wp2_with fail
    clear kw g1 g0
    all_goals
      go_loopw [34, 6] (fun i qv wi => ∃ (m : Nat) (os ws : List Int), m ≤ (nthL N.ends u).length ∧ i = .int .i64 m ∧ OwnQ wi sO qv (ws.drop (a + 1)) ∧ IntS wi (w.heap.size + 2) sO (.slice (some ⟨bo, oo, none⟩) N.ends.length co) os ∧ Hid (BMid N a st u d m (os, ws)) ∧
          a < ws.length ∧ ws.length ≤ N.ends.length ∧ Box3 wi w.heap.size 34 (.slice (some ⟨b, off, none⟩) N.ends.length c) (.slice A2 N.ids.length c2) (.slice A3 N.inputs.length c3) ∧ sO ≤ wi.heap.size ∧ Below w.heap.size w wi) (fun i _ _ => (nthL N.ends u).length - (intOf i).toNat)
      case atStart =>
        exact ⟨0, st.1, st.2, Nat.zero_le _, rfl, (by first | exact tail_one HQT.out (by assumption) | exact tail_more HQT.out (by assumption)), hO, Lib.hid (BMid.start HT.out.inv hlt HU1.out HD.out), hlt, hln, hbx, hs, hb⟩
      case round =>
        clear HQT HQ hO hbx hb hs
        obtain ⟨m, os, ws, hm, rfl, hQ, hO, HM, hal, hln, hbx, hs, hb⟩ := hrel
        by_cases hml : m < (nthL N.ends u).length
        case neg =>
          obtain rfl : m = (nthL N.ends u).length := by omega
          go_wp2_with fail
          go_roundg (N.ends.length - a)
          case measure => omega
          case rel => exact ⟨a + 1, (os, ws), by omega, hQ, hO, Lib.hid (HT.out.next hlt HM.out HU1.out HD.out), hal, hln, hbx, hs, hb⟩
        obtain ⟨b2, off2, rfl, hb5, hb6, hcs⟩ := HC4.out (by omega)
        obtain ⟨x1, x2⟩ := hcs m hml
        have e1 := (hb.cell (p := ⟨b2, off2 + m * 2, none⟩) (by show b2 < _; omega)).trans x1
        have e2 := (hb.cell (p := ⟨b2, off2 + m * 2 + 1, none⟩) (by show b2 < _; omega)).trans x2
        obtain ⟨t, ht, htl⟩ := HNN.out u hu2 m hml
        rw [ht] at e1
        obtain ⟨p2, HP2⟩ : ∃ p2, Hid ((nthE (nthL N.ends u) m).2 = p2) := ⟨_, Lib.hid rfl⟩
        rw [HP2.out] at e2
        have hlen : os.length = N.ends.length := HM.out.inv.len
        have ht1 := (hO.at_ (j := t) (by omega)).1
        have ht2 := (hO.at_ (j := t) (by omega)).2
        have hu1 := (hO.at_ (j := u) (by omega)).1
        rw [HM.out.here] at hu1
        obtain ⟨y, HY⟩ : ∃ y, Hid (nth os t = y) := ⟨_, Lib.hid rfl⟩
        rw [HY.out] at ht1
        have HTT := Lib.hid ht
        have hti : (t : Int) < N.ends.length := by omega
        obtain ⟨wi, HWI⟩ : ∃ wi, Hid (wi = wr.alloc (.cells #[.int .i64 t, .int .i64 p2] 60)) := ⟨_, Lib.hid rfl⟩
        have hO1 : IntS wi (w.heap.size + 2) sO (.slice (some ⟨bo, oo, none⟩) N.ends.length co) os := by rw [HWI.out]; exact hO.alloc hs _
        have hQ1 := Lib.hid (show OwnQ wi sO _ (ws.drop (a + 1)) by rw [HWI.out]; exact hQ.alloc _)
        have hbx1 : Box3 wi w.heap.size 34 (.slice (some ⟨b, off, none⟩) N.ends.length c) (.slice A2 N.ids.length c2) (.slice A3 N.inputs.length c3) := by rw [HWI.out]; exact hbx.alloc _
        have hb1' : Below w.heap.size w wi := by rw [HWI.out]; exact hb.alloc hb.size _
        have hs1 : sO ≤ wi.heap.size := by rw [HWI.out]; simp; omega
        have hat1 := (hO1.at_ (j := t) (by omega)).1
        rw [HY.out] at hat1
        have hat2 := (hO1.at_ (j := t) (by omega)).2
        have hau1 := (hO1.at_ (j := u) (by omega)).1
        rw [HM.out.here] at hau1
        have hen : wi.cell? ⟨wr.heap.size, 0, none⟩ = some (.int .i64 t) := by rw [HWI.out, World.cell?_alloc_at _ _ _ _ rfl]; rfl
        clear ht hcs x1 x2 hlen
        have za := hat1
        have zb := hen
        rw [HWI.out] at za zb
        by_cases hy : y < 0
        case neg =>
          clear hat1 hat2 hau1 hen
          go_wp2_with fail
          go_roundw
          case rel =>
            rw [← HWI.out]
            refine ⟨m + 1, os, ws, by omega, by go_num, hQ1.out, hO1, Lib.hid ?_, hal, hln, hbx1, hs1, hb1'⟩
            have := HM.out.next hml HTT.out htl
            rwa [see_pos (by rw [HY.out]; exact hy)] at this
          case measure => simp [intOf]; omega
        go_wp2_with fail
        rw [← HWI.out]
        clear za zb
        go_region
        obtain ⟨W3, HW3⟩ : ∃ W3, Hid (W3 = (wi.setCell ⟨bo, oo + t, none⟩ (.int .i64 (d + 1))).drew) := ⟨_, Lib.hid rfl⟩
        rw [← HW3.out]
        have hnext : Hid (BMid N a st u d (m + 1) (os.set t (d + 1), ws ++ [(t : Int)])) := Lib.hid (by
          have := HM.out.next hml HTT.out htl
          rwa [see_neg (by rw [HY.out]; exact hy)] at this)
        have hlen : os.length = N.ends.length := HM.out.inv.len
        have hO2 : IntS W3 (w.heap.size + 2) sO (.slice (some ⟨bo, oo, none⟩) N.ends.length co) (os.set t (d + 1)) := by rw [HW3.out]; exact hO1.set (j := t) (by omega) (d + 1)
        have HQ2 := Lib.hid (show OwnQ W3 sO _ (ws.drop (a + 1)) by rw [HW3.out]; exact (hQ1.out.setCell (p := ⟨bo, oo + t, none⟩) ho2 (.int .i64 (d + 1))).drew)
        have hbx2 : Box3 W3 w.heap.size 34 (.slice (some ⟨b, off, none⟩) N.ends.length c) (.slice A2 N.ids.length c2) (.slice A3 N.inputs.length c3) := by rw [HW3.out]; exact hbx1.far (p := ⟨bo, oo + t, none⟩) (by show w.heap.size ≠ bo; omega) _
        have hb2' : Below w.heap.size w W3 := by rw [HW3.out]; exact (hb1'.setCell (p := ⟨bo, oo + t, none⟩) (by show w.heap.size ≤ bo; omega) _).drew
        have hs2 : sO ≤ W3.heap.size := by rw [HW3.out]; show sO ≤ (wi.setCell _ _).heap.size; rw [size_setCell]; exact hs1
        have hen2 : W3.cell? ⟨wr.heap.size, 0, none⟩ = some (.int .i64 t) := by
          rw [HW3.out]
          show (wi.setCell _ _).cell? _ = _
          rw [World.cell?_setCell_other _ _ _ _ (by intro e; injection e with e _ _; omega)]
          exact hen
        clear HW3 hO1 hQ1 hbx1 hb1' hs1 hat1 hat2 hau1 hen hlen
        have hdl : (ws.drop (a + 1)).length ≤ N.ends.length := by rw [List.length_drop]; omega
        go_wp2_with (at_builtin; refine append_q (s := .tmp 53) Try.underlying23 Try.info3 (by decide) W3 rfl _ rfl HQ2.out t _ rfl (by simp [Act.eval, go_sem]) (by omega) ?_; intro v' w' hq' hg' hat')
        go_roundw
        case rel =>
          have hrow := HQ2.out.lt
          have hgs := hg'.size
          refine ⟨m + 1, os.set t (d + 1), ws ++ [(t : Int)], by omega, by go_num, ?_, hO2.far hg' (by omega) (fun k hk => by have := hrow k hk; omega), hnext, by simp; omega, hnext.out.inv.le, hbx2.grown hg' (fun k hk => by have := hrow k hk; omega), by omega, hb2'.grown hg' (by omega) fun k hk => by have := hrow k hk; omega⟩
          rw [List.drop_append_of_le_length (by omega)]
          exact hq'
        case measure => simp [intOf]; omega

end Go.Proofs.Ytcmmklcampmkjaa
