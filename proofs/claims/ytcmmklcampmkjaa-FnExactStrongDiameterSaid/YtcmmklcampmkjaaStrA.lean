/-
  Several texts in one: StrP, Bss, KeA, Stp, Put, KeC, KeD, KeE, KeF. No condition on any program.
-/
import Derived.Test.YtcmmklcampmkjaaStrC
import Derived.Test.YtcmmklcampmkjaaDiam
import Derived.Test.YtcmmklcampmkjaaBoolS
import Derived.Test.YtcmmklcampmkjaaOwnSS
import Derived.Test.YtcmmklcampmkjaaSSet
import Derived.Test.YtcmmklcampmkjaaDistI
import Derived.Test.YtcmmklcampmkjaaEdge2
import Derived.Test.YtcmmklcampmkjaaPerm
import Derived.Test.YtcmmklcampmkjaaQuadP
import Derived.Test.YtcmmklcampmkjaaFrame
import Derived.Test.YtcmmklcampmkjaaReg
import Derived.Test.YtcmmklcampmkjaaBasics
import Derived.Laws.AppendOwnNone
import Derived.Test.YtcmmklcampmkjaaGrow
import Derived.Test.YtcmmklcampmkjaaIsNet
import Derived.Deep.AppendLies

/- Plain: the network in which only edges inside clusters are kept; its distances are those in the networks of the clusters. No condition on any program. -/
namespace Go.Proofs.Ytcmmklcampmkjaa
set_option linter.unusedVariables false

def kpC (N : NetD) (l : List Int) (v i : Nat) : Bool := decide (nth l v = nth l (nthE (nthL N.ends v) i).1.toNat)
def innerN (N : NetD) (l : List Int) : NetD := partN N (allV N.ends.length) (kpC N l)
def ownN (N : NetD) (l : List Int) (k : Nat) : NetD := partN N (clusN l k) (kpB N (clusN l k))
/-- all distances of a network -/
def diaL (P : NetD) (k : Nat) : List Int := (List.range k).flatMap fun v => dist P v
def diaN (P : NetD) : Int := mostI (diaL P P.ends.length)
theorem diaL_succ (P : NetD) (k : Nat) : diaL P (k + 1) = diaL P k ++ dist P k := by unfold diaL; rw [List.range_succ, List.flatMap_append]; simp
/-- node 0 reaches all -/
def connB (P : NetD) : Bool := (dist P 0).all fun x => inB x 0 40
/-- the pairs of nodes of one cluster looked at so far are joined inside it -/
def strongAt (N : NetD) (l : List Int) (v w : Nat) : Bool := !decide (nth l v = nth l w) || decide (0 ≤ nth (dist (innerN N l) v) w)
def strongB (N : NetD) (l : List Int) : Bool := (List.range N.ends.length).all fun v => (List.range N.ends.length).all fun w => strongAt N l v w
section
variable {N : NetD} {l : List Int}
theorem kpC_keep (hg : N.good = true) : KeepS N (fun v w => nth l v = nth l w) (kpC N l) := ⟨fun v i w hv hi e => by unfold kpC; rw [e, decide_eq_true_eq, Int.toNat_natCast]⟩
theorem inner_good (hg : N.good = true) : (innerN N l).good = true :=
  part_good hg (allV_pick N) ((kpC_keep hg).ok hg fun v w h => h.symm) (by rw [allV_len]; exact (good_n hg).1) (by rw [allV_len]; exact (good_n hg).2)
theorem inner_n (N : NetD) (l : List Int) : (innerN N l).ends.length = N.ends.length := by unfold innerN; rw [part_n, allV_len]
theorem mem_clus (hl : l.length = N.ends.length) {k v : Nat} : (v : Int) ∈ clusN l k ↔ v < N.ends.length ∧ nth l v = (k : Int) := by
  unfold clusN
  rw [mem_fibL, hl]
  constructor
  · rintro ⟨w, h1, h2, e⟩
    have : v = w := by omega
    subst this
    exact ⟨h1, h2⟩
  · rintro ⟨h1, h2⟩; exact ⟨v, h1, h2, rfl⟩
theorem fibL_sorted (l : List Int) (c : Nat) : ∀ m, (fibL l c m).Pairwise (· < ·)
  | 0 => by simp [fibL]
  | m + 1 => by
    by_cases h : nth l m = c
    · rw [fibL_yes h, List.pairwise_append]
      refine ⟨fibL_sorted l c m, List.pairwise_singleton _ _, fun a ha b hb => ?_⟩
      rw [List.mem_singleton] at hb
      obtain ⟨v, hv, _, rfl⟩ := mem_fibL.1 ha
      omega
    · rw [fibL_no h]; exact fibL_sorted l c m
theorem clus_pick (hl : l.length = N.ends.length) (k : Nat) : PickOk N (clusN l k) := by
  refine ⟨fun j hj => clusN_node hl k _ (nth_mem hj), fun a b ha hb e => ?_⟩
  have hp : (clusN l k).Pairwise (· < ·) := fibL_sorted l k _
  rw [nth_eq ha, nth_eq hb] at e
  have key := List.pairwise_iff_getElem.1 hp
  rcases Nat.lt_trichotomy a b with h1 | h1 | h1
  · have := key a b ha hb h1; omega
  · exact h1
  · have := key b a hb ha h1; omega
theorem clus_len (hl : l.length = N.ends.length) (k : Nat) : (clusN l k).length ≤ N.ends.length := by rw [← hl]; exact fibL_len l k _
theorem clus_corr (hg : N.good = true) (hl : l.length = N.ends.length) (k : Nat) : Corr (innerN N l) (ownN N l k) (fun u a => a < (clusN l k).length ∧ nth (clusN l k) a = (u : Int)) := by
  refine corr_part hg (kpC_keep hg) (fun v w h => h.symm) (clus_pick hl k) fun v w hw hv => ?_
  obtain ⟨hvn, hvk⟩ := (mem_clus hl).1 hv
  rw [hvk, mem_clus hl]
  exact ⟨fun h => ⟨hw, h.symm⟩, fun h => h.2.symm⟩
theorem own_n (N : NetD) (l : List Int) (k : Nat) : (ownN N l k).ends.length = (clusN l k).length := by unfold ownN; rw [part_n]
theorem own_good (hg : N.good = true) (hl : l.length = N.ends.length) {k : Nat} (h0 : 0 < (clusN l k).length) : (ownN N l k).good = true :=
  part_good hg (clus_pick hl k) (kpB_ok hg (clus_pick hl k)) h0 (by have := clus_len hl k; have := (good_n hg).2; omega)
theorem clus_pos (hc : Clus N l) {k : Nat} (hk : (k : Int) ≤ mostI l) : 0 < (clusN l k).length := by
  obtain ⟨i, hi, e⟩ := List.mem_iff_getElem.1 (hc.full k hk)
  refine List.length_pos_of_mem (a := (i : Int)) ((mem_clus hc.len).2 ⟨by rw [← hc.len]; exact hi, ?_⟩)
  rw [nth_eq hi, e]
theorem conn_at {P : NetD} (hP : P.good = true) : connB P = true ↔ ∀ b, b < P.ends.length → 0 ≤ nth (dist P 0) b := by
  obtain ⟨n1, n40⟩ := good_n hP
  have hN := good_nodes hP
  unfold connB
  rw [List.all_eq_true]
  constructor
  · intro h b hb
    exact (inB_le (h _ (nth_mem (by rw [dist_len hN n1]; exact hb)))).1
  · intro h x hx
    obtain ⟨b, hb, e⟩ := List.mem_iff_getElem.1 hx
    rw [dist_len hN n1] at hb
    have h1 := h b hb
    have h2 := (dist_low hN n1 hb).2
    rw [nth_eq (by rw [dist_len hN n1]; exact hb), e] at h1 h2
    unfold inB
    simp only [Bool.and_eq_true, decide_eq_true_eq]
    omega
theorem strong_at : strongB N l = true ↔ ∀ v w, v < N.ends.length → w < N.ends.length → nth l v = nth l w → 0 ≤ nth (dist (innerN N l) v) w := by
  unfold strongB strongAt
  simp only [List.all_eq_true, List.mem_range, Bool.or_eq_true, Bool.not_eq_true', decide_eq_false_iff_not, decide_eq_true_eq]
  constructor
  · intro h v w hv hw e
    rcases h v hv w hw with h | h
    · exact absurd e h
    · exact h
  · intro h v hv w hw
    by_cases e : nth l v = nth l w
    · exact .inr (h v w hv hw e)
    · exact .inl e
theorem strong_iff (hg : N.good = true) (hc : Clus N l) : strongB N l = true ↔ ∀ k : Nat, (k : Int) ≤ mostI l → connB (ownN N l k) = true := by
  have hI := good_nodes (inner_good (l := l) hg)
  rw [strong_at]
  constructor
  · intro h k hk
    have h0 := clus_pos hc hk
    have hO := own_good hg hc.len h0
    rw [conn_at hO]
    intro b hb
    rw [own_n] at hb
    have hC := clus_corr hg hc.len k
    obtain ⟨u, eu, hu⟩ := (clus_pick hc.len k).node 0 h0
    obtain ⟨w, ew, hw⟩ := (clus_pick hc.len k).node b hb
    rw [hC.eq hI (good_nodes hO) (u := u) (t := w) ⟨h0, eu⟩ ⟨hb, ew⟩]
    have h1 := ((mem_clus hc.len).1 (by rw [← eu]; exact nth_mem h0)).2
    have h2 := ((mem_clus hc.len).1 (by rw [← ew]; exact nth_mem hb)).2
    exact h u w hu hw (by rw [h1, h2])
  · intro h v w hv hw e
    have hm := nth_mem (zs := l) (i := v) (by rw [hc.len]; exact hv)
    have hlow := hc.low _ hm
    have hle := (mostI_spec l).2.1 _ hm
    obtain ⟨k, ek⟩ : ∃ k : Nat, nth l v = k := ⟨(nth l v).toNat, by omega⟩
    have hk : (k : Int) ≤ mostI l := by omega
    have h0 := clus_pos hc hk
    have hO := own_good hg hc.len h0
    have hcn := (conn_at hO).1 (h k hk)
    have hC := clus_corr hg hc.len k
    obtain ⟨a, ha, ea⟩ := (pick_mem (clus_pick hc.len k)).1 ((mem_clus hc.len).2 ⟨hv, ek⟩)
    obtain ⟨b, hb, eb⟩ := (pick_mem (clus_pick hc.len k)).1 ((mem_clus hc.len).2 ⟨hw, by rw [← e]; exact ek⟩)
    rw [← hC.eq hI (good_nodes hO) (u := v) (t := w) ⟨ha, ea⟩ ⟨hb, eb⟩]
    have n0 : 0 < (ownN N l k).ends.length := by rw [own_n]; exact h0
    have na : a < (ownN N l k).ends.length := by rw [own_n]; exact ha
    have nb : b < (ownN N l k).ends.length := by rw [own_n]; exact hb
    exact Reach.trans hO na n0 nb (Reach.symm hO n0 na (hcn a na)) (hcn b nb)
theorem strong_clus (hg : N.good = true) (hc : Clus N l) (hs : strongB N l = true) : Clus (innerN N l) l := by
  have hI := inner_good (l := l) hg
  refine ⟨by rw [inner_n]; exact hc.len, fun x hx => by rw [inner_n]; exact hc.low x hx, hc.full, fun v w hv hw e => ?_⟩
  have hv' := hv
  have hw' := hw
  rw [inner_n] at hv' hw'
  exact (comp_reach hI hv hw).1 (strong_at.1 hs v w hv' hw' e)
theorem mem_diaL {P : NetD} (hP : P.nodes) {k : Nat} (hk : k ≤ P.ends.length) {x : Int} : x ∈ diaL P k ↔ ∃ a b, a < k ∧ b < P.ends.length ∧ x = nth (dist P a) b := by
  unfold diaL
  rw [List.mem_flatMap]
  constructor
  · rintro ⟨a, ha, hx⟩
    rw [List.mem_range] at ha
    obtain ⟨b, hb, e⟩ := List.mem_iff_getElem.1 hx
    have hb' := hb
    rw [dist_len hP (by omega)] at hb'
    exact ⟨a, b, ha, hb', by rw [nth_eq hb, e]⟩
  · rintro ⟨a, b, ha, hb, rfl⟩
    exact ⟨a, List.mem_range.2 ha, nth_mem (by rw [dist_len hP (by omega)]; exact hb)⟩
theorem dia_wide (hg : N.good = true) (hl : l.length = N.ends.length) {k : Nat} (h0 : 0 < (clusN l k).length) : diaN (ownN N l k) = wide (innerN N l) (clusN l k) := by
  have hI := good_nodes (inner_good (l := l) hg)
  have hO := own_good hg hl h0
  have hC := clus_corr hg hl k
  have hp := clus_pick hl k
  unfold diaN wide
  refine mostI_congr (fun x hx => ?_) fun x hx => ?_
  · obtain ⟨a, b, ha, hb, rfl⟩ := (mem_diaL (good_nodes hO) (Nat.le_refl _)).1 hx
    rw [own_n] at ha hb
    obtain ⟨u, eu, hu⟩ := hp.node a ha
    obtain ⟨w, ew, hw⟩ := hp.node b hb
    rw [hC.eq hI (good_nodes hO) (u := u) (t := w) ⟨ha, eu⟩ ⟨hb, ew⟩]
    unfold wideL
    rw [List.mem_flatMap]
    refine ⟨(u : Int), by rw [← eu]; exact nth_mem ha, ?_⟩
    unfold thruL
    rw [List.mem_map]
    exact ⟨(w : Int), by rw [← ew]; exact nth_mem hb, by rw [Int.toNat_natCast, Int.toNat_natCast]⟩
  · unfold wideL at hx
    rw [List.mem_flatMap] at hx
    obtain ⟨u, hu, hx⟩ := hx
    unfold thruL at hx
    rw [List.mem_map] at hx
    obtain ⟨w, hw, rfl⟩ := hx
    obtain ⟨a, ha, ea⟩ := List.mem_iff_getElem.1 hu
    obtain ⟨b, hb, eb⟩ := List.mem_iff_getElem.1 hw
    rw [← nth_eq ha] at ea
    rw [← nth_eq hb] at eb
    obtain ⟨u', eu, hu'⟩ := hp.node a ha
    obtain ⟨w', ew, hw'⟩ := hp.node b hb
    rw [← ea, ← eb, eu, ew, Int.toNat_natCast, Int.toNat_natCast, ← hC.eq hI (good_nodes hO) (u := u') (t := w') ⟨ha, eu⟩ ⟨hb, ew⟩]
    exact (mem_diaL (good_nodes hO) (Nat.le_refl _)).2 ⟨a, b, by rw [own_n]; exact ha, by rw [own_n]; exact hb, rfl⟩
end
/-! what StrongDiameter hands back -/
def strongOk (N : NetD) (D : DecD) : Bool := askedB N D && strongB N D.cluster
def strongV (N : NetD) (D : DecD) : Int := if strongOk N D = true then mostI (diams (innerN N D.cluster) D.cluster D.colour.length) else 0
theorem strongV_no {N : NetD} {D : DecD} (h : strongOk N D = false) : strongV N D = 0 := by unfold strongV; rw [h]; rfl
theorem strongV_yes {N : NetD} {D : DecD} (h : strongOk N D = true) : strongV N D = mostI (diams (innerN N D.cluster) D.cluster D.colour.length) := by unfold strongV; rw [if_pos h]
end Go.Proofs.Ytcmmklcampmkjaa

/- Slices of slices of booleans that a call owns and appends rows to; a place of one, and what a store leaves. No condition on any program. -/
namespace Go.Proofs.Ytcmmklcampmkjaa
open Go.RowKit
set_option linter.unusedVariables false
abbrev BoolSSx := SSx BoolS

/-- v is a slice of slices that reads as xss; its own row lies from block base on; its rows lie one behind the other, from base on and below top -/
def OwnBS (w : World) (base top : Nat) (e : TypeId) (v : Value) (xss : List (List Bool)) : Prop :=
  ∃ (vs : List Value) (lo hi : Nat → Nat), vs.length = xss.length ∧ Own w base e v vs ∧ base ≤ top ∧ top ≤ w.heap.size ∧
    (∀ j, j < xss.length → ∃ u, vs[j]? = some u ∧ base ≤ lo j ∧ hi j ≤ top ∧ BoolS w (lo j) (hi j) u (nthL xss j) ∧ ∀ g, v.ownBlock = some g → g < lo j ∨ hi j ≤ g) ∧
    ∀ i j, i < j → j < xss.length → hi i ≤ lo j


section
variable {w w' : World} {base top : Nat} {e : TypeId} {v : Value} {xss : List (List Bool)}
theorem OwnBS.nil (w : World) (base top : Nat) (e : TypeId) (h1 : base ≤ top) (h2 : top ≤ w.heap.size) : OwnBS w base top e (.slice none 0 0) [] :=
  ⟨[], fun _ => 0, fun _ => 0, rfl, Own.nil _ _ _, h1, h2, fun j hj => absurd hj (by simp), fun i j _ hj => absurd hj (by simp)⟩
theorem OwnBS.below (h : OwnBS w base top e v xss) (hb : Below w.heap.size w w') : OwnBS w' base top e v xss := by
  obtain ⟨vs, lo, hi, h1, h2, h3, h4, h5, h6⟩ := h
  refine ⟨vs, lo, hi, h1, h2.kept (row := none) ⟨hb.os, hb.tape, hb.output, hb.size, fun k hk _ => hb.block k hk⟩ (by cases hv : v.ownBlock with
    | none => exact .inl rfl
    | some g => right; simp), h3, Nat.le_trans h4 hb.size, fun j hj => ?_, h6⟩
  obtain ⟨u, a1, a2, a3, a4, a5⟩ := h5 j hj
  exact ⟨u, a1, a2, a3, a4.below hb (by omega), a5⟩
theorem OwnBS.alloc (h : OwnBS w base top e v xss) (o : Obj) : OwnBS (w.alloc o) base top e v xss := h.below ((Below.refl _ _).alloc (Nat.le_refl _) o)
theorem OwnBS.drew (h : OwnBS w base top e v xss) : OwnBS w.drew base top e v xss := h
theorem OwnBS.drewN (h : OwnBS w base top e v xss) (k : Nat) : OwnBS (w.drewN k) base top e v xss := h
theorem OwnBS.len (h : OwnBS w base top e v xss) : ∃ A c, v = .slice A xss.length c ∧ xss.length ≤ c ∧ c ≤ maxLen := by
  obtain ⟨vs, lo, hi, h1, h2, _⟩ := h
  obtain ⟨A, c, e, a1, a2, _⟩ := h2.form
  exact ⟨A, c, by rw [e, h1], by omega, a2⟩
theorem OwnBS.lt (h : OwnBS w base top e v xss) : ∀ k, v.ownBlock = some k → base ≤ k ∧ k < w.heap.size := by
  obtain ⟨vs, lo, hi, h1, h2, _⟩ := h
  exact h2.lt
theorem OwnBS.mono (h : OwnBS w base top e v xss) {top' : Nat} (h1 : top ≤ top') (h2 : top' ≤ w.heap.size) : OwnBS w base top' e v xss := by
  obtain ⟨vs, lo, hi, a1, a2, a3, a4, a5, a6⟩ := h
  refine ⟨vs, lo, hi, a1, a2, by omega, h2, fun j hj => ?_, a6⟩
  obtain ⟨u, b1, b2, b3, b4, b5⟩ := a5 j hj
  exact ⟨u, b1, b2, by omega, b4, b5⟩
theorem OwnBS.ssx (h : OwnBS w base top e v xss) : BoolSSx w base w.heap.size v xss := by
  obtain ⟨vs, lo, hi, h1, h2, h3, h4, h5, h6⟩ := h
  have hsl : Sl w base w.heap.size 1 v xss.length (fun j => vs.getD j undef) := by
    have := Sl.of_own (f := fun j => vs.getD j undef) h2 (fun j hj => by simp at hj; simp [hj])
    rwa [h1] at this
  have hr : ∀ j, j < xss.length → BoolS w (lo j) (hi j) (vs.getD j undef) (nthL xss j) ∧ base ≤ lo j ∧ hi j ≤ top ∧ ∀ g, v.ownBlock = some g → g < lo j ∨ hi j ≤ g := fun j hj => by
    obtain ⟨u, a1, a2, a3, a4, a5⟩ := h5 j hj
    have : vs.getD j undef = u := by simp [a1]
    rw [this]
    exact ⟨a4, a2, a3, a5⟩
  refine ⟨fun j => vs.getD j undef, hsl, fun i hi' => (hr i hi').1.mono (hr i hi').2.1 (by have := (hr i hi').2.2.1; omega), fun i j hij hj => ?_, fun i hi' => ?_⟩
  · obtain ⟨a1, _⟩ := hr i (by omega)
    obtain ⟨b1, _⟩ := hr j hj
    rcases Sl.row a1 with e1 | ⟨g1, e1, c1, c2⟩
    · exact .inl e1
    · right
      rw [e1]
      rcases Sl.row b1 with e2 | ⟨g2, e2, d1, d2⟩
      · rw [e2]; simp
      · rw [e2]; intro e3; injection e3 with e3; have := h6 i j hij hj; omega
  · obtain ⟨a1, _, _, a2⟩ := hr i hi'
    rcases Sl.row a1 with e1 | ⟨g1, e1, c1, c2⟩
    · exact .inl e1
    · right
      rw [e1]
      unfold rowOf
      rw [if_neg (by omega)]
      intro e3
      have := a2 g1 e3.symm
      omega
end

/-- append of one row onto a slice of slices of the call's own, the row's slice just laid in a block of its own -/
theorem append_bs {P : Program} {ops : Array Oper} {rest : List Oper} {o : Oper} {a : Act} {Q : Exit → Act → World → Prop} {t e : TypeId} {bytes : Nat}
    (ht : P.underlying t = some (.slice e)) (hinfo : (P.info? e).map (fun i => (i.zero, i.size, i.bytes)) = some (some (.slice none 0 0), 1, bytes)) (hby : bytes ≤ 64)
    (w : World) (hgd : o.guard = none) {s : Operand} (x : Operand) (ho : o.op = .call { callee := .builtin .append, args := #[s, x], argTypes := #[t, t] })
    {base top : Nat} {v : Value} {xss : List (List Bool)} (hown : OwnBS w base top e v xss) {u : Value} {xs : List Bool} {lo hi : Nat} (hu : BoolS w lo hi u xs) (hlo : top ≤ lo) (hhi : hi ≤ w.heap.size) (hlh : lo ≤ hi) (hfar : ∀ g, v.ownBlock = some g → g < lo ∨ hi ≤ g)
    (te : TypeId) (hs : a.eval s = v) (hx : a.eval x = .slice (some ⟨w.heap.size, 0, none⟩) 1 1) (hlen : xss.length < 1099511627776)
    (h : ∀ v' w', OwnBS w' base hi e v' (xss ++ [xs]) → w.grownBy w' v.ownBlock → (v'.ownBlock = v.ownBlock ∨ v'.ownBlock = some (w.heap.size + 1)) → wpList P ops Q rest (a.put o.dst v') w') :
    wpList P ops Q (o :: rest) a (w.alloc (.cells #[u] te)) := by
  obtain ⟨vs, los, his, h1, h2, h3, h4, h5, h6⟩ := hown
  obtain ⟨A, c, rfl⟩ := (show ∃ A c, u = .slice A xs.length c from let ⟨A, c, e, _⟩ := hu; ⟨A, c, e⟩)
  refine append1 ht hinfo rfl hby w hgd x ho h2 _ te hs hx rfl (by omega) (by omega) fun v' w' ho' hg' hat' => h v' w' ?_ hg' hat'
  have hgs := hg'.size
  have hold : ∀ j, j < xss.length → ∃ u, vs[j]? = some u ∧ base ≤ los j ∧ his j ≤ top ∧ BoolS w' (los j) (his j) u (nthL xss j) ∧ ∀ g, v'.ownBlock = some g → g < los j ∨ his j ≤ g := fun j hj => by
    obtain ⟨u, a1, a2, a3, a4, a5⟩ := h5 j hj
    refine ⟨u, a1, a2, a3, a4.far hg' (by omega) a5, fun g hg => ?_⟩
    rcases hat' with e1 | e1
    · exact a5 g (by rw [← e1]; exact hg)
    · rw [e1] at hg; injection hg with hg; omega
  refine ⟨vs ++ [.slice A xs.length c], fun j => if j < xss.length then los j else lo, fun j => if j < xss.length then his j else hi, by simp [h1], ho', by omega, by omega, fun j hj => ?_, fun i j hij hj => ?_⟩
  · dsimp only
    by_cases e1 : j < xss.length
    · obtain ⟨u, a1, a2, a3, a4, a5⟩ := hold j e1
      rw [if_pos e1, if_pos e1, nthL_append_left e1]
      exact ⟨u, by rw [List.getElem?_append_left (by omega)]; exact a1, a2, by omega, a4, a5⟩
    · obtain rfl : j = xss.length := by simp at hj; omega
      rw [if_neg e1, if_neg e1, nthL_append_at]
      refine ⟨.slice A xs.length c, by rw [← h1]; simp, by omega, Nat.le_refl _, hu.far hg' hhi hfar, fun g hg => ?_⟩
      rcases hat' with e2 | e2
      · exact hfar g (by rw [← e2]; exact hg)
      · rw [e2] at hg; injection hg with hg; omega
  · dsimp only
    rw [if_pos (by simp at hj; omega)]
    by_cases e1 : j < xss.length
    · rw [if_pos e1]; exact h6 i j hij e1
    · rw [if_neg e1]
      obtain ⟨u, _, _, a3, _⟩ := h5 i (by simp at hj; omega)
      omega

theorem OwnBS.far {w w' : World} {base top : Nat} {e : TypeId} {v : Value} {xss : List (List Bool)} {row : Option Nat} (h : OwnBS w base top e v xss) (hg : w.grownBy w' row) (hr : ∀ g, row = some g → g < base) : OwnBS w' base top e v xss := by
  obtain ⟨vs, lo, hi, h1, h2, h3, h4, h5, h6⟩ := h
  refine ⟨vs, lo, hi, h1, h2.kept hg ?_, h3, Nat.le_trans h4 hg.size, fun j hj => ?_, h6⟩
  · cases hv : v.ownBlock with
    | none => exact .inl rfl
    | some g =>
      right
      intro e
      have := (h2.lt g hv).1
      have := hr g e.symm
      omega
  · obtain ⟨u, a1, a2, a3, a4, a5⟩ := h5 j hj
    exact ⟨u, a1, a2, a3, a4.far hg (by omega) (fun g e => .inl (by have := hr g e; omega)), a5⟩



/-- one boolean of a list of lists replaced -/
def setAtB (xss : List (List Bool)) (a i : Nat) (z : Bool) : List (List Bool) := xss.set a ((nthL xss a).set i z)
theorem setAtB_length (xss : List (List Bool)) (a i : Nat) (z : Bool) : (setAtB xss a i z).length = xss.length := by simp [setAtB]
theorem nthL_setAtB {xss : List (List Bool)} {a : Nat} (ha : a < xss.length) (i : Nat) (z : Bool) (j : Nat) : nthL (setAtB xss a i z) j = if j = a then (nthL xss a).set i z else nthL xss j := nthL_set ha _ _
theorem setAtB_row (xss : List (List Bool)) {a : Nat} (ha : a < xss.length) (i : Nat) (z : Bool) (j : Nat) : (nthL (setAtB xss a i z) j).length = (nthL xss j).length := by
  rw [nthL_setAtB ha]
  by_cases e : j = a
  · rw [if_pos e, List.length_set, e]
  · rw [if_neg e]
/-- a place of a slice of slices whose rows lie apart: its cells, and what a store leaves -/
theorem BSSx.place {w : World} {lo hi n c : Nat} {A : Option Addr} {xss : List (List Bool)} (h : BoolSSx w lo hi (.slice A n c) xss) (hh : hi ≤ w.heap.size) {a i : Nat} (ha : a < xss.length) (hi' : i < (nthL xss a).length) :
    ∃ b off b2 o2 c2, A = some ⟨b, off, none⟩ ∧ lo ≤ b ∧ b < hi ∧ lo ≤ b2 ∧ b2 < hi ∧ w.cell? ⟨b, off + a, none⟩ = some (.slice (some ⟨b2, o2, none⟩) (nthL xss a).length c2) ∧ (nthL xss a).length ≤ c2 ∧ c2 ≤ 9223372036854775807 ∧
      w.cell? ⟨b2, o2 + i, none⟩ = some (.bool (nthB (nthL xss a) i)) ∧ w.frozen? ⟨b2, o2 + i, none⟩ = false ∧ ∀ z, BoolSSx (w.setCell ⟨b2, o2 + i, none⟩ (.bool z)) lo hi (.slice A n c) (setAtB xss a i z) := by
  obtain ⟨vs, h1, h2, h3, h4⟩ := h
  have hrow := h2 a ha
  obtain ⟨A2, c2, e2, k1, k2⟩ := BoolS.dims hrow
  rw [e2] at hrow
  obtain ⟨b2, o2, rfl, l1, l2, x1, x2⟩ := BoolS.opened hrow hi'
  have htop := h1
  obtain ⟨A', c', e, m1, m2, m3⟩ := h1
  injection e with e3 e4 e5
  subst e3 e5
  obtain ⟨b, off, rfl, n1, n2, n3⟩ := m3 (by omega)
  have hva : w.cell? ⟨b, off + a, none⟩ = some (vs a) := (n3 a (by omega)).1
  rw [e2] at hva
  refine ⟨b, off, b2, o2, c2, rfl, n1, n2, l1, l2, hva, k1, k2, x1, x2, fun z => ?_⟩
  have hra : rowOf (nthL xss a).length (vs a) = some b2 := by rw [e2]; exact rowOf_some (by omega)
  have hg : w.grownBy (w.setCell ⟨b2, o2 + i, none⟩ (.bool z)) (some b2) := grown_set w ⟨b2, o2 + i, none⟩ _
  have hlen : ∀ j, (nthL (setAtB xss a i z) j).length = (nthL xss j).length := setAtB_row xss ha i z
  refine ⟨vs, ?_, fun j hj => ?_, fun j k hjk hk => ?_, fun j hj => ?_⟩
  · rw [setAtB_length]
    refine Sl.grown htop hg hh ?_
    have := h4 a ha
    rw [hra] at this
    rcases this with t | t
    · cases t
    · exact .inr fun e => t e.symm
  · rw [setAtB_length] at hj
    rw [nthL_setAtB ha]
    by_cases ej : j = a
    · subst ej
      rw [if_pos rfl, e2]
      exact hrow.set hi' z
    · rw [if_neg ej]
      refine Sl.grown (h2 j hj) hg hh ?_
      rw [← hra]
      by_cases hlt : j < a
      · exact h3 j a hlt ha
      · rcases h3 a j (by omega) hj with t | t
        · rw [hra] at t; cases t
        · exact .inr fun e => t e.symm
  · rw [setAtB_length] at hk
    rw [hlen j, hlen k]
    exact h3 j k hjk hk
  · rw [setAtB_length] at hj ⊢
    rw [hlen j]
    exact h4 j hj


theorem BSSx.far {w w' : World} {lo hi : Nat} {v : Value} {xss : List (List Bool)} {row : Option Nat} (h : BoolSSx w lo hi v xss) (hg : w.grownBy w' row) (hB : hi ≤ w.heap.size) (hr : ∀ g, row = some g → g < lo ∨ hi ≤ g) : BoolSSx w' lo hi v xss :=
  SSx.keep (fun h => BoolS.far h hg hB hr) h fun k h1 h2 => hg.block k (by omega) (fun e => by have := hr k e.symm; omega)
theorem BSSx.still {w w' : World} {lo hi : Nat} {v : Value} {xss : List (List Bool)} (h : BoolSSx w lo hi v xss) (hg : w.grownBy w' none) (hB : hi ≤ w.heap.size) : BoolSSx w' lo hi v xss := BSSx.far h hg hB (no_row _ _)
theorem BSSx.below {B : Nat} {w w' : World} {lo hi : Nat} {v : Value} {xss : List (List Bool)} (h : BoolSSx w lo hi v xss) (hb : Below B w w') (hB : hi ≤ B) : BoolSSx w' lo hi v xss := SSx.keep (fun h => BoolS.below h hb hB) h fun k _ hk => hb.block k (by omega)
theorem BSSx.turned {w w' : World} {l2 h2 lo hi : Nat} {v : Value} {xss : List (List Bool)} (h : BoolSSx w lo hi v xss) (hb : Turned l2 h2 w w') (hB : hi ≤ w.heap.size) (hd : hi ≤ l2 ∨ h2 ≤ lo) : BoolSSx w' lo hi v xss := SSx.keep (fun h => BoolS.turned h hb hB hd) h fun k h1 hk => hb.block k (by omega) (by omega)
theorem BSSx.mono {w : World} {lo hi lo' hi' : Nat} {v : Value} {xss : List (List Bool)} (h : BoolSSx w lo hi v xss) (h1 : lo' ≤ lo) (h2 : hi ≤ hi') : BoolSSx w lo' hi' v xss := SSx.mono (fun h => BoolS.mono h h1 h2) h h1 h2
theorem SSx.dims {α : Type} {R : World → Nat → Nat → Value → List α → Prop} {w : World} {lo hi : Nat} {v : Value} {xss : List (List α)} (h : SSx R w lo hi v xss) : ∃ A c, v = .slice A xss.length c ∧ xss.length ≤ c ∧ c ≤ 9223372036854775807 := SS.dims h.ss
theorem BSSx.dims {w : World} {lo hi : Nat} {v : Value} {xss : List (List Bool)} (h : BoolSSx w lo hi v xss) : ∃ A c, v = .slice A xss.length c ∧ xss.length ≤ c ∧ c ≤ 9223372036854775807 := SS.dims h.ss


/-- writes behind the rows -/
theorem OwnBS.farT {w w' : World} {base top : Nat} {e : TypeId} {v : Value} {xss : List (List Bool)} {row : Option Nat} (h : OwnBS w base top e v xss) (hg : w.grownBy w' row) (hr : ∀ g, row = some g → top ≤ g ∧ v.ownBlock ≠ some g) : OwnBS w' base top e v xss := by
  obtain ⟨vs, lo, hi, h1, h2, h3, h4, h5, h6⟩ := h
  refine ⟨vs, lo, hi, h1, h2.kept hg ?_, h3, Nat.le_trans h4 hg.size, fun j hj => ?_, h6⟩
  · cases hv : v.ownBlock with
    | none => exact .inl rfl
    | some g => right; intro e; exact (hr g e.symm).2 hv
  · obtain ⟨u, a1, a2, a3, a4, a5⟩ := h5 j hj
    exact ⟨u, a1, a2, a3, a4.far hg (by omega) (fun g e => .inr (by have := (hr g e).1; omega)), a5⟩
/-- a place, the top row's address known -/
theorem BSSx.at2 {w : World} {lo hi n c b off : Nat} {xss : List (List Bool)} (h : BoolSSx w lo hi (.slice (some ⟨b, off, none⟩) n c) xss) (hh : hi ≤ w.heap.size) {a i : Nat} (ha : a < xss.length) (hi' : i < (nthL xss a).length) :
    ∃ b2 o2 c2, lo ≤ b ∧ b < hi ∧ lo ≤ b2 ∧ b2 < hi ∧ w.cell? ⟨b, off + a, none⟩ = some (.slice (some ⟨b2, o2, none⟩) (nthL xss a).length c2) ∧ (nthL xss a).length ≤ c2 ∧ c2 ≤ 9223372036854775807 ∧
      w.cell? ⟨b2, o2 + i, none⟩ = some (.bool (nthB (nthL xss a) i)) ∧ w.frozen? ⟨b2, o2 + i, none⟩ = false ∧ ∀ z, BoolSSx (w.setCell ⟨b2, o2 + i, none⟩ (.bool z)) lo hi (.slice (some ⟨b, off, none⟩) n c) (setAtB xss a i z) := by
  obtain ⟨b', off', b2, o2, c2, e, h1, h2, h3, h4, h5, h6, h7, h8, h9, h10⟩ := BSSx.place h hh ha hi'
  injection e with e
  injection e with e1 e2
  subst e1 e2
  exact ⟨b2, o2, c2, h1, h2, h3, h4, h5, h6, h7, h8, h9, h10⟩
theorem ISSx.at2 {w : World} {lo hi n c b off : Nat} {xss : List (List Int)} (h : IntSSx w lo hi (.slice (some ⟨b, off, none⟩) n c) xss) (hh : hi ≤ w.heap.size) {a i : Nat} (ha : a < xss.length) (hi' : i < (nthL xss a).length) :
    ∃ b2 o2 c2, lo ≤ b ∧ b < hi ∧ lo ≤ b2 ∧ b2 < hi ∧ w.cell? ⟨b, off + a, none⟩ = some (.slice (some ⟨b2, o2, none⟩) (nthL xss a).length c2) ∧ (nthL xss a).length ≤ c2 ∧ c2 ≤ 9223372036854775807 ∧
      w.cell? ⟨b2, o2 + i, none⟩ = some (.int .i64 (nth (nthL xss a) i)) ∧ w.frozen? ⟨b2, o2 + i, none⟩ = false := by
  obtain ⟨b', off', b2, o2, c2, e, h1, h2, h3, h4, h5, h6, h7, h8, h9, h10⟩ := ISSx.place h hh ha hi'
  injection e with e
  injection e with e1 e2
  subst e1 e2
  exact ⟨b2, o2, c2, h1, h2, h3, h4, h5, h6, h7, h8, h9⟩
/-- a cell that is known -/
structure CellH (w : World) (p : Addr) (v : Value) : Prop where
  cell : w.cell? p = some v
  lt : p.block < w.heap.size
theorem CellH.far {w w' : World} {p : Addr} {v : Value} {row : Option Nat} (h : CellH w p v) (hg : w.grownBy w' row) (hr : ∀ g, row = some g → g ≠ p.block) : CellH w' p v :=
  ⟨(World.cell?_of_block (hg.block p.block h.lt (fun e => hr _ e.symm rfl))).trans h.cell, Nat.lt_of_lt_of_le h.lt hg.size⟩
theorem CellH.still {w w' : World} {p : Addr} {v : Value} (h : CellH w p v) (hg : w.grownBy w' none) : CellH w' p v := h.far hg (fun g e => by cases e)
theorem OwnBS.still {w w' : World} {base top : Nat} {e : TypeId} {v : Value} {xss : List (List Bool)} (h : OwnBS w base top e v xss) (hg : w.grownBy w' none) : OwnBS w' base top e v xss := h.farT hg (fun g e => by cases e)

end Go.Proofs.Ytcmmklcampmkjaa

/- Contract: neAll (reference): a row of booleans a node. -/
namespace Go.Proofs.Ytcmmklcampmkjaa
open Go.ChangeShapes Go.WideShapes Go.ChangeAt Go.RowKit
set_option linter.unusedVariables false

theorem infoBs : (Try.prog.info? 72).map (fun i => (i.zero, i.size, i.bytes)) = some (some (.slice none 0 0), 1, 24) := by kernel_rfl
/-- as many booleans in each row as the node has ports -/
def SameB (N : NetD) (k : Nat) (bss : List (List Bool)) : Prop := bss.length = k ∧ ∀ a, a < k → (nthL bss a).length = (nthL N.ends a).length
theorem SameB.snoc {N : NetD} {k : Nat} {bss : List (List Bool)} (h : SameB N k bss) {bs : List Bool} (hb : bs.length = (nthL N.ends k).length) : SameB N (k + 1) (bss ++ [bs]) := by
  refine ⟨by simp [h.1], fun a ha => ?_⟩
  by_cases e : a < bss.length
  · rw [nthL_append_left e]; exact h.2 a (by rw [← h.1]; exact e)
  · obtain rfl : a = bss.length := by have := h.1; omega
    rw [nthL_append_at, hb, h.1]

set_option maxHeartbeats 2000000 in
set_option maxRecDepth 100000 in
theorem neAll_any (v1 : Value) (N : NetD) (lo1 hi1 : Nat) (w : World) (h1 : Net w lo1 hi1 v1 N) (hh1 : hi1 ≤ w.heap.size) (hg : N.good = true) :
    Calls Try.prog 50 #[v1] w fun e w' => ∃ r bss, e = .returned r ∧ BoolSSx w' w.heap.size w'.heap.size r bss ∧ SameB N N.ends.length bss ∧ Below w.heap.size w w' := by
  obtain ⟨n1, n40⟩ := good_n hg
  have HG := Lib.hid hg; clear hg
  have F1 := Lib.hid h1
  obtain ⟨A1, c1, A1', c1', A1'', c1'', rfl, hc1, hd1, _⟩ := h1.parts
  obtain ⟨b1, o1, _, _, rfl, _⟩ := Net.rowAt F1.out (u := 0) (by omega)
  clear h1
  obtain ⟨WA, HWA⟩ : ∃ W, Hid (W = (w.alloc (.cells #[.slice (some ⟨b1, o1, none⟩) N.ends.length c1, .slice A1' N.ids.length c1', .slice A1'' N.inputs.length c1''] 34))) := ⟨_, Lib.hid rfl⟩
  have hbA : Below w.heap.size w WA := by rw [HWA.out]; exact ((Below.refl _ _).alloc (Nat.le_refl _) _)
  have hsA : w.heap.size + 1 ≤ WA.heap.size := by rw [HWA.out]; simp; try omega
  have bx1 : BoxN WA (w.heap.size) #[.slice (some ⟨b1, o1, none⟩) N.ends.length c1, .slice A1' N.ids.length c1', .slice A1'' N.inputs.length c1''] 34 := by rw [HWA.out]; exact (BoxN.new' _ _ _ (by simp))
  have G1 := Lib.hid (Net.below F1.out hbA hh1); clear F1
  go_enter Try.func50, Try.ntmps50
  go_upto_region 1 with (fail)
  rw [← HWA.out]; clear HWA
  have kbx1_0 : WA.cell? ⟨w.heap.size, 0, none⟩ = some (.slice (some ⟨b1, o1, none⟩) N.ends.length c1) := bx1.cell 0 (by simp)
  have kbx1_1 : WA.cell? ⟨w.heap.size, 1, none⟩ = some (.slice A1' N.ids.length c1') := bx1.cell 1 (by simp)
  have kbx1_2 : WA.cell? ⟨w.heap.size, 2, none⟩ = some (.slice A1'' N.inputs.length c1'') := bx1.cell 2 (by simp)
  go_wp2_with fail
  clear kbx1_0 kbx1_1 kbx1_2
  go_loopw [11, 3] (fun kv ov wr => ∃ (k : Nat) (bss : List (List Bool)) (top : Nat), k ≤ N.ends.length ∧ kv = .int .i64 k ∧ Hid (OwnBS wr WA.heap.size top 72 ov bss) ∧ Hid (SameB N k bss) ∧ Hid (Turned WA.heap.size WA.heap.size WA wr)) (fun kv ov _ => N.ends.length - (intOf kv).toNat)
  case atStart => exact ⟨0, [], WA.heap.size, Nat.zero_le _, rfl, Lib.hid (OwnBS.nil _ _ _ _ (Nat.le_refl _) (Nat.le_refl _)), Lib.hid ⟨rfl, fun a ha => absurd ha (by omega)⟩, Lib.hid (Turned.refl WA.heap.size WA.heap.size WA)⟩
  case round =>
    obtain ⟨k, bss, top, hk, rfl, HO, HS, HF1⟩ := hrel
    have hs1 := HF1.out.size
    obtain ⟨wq, rfl⟩ : ∃ wq : World, wq = wr := ⟨_, rfl⟩
    have htop : top ≤ wq.heap.size := let ⟨_, _, _, _, _, _, h, _⟩ := HO.out; h
    have HLT := Lib.hid HO.out.lt
    have hbl := HS.out.1
    have HBL := Lib.hid hbl; clear hbl
    obtain ⟨Ao, co, rfl, hco, hdo⟩ := HO.out.len
    by_cases hkn : k < N.ends.length
    case neg =>
      obtain rfl : k = N.ends.length := by omega
      go_wp2_with fail
      go_ret
      exact ⟨_, bss, rfl, BSSx.mono HO.out.ssx (by omega) (Nat.le_refl _), HS.out, (HF1.out.below_of hbA (by omega) (by omega))⟩
    have hki : (k : Int) < N.ends.length := by omega
    have hd6 := good_deg HG.out hkn
    obtain ⟨Aa, ca, hba, qa, hca, hda, hRa⟩ := Net.rowIn G1.out hkn
    replace qa := (HF1.out.cell (by omega) (by omega)).trans qa
    have Ra := Lib.hid hRa; clear hRa
    obtain ⟨d, HD⟩ : ∃ d, Hid ((nthL N.ends k).length = d) := ⟨_, Lib.hid rfl⟩
    rw [HD.out] at qa hca hd6
    have hmk := fun W => run_make_row' (P := Try.prog) 72 4 (.bool false) 1 Try.underlying72 Try.infoBool rfl .i64 .i64 d (by omega) (by omega) W
    go_upto_region 6 with (fail)
    clear qa hmk
    refine nameC ?_
    intro W2 HW2
    have hg2 : wq.grownBy W2 none := by rw [HW2.out]; exact grown_alloc _ _
    have hs2 := hg2.size
    have HF2 := Lib.hid (HF1.out.still hg2); clear HF1
    have O2 := Lib.hid (OwnBS.still HO.out hg2); clear HO
    have HB := Lib.hid (show BoolS W2 wq.heap.size (wq.heap.size + 1) (.slice (some ⟨wq.heap.size, 0, none⟩) d d) (List.replicate d false) by rw [HW2.out]; exact made_bools _ _ _ rfl (by omega))
    have hz : wq.heap.size + 1 ≤ W2.heap.size := by rw [HW2.out]; simp
    clear HW2
    go_wp2_with fail
    go_loopw [20] (fun jv wr => ∃ (j : Nat) (bs : List Bool), j ≤ d ∧ jv = .int .i64 j ∧ Hid (OwnBS wr WA.heap.size top 72 (.slice Ao bss.length co) bss) ∧ Hid (BoolS wr wq.heap.size (wq.heap.size + 1) (.slice (some ⟨wq.heap.size, 0, none⟩) d d) bs) ∧ Hid (bs.length = d) ∧ wq.heap.size + 1 ≤ wr.heap.size ∧ Hid (Turned WA.heap.size WA.heap.size WA wr)) (fun jv _ => d - (intOf jv).toNat)
    case atStart => exact ⟨0, _, Nat.zero_le _, rfl, O2, HB, Lib.hid (by simp), hz, HF2⟩
    case round =>
      clear HF2
      obtain ⟨j, bs, hj, rfl, HO, HB, HL, hz1, HF3⟩ := hrel
      have hs3 := HF3.out.size
      obtain ⟨wt, rfl⟩ : ∃ wt : World, wt = wr := ⟨_, rfl⟩
      by_cases hjn : j < d
      case pos =>
        have hji : (j : Int) < d := by omega
        obtain ⟨x1, x2⟩ := HB.out.at0 (j := j) (by rw [HL.out]; exact hjn)
        obtain ⟨xv, HXV⟩ : ∃ x, Hid (nthB bs j = x) := ⟨_, Lib.hid rfl⟩
        rw [HXV.out] at x1
        have HB1 := Lib.hid (HB.out.set0 (j := j) (by rw [HL.out]; exact hjn) true)
        have HL1 := Lib.hid (show (bs.set j true).length = d by rw [List.length_set]; exact HL.out)
        go_wp2_with fail
        go_roundw
        case rel =>
          have hg9 : wt.grownBy (wt.setCell ⟨wq.heap.size, j, none⟩ (.bool true)) (some (wq.heap.size)) := grown_set _ _ _
          have hs9 := hg9.size
          exact ⟨j + 1, bs.set j true, by omega, by go_num, Lib.hid (OwnBS.farT HO.out hg9 (fun g e => by cases e; exact ⟨by omega, fun h => by have := HLT.out _ h; omega⟩)), HB1, HL1, by omega, Lib.hid (HF3.out.grown hg9 (fun g e => .inr (by cases e; omega)))⟩
        case measure => simp [intOf]; omega
      obtain rfl : j = d := by omega
      have HS2 := Lib.hid (SameB.snoc HS.out (show bs.length = (nthL N.ends k).length by rw [HL.out, HD.out]))
      have hbl := HBL.out
      have hbl4 : bss.length ≤ 40 := by omega
      clear hbl
      go_wp2_with (at_builtin; refine append_bs (s := .tmp 27) Try.underlying78 infoBs (by decide) wt rfl _ rfl HO.out HB.out (by omega) (by omega) (by omega) (fun g e => .inl (by have := HLT.out g e; omega)) _ (by simp [Act.eval, go_sem]) (by simp [Act.eval, go_sem]) (by omega) ?_; intro v' w' ho' hg' hat')
      go_roundw
      case rel => exact ⟨k + 1, _, wq.heap.size + 1, by omega, by go_num, Lib.hid ho', HS2, Lib.hid (HF3.out.grown hg' (fun g e => .inr (by have := HLT.out g e; omega)))⟩
      case measure => simp [intOf]; omega

end Go.Proofs.Ytcmmklcampmkjaa

/- Steps of regions that draw their order: an append of a row that the call owns too; a region cut behind its operations. No condition on any program. -/
namespace Go.Proofs.Ytcmmklcampmkjaa
open Go.ChangeShapes Go.WideShapes Go.ChangeAt Go.RowKit
set_option linter.unusedVariables false

/-- append, at a step of a region that draws its order, of a row that the call owns too -/
theorem step_append_own2 {P : Program} {ops : Array Oper} {o : Oper} {a : Act} {K : Act → World → Prop} {Q : Exit → Act → World → Prop} {E : Prop} {t e : TypeId} {z : Value} {sz bytes : Nat}
    (ht : P.underlying t = some (.slice e)) (hinfo : (P.info? e).map (fun i => (i.zero, i.size, i.bytes)) = some (some z, sz, bytes)) (hz1 : z.cells.size = sz) (hsz : 0 < sz) (hby : bytes ≤ 64)
    (w : World) (hgd : o.guard = none) {s : Operand} (x : Operand) (ho : o.op = .call { callee := .builtin .append, args := #[s, x], argTypes := #[t, t] })
    {base : Nat} {v : Value} {n : Nat} {xs : List Value} (hown : w.ownsRow base e sz v n xs) (hs : a.eval s = v) {base2 : Nat} {e2 : TypeId} {v2 : Value} {m : Nat} (news : List Value) (hown2 : w.ownsRow base2 e2 sz v2 m news) (hx : a.eval x = v2)
    (h1 : ∀ u ∈ news, u.oneCell' = true) (hlen : n + m ≤ 1099511627776) (hbase : base ≤ w.heap.size)
    (h : ∀ v' w', w'.ownsRow base e sz v' (n + m) (xs ++ news) → w.grownBy w' v.ownBlock → (v'.ownBlock = v.ownBlock ∨ ∃ g, v'.ownBlock = some g ∧ w.heap.size ≤ g) → K (a.put o.dst v') w') :
    if Region.wanted o (yielded ops a.tmps) = true then Oper.wp P o a w K Q else E := by
  have hw : Region.wanted o (yielded ops a.tmps) = true := by simp [Region.wanted, hgd]
  rw [if_pos hw]
  obtain ⟨i, hi, hzz⟩ := Option.map_eq_some_iff.1 hinfo
  simp only [Prod.mk.injEq] at hzz
  obtain ⟨hz, hsz2, hb⟩ := hzz
  obtain ⟨hl2, h2⟩ := hown2
  rcases h2 with ⟨rfl, hm0⟩ | ⟨g2, cap2, cur2, rfl, hg2, hh2, hn2, hm2, hs2, ht2⟩
  · subst hm0
    have hnil : news = [] := List.eq_nil_of_length_eq_zero (by rw [hl2, Nat.zero_mul])
    subst hnil
    have hrun := run_append_owned_none (P := P) (w := w) base t o.type e i sz ht hi v n xs hown
    have h3 := h v w (by simpa using hown) ⟨rfl, rfl, rfl, Nat.le_refl _, fun _ _ _ => rfl⟩ (.inl rfl)
    unfold Oper.wp
    simp [execOp, ho, resolve, invoke, builtin, hs, hx, hrun, Result.andThen]
    exact h3
  · have hnews : ∀ j u, news[j]? = some u → w.cell? ((⟨g2, 0, none⟩ : Addr).add j) = some u := fun j u hj => by
      have hjl : j < m * sz := by rw [← hl2]; exact (List.getElem?_eq_some_iff.1 hj).1
      rw [Go.WideShapes.add_plain g2 0 j, cell_of_row w g2 _ cur2 e2 (0, 0) hh2, Nat.zero_add]
      rw [← ht2, List.getElem?_take_of_lt hjl] at hj
      simpa using hj
    obtain ⟨v', w', hr, a1, a2, _, a4⟩ := run_append_own_at (P := P) w base t o.type e i z sz bytes ht hi hz hsz2 hb hz1 hsz v n xs hown ⟨g2, 0, none⟩ m cap2 news hl2 hnews h1 (by unfold maxLen; omega) (by
      have : (n + m) * bytes ≤ 1099511627776 * 64 := Nat.mul_le_mul hlen hby
      omega) hbase
    have h3 := h v' w' a1 a2 (a4.imp id fun e => ⟨_, e, Nat.le_refl _⟩)
    unfold Oper.wp execOp
    simp only [ho, resolve, invoke, builtin, Sem.run_bind, Sem.run_pure, Result.andThen_ok, List.map_toArray, List.map_cons, List.map_nil, hs, hx, hr]
    exact h3
/-- an empty row in a block of its own -/
theorem owns_empty (w : World) (base : Nat) (e : TypeId) (k : Nat) {g : Nat} (hg : w.heap.size = g) (hb : base ≤ g) : (w.alloc (.cells #[] e)).ownsRow base e k (.slice (some ⟨g, 0, none⟩) 0 0) 0 [] := by
  subst hg
  refine ⟨by simp, .inr ⟨w.heap.size, 0, #[], by simp, hb, heap_alloc_new w _, by simp, by simp, by simp, by simp⟩⟩
/-- a block known whole is a row of one -/
theorem owns_box {w : World} {g : Nat} {cs : Array Value} {e : TypeId} (h : BoxN w g cs e) {k : Nat} (hk : cs.size = k) (base : Nat) (hb : base ≤ g) : w.ownsRow base e k (.slice (some ⟨g, 0, none⟩) 1 1) 1 cs.toList := by
  have h' : w.heap[g]? = some (.cells cs e (0, 0)) := h
  exact ⟨by simp [hk], .inr ⟨g, 1, cs, rfl, hb, h', Nat.le_refl _, by unfold maxLen; omega, by omega, List.take_of_length_le (by simp [hk])⟩⟩
theorem grown_new {a b c : World} {row : Option Nat} (h : a.grownBy b none) (k : b.grownBy c row) (hr : ∀ g, row = some g → a.heap.size ≤ g) : a.grownBy c none :=
  ⟨k.os.trans h.os, k.tape.trans h.tape, k.output.trans h.output, Nat.le_trans h.size k.size, fun i hi _ => (k.block i (Nat.lt_of_lt_of_le hi h.size) (fun e => by have := hr i e.symm; omega)).trans (h.block i hi (by simp))⟩
theorem run_append_zero {P : Program} {w : World} (base : Nat) (t ty e : TypeId) (i : TypeInfo) (size : Nat) (ht : P.underlying t = some (.slice e)) (hi : P.info? e = some i)
    (v : Value) (n : Nat) (xs : List Value) (hown : w.ownsRow base e size v n xs) (A : Option Addr) (c : Nat) :
    (Builtin.append_ #[t, t] ty #[v, .slice A 0 c]).run P w = .ok v w := by
  rcases hown.2 with ⟨rfl, rfl⟩ | ⟨g, cap, cur, rfl, _, _, hnc, _⟩
  · cases A <;> simp [Builtin.append_, run_underlying ht, sizeOf, typeInfo, hi, Builtin.lenOf, Builtin.firstCells, loadCells, loadCellsFrom]
  · cases A <;> simp [Builtin.append_, run_underlying ht, sizeOf, typeInfo, hi, Builtin.lenOf, Builtin.firstCells, hnc, storeCells, loadCells, loadCellsFrom]
/-- append of nothing, wherever it lies -/
theorem append_zero {P : Program} {ops : Array Oper} {rest : List Oper} {o : Oper} {a : Act} {Q : Exit → Act → World → Prop} {t e : TypeId} {i : TypeInfo} {size : Nat}
    (ht : P.underlying t = some (.slice e)) (hi : P.info? e = some i) (w : World) (hgd : o.guard = none) {s : Operand} (x : Operand) (ho : o.op = .call { callee := .builtin .append, args := #[s, x], argTypes := #[t, t] })
    {base : Nat} {v : Value} {n : Nat} {xs : List Value} (hown : w.ownsRow base e size v n xs) (hs : a.eval s = v) {A : Option Addr} {c : Nat} (hx : a.eval x = .slice A 0 c)
    (h : wpList P ops Q rest (a.put o.dst v) w) : wpList P ops Q (o :: rest) a w := by
  refine wpList_plain hgd fun K hK => ?_
  have hrun := run_append_zero (P := P) (w := w) base t o.type e i size ht hi v n xs hown A c
  unfold Oper.wp
  simp [execOp, ho, resolve, invoke, builtin, hs, hx, hrun, Result.andThen]
  exact hK _ _ h
theorem nameA {K : Act → World → Prop} {a : Act} {w : World} (h : ∀ W, Hid (W = w) → K a W) : K a w := h w (Lib.hid rfl)
/-- values put into slots, one after another -/
def puts (a : Act) : List Nat → List Value → Act
  | d :: ds, v :: vs => puts (a.put (some d) v) ds vs
  | _, _ => a
/-- whatever order the operations came up in: what is known behind them -/
theorem region_cut {P : Program} {id : Nat} {ops : Array Oper} {b : Bool} {Q : Exit → Act → World → Prop} {a0 : Act} {w : World} (ds : List Nat) (R : List Value → World → Prop)
    (h1 : (Code.region id ops b).wp P (fun e a w' => ∃ vs, R vs w' ∧ e = .normal ∧ a = puts a0 ds vs) a0 w)
    (h2 : ∀ vs w', R vs w' → Q .normal (puts a0 ds vs) w') : (Code.region id ops b).wp P Q a0 w :=
  Code.wp_mono (fun e a w' ⟨vs, hr, he, ha⟩ => by subst he ha; exact h2 vs w' hr) h1
end Go.Proofs.Ytcmmklcampmkjaa

/- Appends of whole slices of numbers onto rows of a call's own; the reference's l1Put: a number put into an increasing list. -/
namespace Go.Proofs.Ytcmmklcampmkjaa
open Go.ChangeShapes Go.WideShapes Go.ChangeAt Go.RowKit
set_option linter.unusedVariables false

theorem OwnI.lower {w : World} {base b' : Nat} {e : TypeId} {v : Value} {zs : List Int} (h : OwnI w base e v zs) (hb : b' ≤ base) : OwnI w b' e v zs := by
  obtain ⟨h1, h2⟩ := h
  refine ⟨h1, ?_⟩
  rcases h2 with h2 | ⟨g, cap, cur, e1, hg, r⟩
  · exact .inl h2
  · exact .inr ⟨g, cap, cur, e1, by omega, r⟩
theorem OwnI.empty (w : World) (base : Nat) (e : TypeId) {g : Nat} (hg : w.heap.size = g) (hb : base ≤ g) : OwnI (w.alloc (.cells #[] e)) base e (.slice (some ⟨g, 0, none⟩) 0 0) [] := by
  subst hg
  refine ⟨by simp, .inr ⟨w.heap.size, 0, #[], by simp, hb, heap_alloc_new w _, by simp, by simp, by simp, by simp⟩⟩
/-- append of a slice of numbers that is known cell by cell -/
theorem append_ints {P : Program} {ops : Array Oper} {rest : List Oper} {o : Oper} {a : Act} {Q : Exit → Act → World → Prop} {t e : TypeId} {bytes : Nat}
    (ht : P.underlying t = some (.slice e)) (hinfo : (P.info? e).map (fun i => (i.zero, i.size, i.bytes)) = some (some (.int .i64 0), 1, bytes)) (hby : bytes ≤ 64)
    (w : World) (hgd : o.guard = none) {s : Operand} (x : Operand) (ho : o.op = .call { callee := .builtin .append, args := #[s, x], argTypes := #[t, t] })
    {base : Nat} {v : Value} {zs : List Int} (hown : OwnI w base e v zs) (hs : a.eval s = v) {g off m c : Nat} (ys : List Int) (hm : ys.length = m) (hx : a.eval x = .slice (some ⟨g, off, none⟩) m c)
    (hcell : ∀ j, j < m → w.cell? ⟨g, off + j, none⟩ = some (.int .i64 (nth ys j))) (hlen : zs.length + m ≤ 1099511627776) (hbase : base ≤ w.heap.size)
    (h : ∀ v' w', OwnI w' base e v' (zs ++ ys) → w.grownBy w' v.ownBlock → wpList P ops Q rest (a.put o.dst v') w') :
    wpList P ops Q (o :: rest) a w := by
  refine append_row ht hinfo rfl (by omega) hby w hgd x ho hown hs (ys.map (Value.int .i64)) hx (by simp [hm]) ?_ ?_ (by simpa using hlen) hbase fun v' w' a1 a2 _ => h v' w' ?_ a2
  · intro j u hj
    have hjl : j < ys.length := by have := (List.getElem?_eq_some_iff.1 hj).1; simpa using this
    rw [List.getElem?_map, nth_get? hjl] at hj
    rw [show (⟨g, off, none⟩ : Addr).add j = ⟨g, off + j, none⟩ from Go.WideShapes.add_plain g off j, hcell j (by omega)]
    exact hj
  · intro u hu
    obtain ⟨z, _, rfl⟩ := List.mem_map.1 hu
    rfl
  · unfold OwnI Own
    rw [List.map_append]
    simpa [hm] using a1
/-- how many numbers at the head of a list are less -/
def putK (zs : List Int) (x : Int) : Nat := (zs.takeWhile fun y => decide (y < x)).length
theorem putK_le (zs : List Int) (x : Int) : putK zs x ≤ zs.length := (List.takeWhile_prefix _).length_le
theorem putK_is {zs : List Int} {x : Int} {k : Nat} (hk : k ≤ zs.length) (h1 : ∀ j, j < k → nth zs j < x) (h2 : k < zs.length → ¬ nth zs k < x) : putK zs x = k := by
  unfold putK
  induction zs generalizing k with
  | nil => simp at hk; simp [hk]
  | cons z zs ih =>
    cases k with
    | zero =>
      have := h2 (by simp)
      rw [nth_cons_zero] at this
      simp [this]
    | succ k =>
      have h0 := h1 0 (by omega)
      rw [nth_cons_zero] at h0
      rw [List.takeWhile_cons, if_pos (by simpa using h0), List.length_cons, ih (k := k) (by simpa using hk) (fun j hj => by have := h1 (j + 1) (by omega); rwa [nth_cons_succ] at this) (fun hl => by have := h2 (by simpa using hl); rwa [nth_cons_succ] at this)]
def putL (zs : List Int) (x : Int) : List Int := if putK zs x < zs.length ∧ nth zs (putK zs x) = x then zs else zs.take (putK zs x) ++ [x] ++ zs.drop (putK zs x)
theorem putL_len (zs : List Int) (x : Int) : (putL zs x).length ≤ zs.length + 1 := by
  unfold putL; split
  · omega
  · have := putK_le zs x; simp; omega

end Go.Proofs.Ytcmmklcampmkjaa

/- Contract: neCut (reference), its rows of ends. -/
namespace Go.Proofs.Ytcmmklcampmkjaa
open Go.ChangeShapes Go.WideShapes Go.ChangeAt Go.RowKit
set_option linter.unusedVariables false

theorem infoRowK : (Try.prog.info? 23).map (fun i => (i.zero, i.size, i.bytes)) = some (some (.slice none 0 0), 1, 24) := by kernel_rfl
theorem infoRowE : (Try.prog.info? 61).map (fun i => (i.zero, i.size, i.bytes)) = some (some (.slice none 0 0), 1, 24) := by kernel_rfl
theorem infoEndK : (Try.prog.info? 60).map (fun i => (i.zero, i.size, i.bytes)) = some (some (.agg #[.int .i64 0, .int .i64 0]), 2, 16) := by kernel_rfl
/-- the new numbers of the first ports of a node -/
def cntL (kp : Nat → Nat → Bool) (v m : Nat) : List Int := (List.range m).map fun i => ((cntK kp v i : Nat) : Int)
theorem cntL_len (kp : Nat → Nat → Bool) (v m : Nat) : (cntL kp v m).length = m := by simp [cntL]
theorem cntL_succ (kp : Nat → Nat → Bool) (v m : Nat) : cntL kp v (m + 1) = cntL kp v m ++ [((cntK kp v m : Nat) : Int)] := by simp [cntL, List.range_succ]
theorem nth_cntL {kp : Nat → Nat → Bool} {v m i : Nat} (h : i < m) : nth (cntL kp v m) i = ((cntK kp v i : Nat) : Int) := by simp [nth, cntL, h]
/-- the new numbers of all ports: nodes below v, and the first i ports of v -/
def toAt (N : NetD) (kp : Nat → Nat → Bool) (v i : Nat) : List (List Int) := (List.range N.ends.length).map fun a => if a < v then cntL kp a (nthL N.ends a).length else if a = v then cntL kp v i else []
theorem toAt_len (N : NetD) (kp : Nat → Nat → Bool) (v i : Nat) : (toAt N kp v i).length = N.ends.length := by simp [toAt]
theorem nthL_toAt {N : NetD} {kp : Nat → Nat → Bool} {v i a : Nat} (h : a < N.ends.length) : nthL (toAt N kp v i) a = if a < v then cntL kp a (nthL N.ends a).length else if a = v then cntL kp v i else [] := by simp [nthL, toAt, h]
theorem toAt_zero (N : NetD) (kp : Nat → Nat → Bool) : toAt N kp 0 0 = List.replicate N.ends.length [] := by
  refine ext_nthL (by rw [toAt_len]; simp) fun a ha => ?_
  rw [toAt_len] at ha
  rw [nthL_toAt ha, if_neg (by omega)]
  have : nthL (List.replicate N.ends.length ([] : List Int)) a = [] := by simp [nthL, ha]
  rw [this]
  by_cases e : a = 0
  · rw [if_pos e]; rfl
  · rw [if_neg e]
theorem toAt_next {N : NetD} {kp : Nat → Nat → Bool} {v : Nat} (hv : v < N.ends.length) : toAt N kp v (nthL N.ends v).length = toAt N kp (v + 1) 0 := by
  refine ext_nthL (by rw [toAt_len, toAt_len]) fun a ha => ?_
  rw [toAt_len] at ha
  rw [nthL_toAt ha, nthL_toAt ha]
  by_cases e1 : a < v
  · rw [if_pos e1, if_pos (by omega)]
  · rw [if_neg e1]
    by_cases e2 : a = v
    · subst e2; rw [if_pos rfl, if_pos (by omega)]
    · rw [if_neg e2, if_neg (by omega)]
      by_cases e3 : a = v + 1
      · rw [if_pos e3]; rfl
      · rw [if_neg e3]
theorem toAt_step {N : NetD} {kp : Nat → Nat → Bool} {v i : Nat} (hv : v < N.ends.length) : (toAt N kp v i).set v (cntL kp v i ++ [((cntK kp v i : Nat) : Int)]) = toAt N kp v (i + 1) := by
  refine ext_nthL (by rw [List.length_set, toAt_len, toAt_len]) fun a ha => ?_
  rw [List.length_set, toAt_len] at ha
  rw [nthL_set (by rw [toAt_len]; exact hv), nthL_toAt ha, nthL_toAt ha, ← cntL_succ]
  by_cases e2 : a = v
  · subst e2; rw [if_pos rfl, if_neg (by omega), if_pos rfl]
  · rw [if_neg e2]
    by_cases e1 : a < v
    · rw [if_pos e1, if_pos e1]
    · rw [if_neg e1, if_neg e1, if_neg e2, if_neg e2]
theorem toAt_at {N : NetD} {kp : Nat → Nat → Bool} {a : Nat} (h : a < N.ends.length) : nthL (toAt N kp N.ends.length 0) a = cntL kp a (nthL N.ends a).length := by rw [nthL_toAt h, if_pos h]
/-- the booleans say which ports are kept -/
def KeepB (N : NetD) (kp : Nat → Nat → Bool) (bss : List (List Bool)) : Prop := SameB N N.ends.length bss ∧ ∀ a, a < N.ends.length → ∀ b, b < (nthL N.ends a).length → nthB (nthL bss a) b = kp a b
/-- the kept ends of a node as pairs of numbers -/
def cutP (N : NetD) (kp : Nat → Nat → Bool) (v m : Nat) : List Po := ((List.range m).filter (kp v)).map fun i => ((nthE (nthL N.ends v) i).1.toNat, cntK kp (nthE (nthL N.ends v) i).1.toNat (nthE (nthL N.ends v) i).2.toNat)
theorem cutP_len (N : NetD) (kp : Nat → Nat → Bool) (v m : Nat) : (cutP N kp v m).length ≤ m := by
  unfold cutP; rw [List.length_map]; exact Nat.le_trans (List.length_filter_le _ _) (by simp)
theorem cutP_yes {N : NetD} {kp : Nat → Nat → Bool} {v m t r : Nat} (h : kp v m = true) (he : nthE (nthL N.ends v) m = ((t : Int), (r : Int))) : cutP N kp v (m + 1) = cutP N kp v m ++ [(t, cntK kp t r)] := by simp [cutP, List.range_succ, h, he]
theorem cutP_no {N : NetD} {kp : Nat → Nat → Bool} {v m : Nat} (h : kp v m = false) : cutP N kp v (m + 1) = cutP N kp v m := by simp [cutP, List.range_succ, h]
theorem cutP_row {N : NetD} (hg : N.good = true) {kp : Nat → Nat → Bool} {v : Nat} (hv : v < N.ends.length) : ∀ m, m ≤ (nthL N.ends v).length → castL (cutP N kp v m) = cutRow N kp v m
  | 0, _ => by simp [cutP, cutRow, castL]
  | m + 1, hm => by
    have ih := cutP_row hg (kp := kp) hv m (by omega)
    obtain ⟨t, r, he, _⟩ := good_end hg hv (show m < (nthL N.ends v).length by omega)
    cases hb : kp v m with
    | false => rw [cutP_no hb, cutRow_no hb, ih]
    | true => rw [cutP_yes hb he, cutRow_yes hb, castL_snoc, ih, he]; rfl
/-- the rows of the first nodes -/
def cutRows (N : NetD) (kp : Nat → Nat → Bool) (v : Nat) : List (List (Int × Int)) := (List.range v).map fun a => cutRow N kp a (nthL N.ends a).length
theorem cutRows_len (N : NetD) (kp : Nat → Nat → Bool) (v : Nat) : (cutRows N kp v).length = v := by simp [cutRows]
theorem cutRows_succ (N : NetD) (kp : Nat → Nat → Bool) (v : Nat) : cutRows N kp (v + 1) = cutRows N kp v ++ [cutRow N kp v (nthL N.ends v).length] := by simp [cutRows, List.range_succ]
theorem nthL_cutRows {N : NetD} {kp : Nat → Nat → Bool} {v a : Nat} (h : a < v) : nthL (cutRows N kp v) a = cutRow N kp a (nthL N.ends a).length := by simp [nthL, cutRows, h]

set_option maxHeartbeats 1000000 in
theorem l1OwnA (v : Value) (zs : List Int) (lo hi : Nat) (w : World) (h : IntS w lo hi v zs) (hhi : hi ≤ w.heap.size) (hl : zs.length ≤ 1048576) :
    Calls Try.prog 74 #[v] w fun e w' => ∃ r, e = .returned r ∧ IntS w' w.heap.size w'.heap.size r zs ∧ Below w.heap.size w w' := by
  have F := Lib.hid h
  obtain ⟨A, c, rfl, hc, hd⟩ := h.dims
  have HE := Lib.hid (OwnI.empty w w.heap.size 3 rfl (Nat.le_refl _))
  obtain ⟨i0, hi0, _⟩ := Option.map_eq_some_iff.1 Try.info3
  have HI0 := Lib.hid hi0; clear hi0
  by_cases h0 : 0 < zs.length
  · obtain ⟨b, off, rfl, _, hb, _, _⟩ := h.opened (j := 0) h0
    have HC := Lib.hid (show ∀ j, j < zs.length → (w.alloc (.cells #[] 3)).cell? ⟨b, off + j, none⟩ = some (.int .i64 (nth zs j)) from fun j hj => (IntS.at_ (F.out.alloc hhi _) hj).1)
    clear h
    go_enter Try.func74, Try.ntmps74
    go_wp2_with (at_builtin; refine append_ints (s := .tmp 3) Try.underlying23 Try.info3 (by decide) (w.alloc (.cells #[] 3)) rfl (.tmp 4) rfl HE.out rfl (g := b) (off := off) zs rfl rfl HC.out (by simp; omega) (by simp) ?_; intro v1 w1 ho1 hg1; have HO := Lib.hid ho1; have HG1 := Lib.hid hg1; clear ho1 hg1)
    go_ret
    refine ⟨_, rfl, ?_, ((Below.refl _ _).alloc (Nat.le_refl _) _).grown HG1.out (by simp) (fun g hg => by have := HE.out.lt g hg; omega)⟩
    have := HO.out.ints; simpa using this
  · have hz0 : zs.length = 0 := by omega
    have hz : zs = [] := List.eq_nil_of_length_eq_zero hz0
    subst hz
    clear h h0 hz0
    go_enter Try.func74, Try.ntmps74
    go_wp2_with (at_builtin; refine append_zero (s := .tmp 3) Try.underlying23 HI0.out (w.alloc (.cells #[] 3)) rfl (.tmp 4) rfl HE.out rfl rfl ?_)
    go_ret
    exact ⟨_, rfl, HE.out.ints, below_a1 w _⟩

end Go.Proofs.Ytcmmklcampmkjaa

/- Contract: neCut (reference), its rows of ends: the walk. -/
namespace Go.Proofs.Ytcmmklcampmkjaa
open Go.ChangeShapes Go.WideShapes Go.ChangeAt Go.RowKit
set_option linter.unusedVariables false

set_option maxHeartbeats 8000000 in
set_option maxRecDepth 100000 in
theorem neCut_any (v1 : Value) (N : NetD) (lo1 hi1 : Nat) (v2 : Value) (keep : List (List Bool)) (lo2 hi2 : Nat) (w : World) (h1 : Net w lo1 hi1 v1 N) (hh1 : hi1 ≤ w.heap.size) (h2 : BoolSSx w lo2 hi2 v2 keep) (hh2 : hi2 ≤ w.heap.size) (kp : Nat → Nat → Bool) (hg : N.good = true) (hkb : KeepB N kp keep) :
    Calls Try.prog 52 #[v1, v2] w fun e w' => ∃ vE A2 m2 c2 A3 m3 c3, e = .returned (.agg #[vE, .slice A2 m2 c2, .slice A3 m3 c3]) ∧ EndSS w' w.heap.size w'.heap.size vE (cutRows N kp N.ends.length) ∧ Below w.heap.size w w' := by
  obtain ⟨n1, n40⟩ := good_n hg
  have HG := Lib.hid hg; clear hg
  have HKB := Lib.hid hkb; clear hkb
  have hmk := fun W => run_make_row' (P := Try.prog) 63 23 (.slice none 0 0) 24 Try.underlying63 infoRowK rfl .i64 .i64 N.ends.length (by omega) (by omega) W
  have hkl : keep.length = N.ends.length := HKB.out.1.1
  have HKL := Lib.hid hkl
  have F1 := Lib.hid h1
  obtain ⟨A1, c1, A1', c1', A1'', c1'', rfl, hc1, hd1, _⟩ := h1.parts
  obtain ⟨b1, o1, _, _, rfl, _⟩ := Net.rowAt F1.out (u := 0) (by omega)
  clear h1
  have F2 := Lib.hid h2
  obtain ⟨A2, c2, rfl, hc2, hd2⟩ := h2.dims
  clear h2
  obtain ⟨WA, HWA⟩ : ∃ W, Hid (W = ((w.alloc (.cells #[.slice (some ⟨b1, o1, none⟩) N.ends.length c1, .slice A1' N.ids.length c1', .slice A1'' N.inputs.length c1''] 34)).alloc (.cells #[.slice none 0 0, .slice none 0 0, .slice none 0 0] 34))) := ⟨_, Lib.hid rfl⟩
  have hbA : Below w.heap.size w WA := by rw [HWA.out]; exact (((Below.refl _ _).alloc (Nat.le_refl _) _).alloc (by simp; try omega) _)
  have hsA : w.heap.size + 2 ≤ WA.heap.size := by rw [HWA.out]; simp; try omega
  have bx1 : BoxN WA (w.heap.size) #[.slice (some ⟨b1, o1, none⟩) N.ends.length c1, .slice A1' N.ids.length c1', .slice A1'' N.inputs.length c1''] 34 := by rw [HWA.out]; exact ((BoxN.new' _ _ _ (by simp)).still (grown_alloc _ _))
  have bxx0 : BoxN WA (w.heap.size + 1) #[.slice none 0 0, .slice none 0 0, .slice none 0 0] 34 := by rw [HWA.out]; exact (BoxN.new' _ _ _ (by simp))
  have G1 := Lib.hid (Net.below F1.out hbA hh1); clear F1
  have G2 := Lib.hid (BSSx.below F2.out hbA hh2); clear F2
  go_enter Try.func52, Try.ntmps52
  go_upto_region 1 with (fail)
  rw [← HWA.out]; clear HWA
  have hk0 : 0 < keep.length := by omega
  obtain ⟨Ak, ck, ek, _, _, hK0⟩ := SS.form G2.out.ss
  obtain ⟨bK, oK, eK, _, _, _⟩ := hK0 hk0
  injection ek with ek1 _ ek2
  subst ek1 ek2
  subst eK
  clear hK0 hk0 hkl
  have kbx1_0 : WA.cell? ⟨w.heap.size, 0, none⟩ = some (.slice (some ⟨b1, o1, none⟩) N.ends.length c1) := bx1.cell 0 (by simp)
  have kbx1_1 : WA.cell? ⟨w.heap.size, 1, none⟩ = some (.slice A1' N.ids.length c1') := bx1.cell 1 (by simp)
  have kbx1_2 : WA.cell? ⟨w.heap.size, 2, none⟩ = some (.slice A1'' N.inputs.length c1'') := bx1.cell 2 (by simp)
  go_upto_region 2 with (fail)
  clear hmk kbx1_0 kbx1_1 kbx1_2
  refine nameC ?_
  intro W1 HW1
  have hg1 : WA.grownBy W1 none := by rw [HW1.out]; exact grown_alloc _ _
  have hs1 := hg1.size
  have HF1 := Lib.hid ((Turned.refl WA.heap.size WA.heap.size WA).still hg1)
  have HGR := Lib.hid (show Gro W1 WA.heap.size 3 (toAt N kp 0 0) by rw [HW1.out, toAt_zero]; exact Gro.made _ _ _ _ rfl (by omega))
  have hz : WA.heap.size + 1 ≤ W1.heap.size := by rw [HW1.out]; simp
  clear HW1
  have kbx1_0 : W1.cell? ⟨w.heap.size, 0, none⟩ = some (.slice (some ⟨b1, o1, none⟩) N.ends.length c1) := (HF1.out.boxN bx1 (by omega)).cell 0 (by simp)
  have kbx1_1 : W1.cell? ⟨w.heap.size, 1, none⟩ = some (.slice A1' N.ids.length c1') := (HF1.out.boxN bx1 (by omega)).cell 1 (by simp)
  have kbx1_2 : W1.cell? ⟨w.heap.size, 2, none⟩ = some (.slice A1'' N.inputs.length c1'') := (HF1.out.boxN bx1 (by omega)).cell 2 (by simp)
  go_wp2_with fail
  clear kbx1_0 kbx1_1 kbx1_2
  go_loopw [23] (fun kv wr => ∃ (v : Nat), v ≤ N.ends.length ∧ kv = .int .i64 v ∧ Hid (Gro wr WA.heap.size 3 (toAt N kp v 0)) ∧ WA.heap.size + 1 ≤ wr.heap.size ∧ Hid (Turned WA.heap.size WA.heap.size WA wr)) (fun kv _ => N.ends.length - (intOf kv).toNat)
  case atStart => exact ⟨0, Nat.zero_le _, rfl, HGR, hz, HF1⟩
  case round =>
    clear HF1
    obtain ⟨v, hv, rfl, HG2, hz1, HF2⟩ := hrel
    have hs2 := HF2.out.size
    obtain ⟨wq, rfl⟩ : ∃ wq : World, wq = wr := ⟨_, rfl⟩
    by_cases hvn : v < N.ends.length
    case pos =>
      have hvi : (v : Int) < N.ends.length := by omega
      have hd6 := good_deg HG.out hvn
      obtain ⟨Aa, ca, hba, qa, hca, hda, hRa⟩ := Net.rowIn G1.out hvn
      replace qa := (HF2.out.cell (by omega) (by omega)).trans qa
      have Ra := Lib.hid hRa; clear hRa
      go_wp2_with fail
      clear qa
      go_loopw [30, 8] (fun iv nv wr => ∃ (i : Nat), i ≤ (nthL N.ends v).length ∧ iv = .int .i64 i ∧ nv = .int .i64 (cntK kp v i : Nat) ∧ Hid (Gro wr WA.heap.size 3 (toAt N kp v i)) ∧ WA.heap.size + 1 ≤ wr.heap.size ∧ Hid (Turned WA.heap.size WA.heap.size WA wr)) (fun iv nv _ => (nthL N.ends v).length - (intOf iv).toNat)
      case atStart => exact ⟨0, Nat.zero_le _, rfl, rfl, HG2, hz1, HF2⟩
      case round =>
        clear HF2
        obtain ⟨i, hi, rfl, rfl, HG2, hz1, HF3⟩ := hrel
        have hs3 := HF3.out.size
        obtain ⟨wt, rfl⟩ : ∃ wt : World, wt = wr := ⟨_, rfl⟩
        by_cases hil : i < (nthL N.ends v).length
        case neg =>
          obtain rfl : i = (nthL N.ends v).length := by omega
          go_wp2_with fail
          go_roundw
          case rel => exact ⟨v + 1, by omega, by go_num, Lib.hid (by rw [← toAt_next hvn]; exact HG2.out), hz1, HF3⟩
          case measure => simp [intOf]; omega
        have hii : (i : Int) < (nthL N.ends v).length := by omega
        have hck := cntK_le kp v i
        have HCS := Lib.hid (cntK_succ kp v i)
        have HTS := Lib.hid (toAt_step (N := N) (kp := kp) (i := i) hvn)
        obtain ⟨u, hu1, hu2, hu3, hu4, hu5⟩ := HG2.out.open_ (i := v) (by rw [toAt_len]; exact hvn)
        rw [nthL_toAt hvn, if_neg (by omega), if_pos rfl] at hu3
        have hcl := cntL_len kp v i
        obtain ⟨cl, HCL⟩ : ∃ l, Hid (cntL kp v i = l) := ⟨_, Lib.hid rfl⟩
        rw [HCL.out] at hu3 hcl HTS
        have HCLL := Lib.hid hcl; clear hcl
        obtain ⟨Au, cu, rfl, hcu, hdu⟩ := hu3.ints.dims
        have hlv := Lib.hid hu3.lt
        have HU3 := Lib.hid hu3
        have HU5 := Lib.hid hu5
        have hcll : cl.length ≤ 6 := by rw [HCLL.out]; omega
        clear hu3 hu5
        go_upto_region 10 with (at_builtin; refine append_int (s := .tmp 38) Try.underlying23 Try.info3 (by decide) wt rfl _ rfl HU3.out (cntK kp v i : Nat) _ rfl (by simp [Act.eval, go_sem]) (by omega) (by omega) ?_; intro v' w' ho' hg' hat'; have kc : w'.cell? ⟨WA.heap.size, v, none⟩ = some (.slice Au cl.length cu) := (World.cell?_of_block (a := ⟨WA.heap.size, v, none⟩) (hg'.block WA.heap.size (by omega) (fun e => by have := hlv.out _ e.symm; omega))).trans hu1; have kf : w'.frozen? ⟨WA.heap.size, v, none⟩ = false := (World.frozen?_of_block (a := ⟨WA.heap.size, v, none⟩) (hg'.block WA.heap.size (by omega) (fun e => by have := hlv.out _ e.symm; omega))).trans hu2; have hd9 : ∃ A c, v' = .slice A (cl.length + 1) c := (by obtain ⟨A, c, e, _, _⟩ := ho'.ints.dims; exact ⟨A, c, by simp [e]⟩); obtain ⟨Av, cv, rfl⟩ := hd9; have HO' := Lib.hid ho')
        have hgs := hg'.size
        refine nameC ?_
        intro W20 HW20
        have hg20 : w'.grownBy W20 (some (WA.heap.size)) := by rw [HW20.out]; exact grown_set _ _ _
        have hs20 := hg20.size
        have HG3 := Lib.hid (show Gro W20 WA.heap.size 3 (toAt N kp v (i + 1)) by rw [HW20.out, ← HTS.out]; exact HU5.out _ _ _ HO'.out hg' hat')
        have HF20 := Lib.hid ((HF3.out.grown hg' fun g hg => .inr (by have := hlv.out g hg; omega)).grown hg20 fun g hg => .inr (by cases hg; exact Nat.le_refl _))
        clear HW20 hg20 HU5 HO' HU3 hlv kc kf hu1 hu2 hg' hat' HF3
        have hKL2 : i < (nthL keep v).length := by rw [HKB.out.1.2 v hvn]; exact hil
        obtain ⟨b2, o2, c2, _, _, _, _, y1, y2, y3, y4, _, _⟩ := BSSx.at2 (BSSx.turned G2.out HF20.out (by omega) (by omega)) (by omega) (a := v) (i := i) (by rw [HKL.out]; exact hvn) hKL2
        rw [HKB.out.1.2 v hvn] at y1 y2
        rw [HKB.out.2 v hvn i hil] at y4
        have hvk : (v : Int) < keep.length := by rw [HKL.out]; exact hvi
        cases hb : kp v i
        case true =>
          rw [hb] at y4
          rw [if_pos hb] at HCS
          go_wp2_with fail
          go_roundw
          case rel => exact ⟨i + 1, by omega, by go_num, by rw [HCS.out]; go_num, HG3, by omega, HF20⟩
          case measure => simp [intOf]; omega
        case false =>
          rw [hb] at y4
          rw [if_neg (by rw [hb]; decide)] at HCS
          go_wp2_with fail
          go_roundw
          case rel => exact ⟨i + 1, by omega, by go_num, by rw [HCS.out, Nat.add_zero], HG3, by omega, HF20⟩
          case measure => simp [intOf]; omega
    obtain rfl : v = N.ends.length := by omega
    clear hvn
    have HTO := Lib.hid (ISSx.mono (lo' := WA.heap.size) HG2.out.ssx (Nat.le_refl _) (Nat.le_refl _))
    rw [toAt_len] at HTO
    have HKS := Lib.hid (BSSx.mono (lo' := lo2) (BSSx.turned G2.out HF2.out (by omega) (by omega)) (Nat.le_refl _) (Nat.le_refl _))
    clear HG2
    have N_3 := Lib.hid (Net.turned G1.out HF2.out (by omega) (by omega)); clear G1
    have keep_3 := Lib.hid (BSSx.turned G2.out HF2.out (by omega) (by omega)); clear G2
    have bx1_3 := HF2.out.boxN bx1 (by omega); clear bx1
    have bxx0_3 := HF2.out.boxN bxx0 (by omega); clear bxx0
    have hbA3 : Below w.heap.size w wq := (HF2.out.below_of hbA (by omega) (by omega)); clear hbA HF2
    clear HKS
    have hidl : N.ids.length ≤ 40 := by rcases good_idsl HG.out with h | h <;> omega
    have hinl : N.inputs.length ≤ 40 := by have := good_insl HG.out; omega
    have HZL := Lib.hid hidl; have HZI := Lib.hid hinl
    have kbx1_0 : wq.cell? ⟨w.heap.size, 0, none⟩ = some (.slice (some ⟨b1, o1, none⟩) N.ends.length c1) := bx1_3.cell 0 (by simp)
    have kbx1_1 : wq.cell? ⟨w.heap.size, 1, none⟩ = some (.slice A1' N.ids.length c1') := bx1_3.cell 1 (by simp)
    have kbx1_2 : wq.cell? ⟨w.heap.size, 2, none⟩ = some (.slice A1'' N.inputs.length c1'') := bx1_3.cell 2 (by simp)
    go_wp2_with fail
    clear kbx1_0 kbx1_1 kbx1_2
    refine region_cut [54, 55, 56, 57, 58, 59, 60, 10] (fun vs W => ∃ (gO : Nat) (A8 A9 : Option Addr) (n8 c8 n9 c9 : Nat), vs = [.pointer (some ⟨w.heap.size, 1, none⟩), .slice A1' N.ids.length c1', .slice A8 n8 c8, .pointer (some ⟨w.heap.size, 2, none⟩), .slice A1'' N.inputs.length c1'', .slice A9 n9 c9, .agg #[.slice none 0 0, .slice A8 n8 c8, .slice A9 n9 c9], .pointer (some ⟨gO, 0, none⟩)] ∧ Hid (BoxN W gO #[.slice none 0 0, .slice A8 n8 c8, .slice A9 n9 c9] 34) ∧ wq.heap.size ≤ gO ∧ Hid (Turned wq.heap.size wq.heap.size wq W)) ?_ ?_
    case refine_1 =>
      refine wp_region_U (fun w' => w'.cell? ⟨w.heap.size, 0, none⟩ = some (.slice (some ⟨b1, o1, none⟩) N.ends.length c1) ∧ w'.cell? ⟨w.heap.size, 1, none⟩ = some (.slice A1' N.ids.length c1') ∧ w'.cell? ⟨w.heap.size, 2, none⟩ = some (.slice A1'' N.inputs.length c1'')) [] (by kernel_rfl) ?_
      refine nameU ?_
      intro W4 HW4
      have hg4 : wq.grownBy W4 none := by rw [HW4.out]; exact grown_drew _
      clear HW4
      have hs4 := hg4.size
      have HF4 := Lib.hid ((Turned.refl wq.heap.size wq.heap.size wq).still hg4)
      have hS5 : W4.cell? ⟨w.heap.size, 0, none⟩ = some (.slice (some ⟨b1, o1, none⟩) N.ends.length c1) ∧ W4.cell? ⟨w.heap.size, 1, none⟩ = some (.slice A1' N.ids.length c1') ∧ W4.cell? ⟨w.heap.size, 2, none⟩ = some (.slice A1'' N.inputs.length c1'') := ⟨(HF4.out.boxN bx1_3 (by omega)).cell 0 (by simp), (HF4.out.boxN bx1_3 (by omega)).cell 1 (by simp), (HF4.out.boxN bx1_3 (by omega)).cell 2 (by simp)⟩
      refine anyU_take (i := 0) (v := .pointer (some ⟨w.heap.size, 1, none⟩)) rfl (by kernel_rfl) (by kernel_rfl) (by kernel_rfl) (fun _ _ _ ⟨_, _, h, _⟩ => by cases h) ⟨by rfl, fun w' hS' => (by obtain ⟨s1, s2, s3⟩ := hS'; go_simp)⟩ hS5 ?_
      simp only [List.getElem_toArray, List.getElem_cons_zero, Act.put, List.setIfInBounds_toArray, List.set_cons_zero, List.set_cons_succ]
      refine anyU_take (i := 1) (v := .slice A1' N.ids.length c1') rfl (by kernel_rfl) (by kernel_rfl) (by kernel_rfl) (fun _ _ _ ⟨_, _, h, _⟩ => by cases h) ⟨by rfl, fun w' hS' => (by obtain ⟨s1, s2, s3⟩ := hS'; go_simp)⟩ hS5 ?_
      simp only [List.getElem_toArray, List.getElem_cons_succ, List.getElem_cons_zero, Act.put, List.setIfInBounds_toArray, List.set_cons_zero, List.set_cons_succ]
      refine anyU_take (i := 3) (v := .pointer (some ⟨w.heap.size, 2, none⟩)) rfl (by kernel_rfl) (by kernel_rfl) (by kernel_rfl) (fun _ _ _ ⟨_, _, h, _⟩ => by cases h) ⟨by rfl, fun w' hS' => (by obtain ⟨s1, s2, s3⟩ := hS'; go_simp)⟩ hS5 ?_
      simp only [List.getElem_toArray, List.getElem_cons_succ, List.getElem_cons_zero, Act.put, List.setIfInBounds_toArray, List.set_cons_zero, List.set_cons_succ]
      refine anyU_take (i := 4) (v := .slice A1'' N.inputs.length c1'') rfl (by kernel_rfl) (by kernel_rfl) (by kernel_rfl) (fun _ _ _ ⟨_, _, h, _⟩ => by cases h) ⟨by rfl, fun w' hS' => (by obtain ⟨s1, s2, s3⟩ := hS'; go_simp)⟩ hS5 ?_
      simp only [List.getElem_toArray, List.getElem_cons_succ, List.getElem_cons_zero, Act.put, List.setIfInBounds_toArray, List.set_cons_zero, List.set_cons_succ]
      refine anyU_ready (rs := [2, 7]) (by kernel_rfl) (by simp) ?_
      refine ReadyU.cons (i := 2) rfl (fun K hK => ?_) ?_
      case refine_1 =>
        simp only [List.getElem_toArray, List.getElem_cons_succ, List.getElem_cons_zero]
        refine ite_is (by rfl) ?_
        simp [go_sem]
        refine (l1OwnA _ N.ids _ _ _ (netIds (Net.turned N_3.out HF4.out (by omega) (by omega))) (by omega) (by omega)).mono ?_
        rintro e W6 ⟨r6, rfl, hr6, hb6⟩
        have hg6 := grown_below hb6; clear hb6
        have hs6 := hg6.size
        have HF6 := Lib.hid (HF4.out.still hg6); clear HF4
        obtain ⟨A6, cc6, rfl, _, _⟩ := hr6.dims
        clear hr6
        have hS7 : W6.cell? ⟨w.heap.size, 0, none⟩ = some (.slice (some ⟨b1, o1, none⟩) N.ends.length c1) ∧ W6.cell? ⟨w.heap.size, 1, none⟩ = some (.slice A1' N.ids.length c1') ∧ W6.cell? ⟨w.heap.size, 2, none⟩ = some (.slice A1'' N.inputs.length c1'') := ⟨(HF6.out.boxN bx1_3 (by omega)).cell 0 (by simp), (HF6.out.boxN bx1_3 (by omega)).cell 1 (by simp), (HF6.out.boxN bx1_3 (by omega)).cell 2 (by simp)⟩
        refine hK.out _ _ ⟨fun _ => hS7, ?_⟩
        clear hK K hS5
        try simp only [List.getElem_toArray, List.getElem_cons_succ, List.getElem_cons_zero, Act.put, List.setIfInBounds_toArray, List.set_cons_zero, List.set_cons_succ]
        refine anyU_ready (rs := [5, 7]) (by kernel_rfl) (by simp) ?_
        refine ReadyU.cons (i := 5) rfl (fun K hK => ?_) ?_
        case refine_1 =>
          simp only [List.getElem_toArray, List.getElem_cons_succ, List.getElem_cons_zero]
          refine ite_is (by rfl) ?_
          simp [go_sem]
          refine (l1OwnA _ N.inputs _ _ _ (netIns (Net.turned N_3.out HF6.out (by omega) (by omega))) (by omega) (by omega)).mono ?_
          rintro e W8 ⟨r8, rfl, hr8, hb8⟩
          have hg8 := grown_below hb8; clear hb8
          have hs8 := hg8.size
          have HF8 := Lib.hid (HF6.out.still hg8); clear HF6
          obtain ⟨A8, cc8, rfl, _, _⟩ := hr8.dims
          clear hr8
          have hS9 : W8.cell? ⟨w.heap.size, 0, none⟩ = some (.slice (some ⟨b1, o1, none⟩) N.ends.length c1) ∧ W8.cell? ⟨w.heap.size, 1, none⟩ = some (.slice A1' N.ids.length c1') ∧ W8.cell? ⟨w.heap.size, 2, none⟩ = some (.slice A1'' N.inputs.length c1'') := ⟨(HF8.out.boxN bx1_3 (by omega)).cell 0 (by simp), (HF8.out.boxN bx1_3 (by omega)).cell 1 (by simp), (HF8.out.boxN bx1_3 (by omega)).cell 2 (by simp)⟩
          refine hK.out _ _ ⟨fun _ => hS9, ?_⟩
          clear hK K hS7
          try simp only [List.getElem_toArray, List.getElem_cons_succ, List.getElem_cons_zero, Act.put, List.setIfInBounds_toArray, List.set_cons_zero, List.set_cons_succ]
          refine anyU_take (i := 6) (v := .agg #[.slice none 0 0, .slice A6 N.ids.length cc6, .slice A8 N.inputs.length cc8]) rfl (by kernel_rfl) (by kernel_rfl) (by kernel_rfl) (fun _ _ _ ⟨_, _, h, _⟩ => by cases h) ⟨by rfl, fun w' hS' => (by obtain ⟨s1, s2, s3⟩ := hS'; go_simp)⟩ hS9 ?_
          simp only [List.getElem_toArray, List.getElem_cons_succ, List.getElem_cons_zero, Act.put, List.setIfInBounds_toArray, List.set_cons_zero, List.set_cons_succ]
          refine anyU_ready (rs := [7]) (by kernel_rfl) (by simp) ?_
          refine ReadyU.cons (i := 7) rfl (fun K hK => ?_) ?_
          case refine_1 =>
            simp only [List.getElem_toArray, List.getElem_cons_succ, List.getElem_cons_zero]
            refine ite_is (by rfl) ?_
            simp [go_sem]
            refine nameA ?_
            intro W10 HW10
            have hg10 : W8.grownBy W10 none := by rw [HW10.out]; exact grown_alloc _ _
            have OUT10 := Lib.hid (show BoxN W10 W8.heap.size #[.slice none 0 0, .slice none 0 0, .slice none 0 0] 34 by rw [HW10.out]; exact BoxN.new _ _ _)
            have hz10 : W8.heap.size < W10.heap.size := OUT10.out.lt
            clear HW10
            have hs10 := hg10.size
            have HF10 := Lib.hid (HF8.out.still hg10); clear HF8
            have hS11 : W10.cell? ⟨w.heap.size, 0, none⟩ = some (.slice (some ⟨b1, o1, none⟩) N.ends.length c1) ∧ W10.cell? ⟨w.heap.size, 1, none⟩ = some (.slice A1' N.ids.length c1') ∧ W10.cell? ⟨w.heap.size, 2, none⟩ = some (.slice A1'' N.inputs.length c1'') := ⟨(HF10.out.boxN bx1_3 (by omega)).cell 0 (by simp), (HF10.out.boxN bx1_3 (by omega)).cell 1 (by simp), (HF10.out.boxN bx1_3 (by omega)).cell 2 (by simp)⟩
            refine hK.out _ _ ⟨fun _ => hS11, ?_⟩
            clear hK K hS9
            try simp only [List.getElem_toArray, List.getElem_cons_succ, List.getElem_cons_zero, Act.put, List.setIfInBounds_toArray, List.set_cons_zero, List.set_cons_succ]
            have kd0 : W10.cell? ⟨W8.heap.size, 0, none⟩ = some (.slice none 0 0) := OUT10.out.cell 0 (by simp)
            have kd1 : W10.cell? ⟨W8.heap.size, 1, none⟩ = some (.slice none 0 0) := OUT10.out.cell 1 (by simp)
            have kd2 : W10.cell? ⟨W8.heap.size, 2, none⟩ = some (.slice none 0 0) := OUT10.out.cell 2 (by simp)
            have kf0 := OUT10.out.frozen 0
            have kf1 := OUT10.out.frozen 1
            have kf2 := OUT10.out.frozen 2
            refine anyU_ready (rs := [8]) (by kernel_rfl) (by simp) ?_
            refine ReadyU.cons (i := 8) rfl (fun K hK => ?_) ReadyU.nil
            simp only [List.getElem_toArray, List.getElem_cons_succ, List.getElem_cons_zero]
            refine ite_is (by rfl) ?_
            simp [go_sem, kd0, kd1, kd2, kf0, kf1, kf2]
            refine nameA ?_
            intro W12 HW12
            have hg12 : W10.grownBy W12 (some (W8.heap.size)) := by rw [HW12.out]; exact grownBy_setCell (p := ⟨W8.heap.size, 2, none⟩) (grownBy_setCell (p := ⟨W8.heap.size, 1, none⟩) (grown_set _ ⟨W8.heap.size, 0, none⟩ _) rfl _) rfl _
            have hs12 := hg12.size
            have HF12 := Lib.hid (HF10.out.grown hg12 (fun g e => .inr (by cases e; omega))); clear HF10
            have HOU12 := Lib.hid (show BoxN W12 (W8.heap.size) #[.slice none 0 0, .slice A6 N.ids.length cc6, .slice A8 N.inputs.length cc8] 34 by rw [HW12.out]; exact (((OUT10.out.set 0 _).set 1 _).set 2 _))
            clear HW12 kd0 kd1 kd2 kf0 kf1 kf2 OUT10
            have hS13 : W12.cell? ⟨w.heap.size, 0, none⟩ = some (.slice (some ⟨b1, o1, none⟩) N.ends.length c1) ∧ W12.cell? ⟨w.heap.size, 1, none⟩ = some (.slice A1' N.ids.length c1') ∧ W12.cell? ⟨w.heap.size, 2, none⟩ = some (.slice A1'' N.inputs.length c1'') := ⟨(HF12.out.boxN bx1_3 (by omega)).cell 0 (by simp), (HF12.out.boxN bx1_3 (by omega)).cell 1 (by simp), (HF12.out.boxN bx1_3 (by omega)).cell 2 (by simp)⟩
            refine hK.out _ _ ⟨fun _ => hS13, ?_⟩
            clear hK K hS11
            try simp only [List.getElem_toArray, List.getElem_cons_succ, List.getElem_cons_zero, Act.put, List.setIfInBounds_toArray, List.set_cons_zero, List.set_cons_succ]
            clear hS13
            refine anyU_done (by kernel_rfl) ?_ _
            exact ⟨[.pointer (some ⟨w.heap.size, 1, none⟩), .slice A1' N.ids.length c1', .slice A6 N.ids.length cc6, .pointer (some ⟨w.heap.size, 2, none⟩), .slice A1'' N.inputs.length c1'', .slice A8 N.inputs.length cc8, .agg #[.slice none 0 0, .slice A6 N.ids.length cc6, .slice A8 N.inputs.length cc8], .pointer (some ⟨W8.heap.size, 0, none⟩)], ⟨_, _, _, _, _, _, _, rfl, HOU12, by omega, HF12⟩, rfl, by simp only [puts, Act.put, List.setIfInBounds_toArray, List.set_cons_zero, List.set_cons_succ]⟩
          exact ReadyU.nil
        refine ReadyU.cons (i := 7) rfl (fun K hK => ?_) ?_
        case refine_1 =>
          simp only [List.getElem_toArray, List.getElem_cons_succ, List.getElem_cons_zero]
          refine ite_is (by rfl) ?_
          simp [go_sem]
          refine nameA ?_
          intro W14 HW14
          have hg14 : W6.grownBy W14 none := by rw [HW14.out]; exact grown_alloc _ _
          have OUT14 := Lib.hid (show BoxN W14 W6.heap.size #[.slice none 0 0, .slice none 0 0, .slice none 0 0] 34 by rw [HW14.out]; exact BoxN.new _ _ _)
          have hz14 : W6.heap.size < W14.heap.size := OUT14.out.lt
          clear HW14
          have hs14 := hg14.size
          have HF14 := Lib.hid (HF6.out.still hg14); clear HF6
          have hS15 : W14.cell? ⟨w.heap.size, 0, none⟩ = some (.slice (some ⟨b1, o1, none⟩) N.ends.length c1) ∧ W14.cell? ⟨w.heap.size, 1, none⟩ = some (.slice A1' N.ids.length c1') ∧ W14.cell? ⟨w.heap.size, 2, none⟩ = some (.slice A1'' N.inputs.length c1'') := ⟨(HF14.out.boxN bx1_3 (by omega)).cell 0 (by simp), (HF14.out.boxN bx1_3 (by omega)).cell 1 (by simp), (HF14.out.boxN bx1_3 (by omega)).cell 2 (by simp)⟩
          refine hK.out _ _ ⟨fun _ => hS15, ?_⟩
          clear hK K hS7
          try simp only [List.getElem_toArray, List.getElem_cons_succ, List.getElem_cons_zero, Act.put, List.setIfInBounds_toArray, List.set_cons_zero, List.set_cons_succ]
          refine anyU_ready (rs := [5]) (by kernel_rfl) (by simp) ?_
          refine ReadyU.cons (i := 5) rfl (fun K hK => ?_) ?_
          case refine_1 =>
            simp only [List.getElem_toArray, List.getElem_cons_succ, List.getElem_cons_zero]
            refine ite_is (by rfl) ?_
            simp [go_sem]
            refine (l1OwnA _ N.inputs _ _ _ (netIns (Net.turned N_3.out HF14.out (by omega) (by omega))) (by omega) (by omega)).mono ?_
            rintro e W16 ⟨r16, rfl, hr16, hb16⟩
            have hg16 := grown_below hb16; clear hb16
            have hs16 := hg16.size
            have HF16 := Lib.hid (HF14.out.still hg16); clear HF14
            have OUT16 := Lib.hid (BoxN.still OUT14.out hg16); clear OUT14
            obtain ⟨A16, cc16, rfl, _, _⟩ := hr16.dims
            clear hr16
            have hS17 : W16.cell? ⟨w.heap.size, 0, none⟩ = some (.slice (some ⟨b1, o1, none⟩) N.ends.length c1) ∧ W16.cell? ⟨w.heap.size, 1, none⟩ = some (.slice A1' N.ids.length c1') ∧ W16.cell? ⟨w.heap.size, 2, none⟩ = some (.slice A1'' N.inputs.length c1'') := ⟨(HF16.out.boxN bx1_3 (by omega)).cell 0 (by simp), (HF16.out.boxN bx1_3 (by omega)).cell 1 (by simp), (HF16.out.boxN bx1_3 (by omega)).cell 2 (by simp)⟩
            refine hK.out _ _ ⟨fun _ => hS17, ?_⟩
            clear hK K hS15
            try simp only [List.getElem_toArray, List.getElem_cons_succ, List.getElem_cons_zero, Act.put, List.setIfInBounds_toArray, List.set_cons_zero, List.set_cons_succ]
            refine anyU_take (i := 6) (v := .agg #[.slice none 0 0, .slice A6 N.ids.length cc6, .slice A16 N.inputs.length cc16]) rfl (by kernel_rfl) (by kernel_rfl) (by kernel_rfl) (fun _ _ _ ⟨_, _, h, _⟩ => by cases h) ⟨by rfl, fun w' hS' => (by obtain ⟨s1, s2, s3⟩ := hS'; go_simp)⟩ hS17 ?_
            simp only [List.getElem_toArray, List.getElem_cons_succ, List.getElem_cons_zero, Act.put, List.setIfInBounds_toArray, List.set_cons_zero, List.set_cons_succ]
            have kd0 : W16.cell? ⟨W6.heap.size, 0, none⟩ = some (.slice none 0 0) := OUT16.out.cell 0 (by simp)
            have kd1 : W16.cell? ⟨W6.heap.size, 1, none⟩ = some (.slice none 0 0) := OUT16.out.cell 1 (by simp)
            have kd2 : W16.cell? ⟨W6.heap.size, 2, none⟩ = some (.slice none 0 0) := OUT16.out.cell 2 (by simp)
            have kf0 := OUT16.out.frozen 0
            have kf1 := OUT16.out.frozen 1
            have kf2 := OUT16.out.frozen 2
            refine anyU_ready (rs := [8]) (by kernel_rfl) (by simp) ?_
            refine ReadyU.cons (i := 8) rfl (fun K hK => ?_) ReadyU.nil
            simp only [List.getElem_toArray, List.getElem_cons_succ, List.getElem_cons_zero]
            refine ite_is (by rfl) ?_
            simp [go_sem, kd0, kd1, kd2, kf0, kf1, kf2]
            refine nameA ?_
            intro W18 HW18
            have hg18 : W16.grownBy W18 (some (W6.heap.size)) := by rw [HW18.out]; exact grownBy_setCell (p := ⟨W6.heap.size, 2, none⟩) (grownBy_setCell (p := ⟨W6.heap.size, 1, none⟩) (grown_set _ ⟨W6.heap.size, 0, none⟩ _) rfl _) rfl _
            have hs18 := hg18.size
            have HF18 := Lib.hid (HF16.out.grown hg18 (fun g e => .inr (by cases e; omega))); clear HF16
            have HOU18 := Lib.hid (show BoxN W18 (W6.heap.size) #[.slice none 0 0, .slice A6 N.ids.length cc6, .slice A16 N.inputs.length cc16] 34 by rw [HW18.out]; exact (((OUT16.out.set 0 _).set 1 _).set 2 _))
            clear HW18 kd0 kd1 kd2 kf0 kf1 kf2 OUT16
            have hS19 : W18.cell? ⟨w.heap.size, 0, none⟩ = some (.slice (some ⟨b1, o1, none⟩) N.ends.length c1) ∧ W18.cell? ⟨w.heap.size, 1, none⟩ = some (.slice A1' N.ids.length c1') ∧ W18.cell? ⟨w.heap.size, 2, none⟩ = some (.slice A1'' N.inputs.length c1'') := ⟨(HF18.out.boxN bx1_3 (by omega)).cell 0 (by simp), (HF18.out.boxN bx1_3 (by omega)).cell 1 (by simp), (HF18.out.boxN bx1_3 (by omega)).cell 2 (by simp)⟩
            refine hK.out _ _ ⟨fun _ => hS19, ?_⟩
            clear hK K hS17
            try simp only [List.getElem_toArray, List.getElem_cons_succ, List.getElem_cons_zero, Act.put, List.setIfInBounds_toArray, List.set_cons_zero, List.set_cons_succ]
            clear hS19
            refine anyU_done (by kernel_rfl) ?_ _
            exact ⟨[.pointer (some ⟨w.heap.size, 1, none⟩), .slice A1' N.ids.length c1', .slice A6 N.ids.length cc6, .pointer (some ⟨w.heap.size, 2, none⟩), .slice A1'' N.inputs.length c1'', .slice A16 N.inputs.length cc16, .agg #[.slice none 0 0, .slice A6 N.ids.length cc6, .slice A16 N.inputs.length cc16], .pointer (some ⟨W6.heap.size, 0, none⟩)], ⟨_, _, _, _, _, _, _, rfl, HOU18, by omega, HF18⟩, rfl, by simp only [puts, Act.put, List.setIfInBounds_toArray, List.set_cons_zero, List.set_cons_succ]⟩
          exact ReadyU.nil
        exact ReadyU.nil
      refine ReadyU.cons (i := 7) rfl (fun K hK => ?_) ?_
      case refine_1 =>
        simp only [List.getElem_toArray, List.getElem_cons_succ, List.getElem_cons_zero]
        refine ite_is (by rfl) ?_
        simp [go_sem]
        refine nameA ?_
        intro W20 HW20
        have hg20 : W4.grownBy W20 none := by rw [HW20.out]; exact grown_alloc _ _
        have OUT20 := Lib.hid (show BoxN W20 W4.heap.size #[.slice none 0 0, .slice none 0 0, .slice none 0 0] 34 by rw [HW20.out]; exact BoxN.new _ _ _)
        have hz20 : W4.heap.size < W20.heap.size := OUT20.out.lt
        clear HW20
        have hs20 := hg20.size
        have HF20 := Lib.hid (HF4.out.still hg20); clear HF4
        have hS21 : W20.cell? ⟨w.heap.size, 0, none⟩ = some (.slice (some ⟨b1, o1, none⟩) N.ends.length c1) ∧ W20.cell? ⟨w.heap.size, 1, none⟩ = some (.slice A1' N.ids.length c1') ∧ W20.cell? ⟨w.heap.size, 2, none⟩ = some (.slice A1'' N.inputs.length c1'') := ⟨(HF20.out.boxN bx1_3 (by omega)).cell 0 (by simp), (HF20.out.boxN bx1_3 (by omega)).cell 1 (by simp), (HF20.out.boxN bx1_3 (by omega)).cell 2 (by simp)⟩
        refine hK.out _ _ ⟨fun _ => hS21, ?_⟩
        clear hK K hS5
        try simp only [List.getElem_toArray, List.getElem_cons_succ, List.getElem_cons_zero, Act.put, List.setIfInBounds_toArray, List.set_cons_zero, List.set_cons_succ]
        refine anyU_ready (rs := [2]) (by kernel_rfl) (by simp) ?_
        refine ReadyU.cons (i := 2) rfl (fun K hK => ?_) ?_
        case refine_1 =>
          simp only [List.getElem_toArray, List.getElem_cons_succ, List.getElem_cons_zero]
          refine ite_is (by rfl) ?_
          simp [go_sem]
          refine (l1OwnA _ N.ids _ _ _ (netIds (Net.turned N_3.out HF20.out (by omega) (by omega))) (by omega) (by omega)).mono ?_
          rintro e W22 ⟨r22, rfl, hr22, hb22⟩
          have hg22 := grown_below hb22; clear hb22
          have hs22 := hg22.size
          have HF22 := Lib.hid (HF20.out.still hg22); clear HF20
          have OUT22 := Lib.hid (BoxN.still OUT20.out hg22); clear OUT20
          obtain ⟨A22, cc22, rfl, _, _⟩ := hr22.dims
          clear hr22
          have hS23 : W22.cell? ⟨w.heap.size, 0, none⟩ = some (.slice (some ⟨b1, o1, none⟩) N.ends.length c1) ∧ W22.cell? ⟨w.heap.size, 1, none⟩ = some (.slice A1' N.ids.length c1') ∧ W22.cell? ⟨w.heap.size, 2, none⟩ = some (.slice A1'' N.inputs.length c1'') := ⟨(HF22.out.boxN bx1_3 (by omega)).cell 0 (by simp), (HF22.out.boxN bx1_3 (by omega)).cell 1 (by simp), (HF22.out.boxN bx1_3 (by omega)).cell 2 (by simp)⟩
          refine hK.out _ _ ⟨fun _ => hS23, ?_⟩
          clear hK K hS21
          try simp only [List.getElem_toArray, List.getElem_cons_succ, List.getElem_cons_zero, Act.put, List.setIfInBounds_toArray, List.set_cons_zero, List.set_cons_succ]
          refine anyU_ready (rs := [5]) (by kernel_rfl) (by simp) ?_
          refine ReadyU.cons (i := 5) rfl (fun K hK => ?_) ?_
          case refine_1 =>
            simp only [List.getElem_toArray, List.getElem_cons_succ, List.getElem_cons_zero]
            refine ite_is (by rfl) ?_
            simp [go_sem]
            refine (l1OwnA _ N.inputs _ _ _ (netIns (Net.turned N_3.out HF22.out (by omega) (by omega))) (by omega) (by omega)).mono ?_
            rintro e W24 ⟨r24, rfl, hr24, hb24⟩
            have hg24 := grown_below hb24; clear hb24
            have hs24 := hg24.size
            have HF24 := Lib.hid (HF22.out.still hg24); clear HF22
            have OUT24 := Lib.hid (BoxN.still OUT22.out hg24); clear OUT22
            obtain ⟨A24, cc24, rfl, _, _⟩ := hr24.dims
            clear hr24
            have hS25 : W24.cell? ⟨w.heap.size, 0, none⟩ = some (.slice (some ⟨b1, o1, none⟩) N.ends.length c1) ∧ W24.cell? ⟨w.heap.size, 1, none⟩ = some (.slice A1' N.ids.length c1') ∧ W24.cell? ⟨w.heap.size, 2, none⟩ = some (.slice A1'' N.inputs.length c1'') := ⟨(HF24.out.boxN bx1_3 (by omega)).cell 0 (by simp), (HF24.out.boxN bx1_3 (by omega)).cell 1 (by simp), (HF24.out.boxN bx1_3 (by omega)).cell 2 (by simp)⟩
            refine hK.out _ _ ⟨fun _ => hS25, ?_⟩
            clear hK K hS23
            try simp only [List.getElem_toArray, List.getElem_cons_succ, List.getElem_cons_zero, Act.put, List.setIfInBounds_toArray, List.set_cons_zero, List.set_cons_succ]
            refine anyU_take (i := 6) (v := .agg #[.slice none 0 0, .slice A22 N.ids.length cc22, .slice A24 N.inputs.length cc24]) rfl (by kernel_rfl) (by kernel_rfl) (by kernel_rfl) (fun _ _ _ ⟨_, _, h, _⟩ => by cases h) ⟨by rfl, fun w' hS' => (by obtain ⟨s1, s2, s3⟩ := hS'; go_simp)⟩ hS25 ?_
            simp only [List.getElem_toArray, List.getElem_cons_succ, List.getElem_cons_zero, Act.put, List.setIfInBounds_toArray, List.set_cons_zero, List.set_cons_succ]
            have kd0 : W24.cell? ⟨W4.heap.size, 0, none⟩ = some (.slice none 0 0) := OUT24.out.cell 0 (by simp)
            have kd1 : W24.cell? ⟨W4.heap.size, 1, none⟩ = some (.slice none 0 0) := OUT24.out.cell 1 (by simp)
            have kd2 : W24.cell? ⟨W4.heap.size, 2, none⟩ = some (.slice none 0 0) := OUT24.out.cell 2 (by simp)
            have kf0 := OUT24.out.frozen 0
            have kf1 := OUT24.out.frozen 1
            have kf2 := OUT24.out.frozen 2
            refine anyU_ready (rs := [8]) (by kernel_rfl) (by simp) ?_
            refine ReadyU.cons (i := 8) rfl (fun K hK => ?_) ReadyU.nil
            simp only [List.getElem_toArray, List.getElem_cons_succ, List.getElem_cons_zero]
            refine ite_is (by rfl) ?_
            simp [go_sem, kd0, kd1, kd2, kf0, kf1, kf2]
            refine nameA ?_
            intro W26 HW26
            have hg26 : W24.grownBy W26 (some (W4.heap.size)) := by rw [HW26.out]; exact grownBy_setCell (p := ⟨W4.heap.size, 2, none⟩) (grownBy_setCell (p := ⟨W4.heap.size, 1, none⟩) (grown_set _ ⟨W4.heap.size, 0, none⟩ _) rfl _) rfl _
            have hs26 := hg26.size
            have HF26 := Lib.hid (HF24.out.grown hg26 (fun g e => .inr (by cases e; omega))); clear HF24
            have HOU26 := Lib.hid (show BoxN W26 (W4.heap.size) #[.slice none 0 0, .slice A22 N.ids.length cc22, .slice A24 N.inputs.length cc24] 34 by rw [HW26.out]; exact (((OUT24.out.set 0 _).set 1 _).set 2 _))
            clear HW26 kd0 kd1 kd2 kf0 kf1 kf2 OUT24
            have hS27 : W26.cell? ⟨w.heap.size, 0, none⟩ = some (.slice (some ⟨b1, o1, none⟩) N.ends.length c1) ∧ W26.cell? ⟨w.heap.size, 1, none⟩ = some (.slice A1' N.ids.length c1') ∧ W26.cell? ⟨w.heap.size, 2, none⟩ = some (.slice A1'' N.inputs.length c1'') := ⟨(HF26.out.boxN bx1_3 (by omega)).cell 0 (by simp), (HF26.out.boxN bx1_3 (by omega)).cell 1 (by simp), (HF26.out.boxN bx1_3 (by omega)).cell 2 (by simp)⟩
            refine hK.out _ _ ⟨fun _ => hS27, ?_⟩
            clear hK K hS25
            try simp only [List.getElem_toArray, List.getElem_cons_succ, List.getElem_cons_zero, Act.put, List.setIfInBounds_toArray, List.set_cons_zero, List.set_cons_succ]
            clear hS27
            refine anyU_done (by kernel_rfl) ?_ _
            exact ⟨[.pointer (some ⟨w.heap.size, 1, none⟩), .slice A1' N.ids.length c1', .slice A22 N.ids.length cc22, .pointer (some ⟨w.heap.size, 2, none⟩), .slice A1'' N.inputs.length c1'', .slice A24 N.inputs.length cc24, .agg #[.slice none 0 0, .slice A22 N.ids.length cc22, .slice A24 N.inputs.length cc24], .pointer (some ⟨W4.heap.size, 0, none⟩)], ⟨_, _, _, _, _, _, _, rfl, HOU26, by omega, HF26⟩, rfl, by simp only [puts, Act.put, List.setIfInBounds_toArray, List.set_cons_zero, List.set_cons_succ]⟩
          exact ReadyU.nil
        exact ReadyU.nil
      exact ReadyU.nil
    case refine_2 =>
      rintro vs W28 ⟨gO, A8, A9, n8, c8, n9, c9, rfl, HB, hgO, HF28⟩
      simp only [puts, Act.put, List.setIfInBounds_toArray, List.set_cons_zero, List.set_cons_succ]
      have hs28 := HF28.out.size
      have hgl := HB.out.lt
      have kbx1_0 : W28.cell? ⟨w.heap.size, 0, none⟩ = some (.slice (some ⟨b1, o1, none⟩) N.ends.length c1) := (HF28.out.boxN bx1_3 (by omega)).cell 0 (by simp)
      have kbx1_1 : W28.cell? ⟨w.heap.size, 1, none⟩ = some (.slice A1' N.ids.length c1') := (HF28.out.boxN bx1_3 (by omega)).cell 1 (by simp)
      have kbx1_2 : W28.cell? ⟨w.heap.size, 2, none⟩ = some (.slice A1'' N.inputs.length c1'') := (HF28.out.boxN bx1_3 (by omega)).cell 2 (by simp)
      go_wp2_with fail
      clear kbx1_0 kbx1_1 kbx1_2
      go_loopw [64] (fun kv wr => ∃ (v : Nat) (vE : Value) (top : Nat), v ≤ N.ends.length ∧ kv = .int .i64 v ∧ Hid (BoxN wr gO #[vE, .slice A8 n8 c8, .slice A9 n9 c9] 34) ∧ Hid (OwnES wr W28.heap.size top 61 vE (cutRows N kp v)) ∧ Hid (Turned wq.heap.size wq.heap.size wq wr)) (fun kv _ => N.ends.length - (intOf kv).toNat)
      case atStart => exact ⟨0, .slice none 0 0, W28.heap.size, Nat.zero_le _, rfl, HB, Lib.hid (OwnES.nil _ _ _ _ (Nat.le_refl _) (Nat.le_refl _)), HF28⟩
      case round =>
        clear HF28
        obtain ⟨v, vE, top, hv, rfl, HB, HO, HF29⟩ := hrel
        have hs29 := HF29.out.size
        obtain ⟨wt, rfl⟩ : ∃ wt : World, wt = wr := ⟨_, rfl⟩
        have htop : top ≤ wt.heap.size := let ⟨_, _, _, _, _, _, h, _⟩ := HO.out; h
        have htop2 : _ ≤ top := let ⟨_, _, _, _, _, h, _⟩ := HO.out; h
        have hcr := cutRows_len N kp v
        have HLE := Lib.hid HO.out.lt
        obtain ⟨rows, HRS⟩ : ∃ l, Hid (cutRows N kp v = l) := ⟨_, Lib.hid rfl⟩
        rw [HRS.out] at HO hcr
        have HCR := Lib.hid hcr; clear hcr
        obtain ⟨AE, cE, rfl, hcE, hdE⟩ := HO.out.len
        by_cases hvn : v < N.ends.length
        case neg =>
          obtain rfl : v = N.ends.length := by omega
          have HR := Lib.hid (ESS.mono HO.out.ssx.ss (show w.heap.size ≤ _ by omega) (Nat.le_refl _))
          have ko0 : wt.cell? ⟨gO, 0, none⟩ = some (.slice AE rows.length cE) := HB.out.cell 0 (by simp)
          have ko1 : wt.cell? ⟨gO, 1, none⟩ = some (.slice A8 n8 c8) := HB.out.cell 1 (by simp)
          have ko2 : wt.cell? ⟨gO, 2, none⟩ = some (.slice A9 n9 c9) := HB.out.cell 2 (by simp)
          have HBR := Lib.hid (HF29.out.boxN bxx0_3 (by omega))
          have kr0 : wt.cell? ⟨w.heap.size + 1, 0, none⟩ = some (.slice none 0 0) := HBR.out.cell 0 (by simp)
          have kr1 : wt.cell? ⟨w.heap.size + 1, 1, none⟩ = some (.slice none 0 0) := HBR.out.cell 1 (by simp)
          have kr2 : wt.cell? ⟨w.heap.size + 1, 2, none⟩ = some (.slice none 0 0) := HBR.out.cell 2 (by simp)
          have kf0 := HBR.out.frozen 0
          have kf1 := HBR.out.frozen 1
          have kf2 := HBR.out.frozen 2
          go_wp2_with fail
          ((try simp only [Exit.inBlock, Exit.then]); refine bodyPost_ret (results_cell1 rfl _ _ _ rfl (load_net (((HBR.out.set 0 (.slice AE rows.length cE)).set 1 (.slice A8 n8 c8)).set 2 (.slice A9 n9 c9)))) rfl ?_)
          have hg9 : wt.grownBy (((wt.setCell ⟨w.heap.size + 1, 0, none⟩ (.slice AE rows.length cE)).setCell ⟨w.heap.size + 1, 1, none⟩ (.slice A8 n8 c8)).setCell ⟨w.heap.size + 1, 2, none⟩ (.slice A9 n9 c9)) (some (w.heap.size + 1)) := grownBy_setCell (p := ⟨w.heap.size + 1, 2, none⟩) (grownBy_setCell (p := ⟨w.heap.size + 1, 1, none⟩) (grown_set wt ⟨w.heap.size + 1, 0, none⟩ _) rfl _) rfl _
          refine ⟨_, _, _, _, _, _, _, rfl, ?_, ((HF29.out.below_of hbA3 (by omega) (by omega)).grown hg9 (by omega) fun g e => by cases e; omega)⟩
          rw [HRS.out]
          exact ESS.mono (ESS.turned (ESS.mono HO.out.ssx.ss (Nat.le_refl _) (Nat.le_refl _)) ((Turned.refl (w.heap.size + 1) (w.heap.size + 1 + 1) wt).grown hg9 (fun g e => .inl (by cases e; omega))) (Nat.le_refl _) (.inr (by omega))) (by omega) (by simp)
        have hvi : (v : Int) < N.ends.length := by omega
        have hd6 := good_deg HG.out hvn
        obtain ⟨Aa, ca, hba, qa, hca, hda, hRa⟩ := Net.rowIn N_3.out hvn
        replace qa := (HF29.out.cell (by omega) (by omega)).trans qa
        have Ra := Lib.hid hRa; clear hRa
        go_wp2_with fail
        clear qa
        go_loopw [71, 13] (fun mv ov wr => ∃ (m : Nat), m ≤ (nthL N.ends v).length ∧ mv = .int .i64 m ∧ Hid (OwnE wr wt.heap.size 60 ov (cutP N kp v m)) ∧ Hid (Below wt.heap.size wt wr)) (fun mv ov _ => (nthL N.ends v).length - (intOf mv).toNat)
        case atStart => exact ⟨0, Nat.zero_le _, rfl, Lib.hid (OwnE.nil _ _ _), Lib.hid (Below.refl _ _)⟩
        case round =>
          obtain ⟨m, hm, rfl, HOE, HBW⟩ := hrel
          obtain ⟨wu, rfl⟩ : ∃ wu : World, wu = wr := ⟨_, rfl⟩
          have hs9 := HBW.out.size
          have hpl := cutP_len N kp v m
          obtain ⟨Au, cu, rfl, hcu, hdu⟩ := HOE.out.len
          by_cases hml : m < (nthL N.ends v).length
          case pos =>
            have hmi : (m : Int) < (nthL N.ends v).length := by omega
            obtain ⟨be, oe, rfl, _, _, xe, xe'⟩ := (EndS.below (EndS.turned Ra.out HF29.out (by omega) (by omega)) HBW.out (by omega)).opened hml
            obtain ⟨t, r, et, ht, hr, eu⟩ := good_end HG.out hvn hml
            rw [et] at xe xe'
            dsimp only at xe xe'
            have ET := Lib.hid et
            clear et eu
            have hrd := good_deg HG.out ht
            have hapE := Lib.hid HOE.out.lt
            go_upto_region 22 with (fail)
            refine nameC ?_
            intro W31 HW31
            have hg31 : wu.grownBy W31 none := by rw [HW31.out]; exact grown_alloc _ _
            have hs31 := hg31.size
            have BE := Lib.hid (show BoxN W31 wu.heap.size #[.int .i64 t, .int .i64 r] 60 by rw [HW31.out]; exact BoxN.new _ _ _)
            clear HW31 xe xe'
            have HB2 := Lib.hid (HBW.out.trans ((grown_to_below hg31).mono (by omega)))
            have HO2 := Lib.hid (OwnE.still HOE.out hg31)
            clear HOE hg31 HBW
            have hKL2 : m < (nthL keep v).length := by rw [HKB.out.1.2 v hvn]; exact hml
            obtain ⟨b2, o2, c2', _, _, _, _, y1, y2, y3, y4, _, _⟩ := BSSx.at2 (BSSx.below (BSSx.turned keep_3.out HF29.out (by omega) (by omega)) HB2.out (by omega)) (by omega) (a := v) (i := m) (by rw [HKL.out]; exact hvn) hKL2
            rw [HKB.out.1.2 v hvn] at y1 y2
            rw [HKB.out.2 v hvn m hml] at y4
            have hvk : (v : Int) < keep.length := by rw [HKL.out]; exact hvi
            cases hb : kp v m
            case false =>
              rw [hb] at y4
              have HCN := Lib.hid (cutP_no (N := N) hb)
              go_wp2_with fail
              go_roundw
              case rel => exact ⟨m + 1, by omega, by go_num, Lib.hid (by rw [HCN.out]; exact HO2.out), HB2⟩
              case measure => simp [intOf]; omega
            rw [hb] at y4
            have HCY := Lib.hid (cutP_yes hb ET.out)
            clear hb
            go_upto_region 23 with (fail)
            clear y1 y2 y3 y4
            obtain ⟨b3, o3, c3, _, hB3, _, hb3, z1, z2, z3, z4, _⟩ := ISSx.at2 (ISSx.below (ISSx.turned HTO.out HF29.out (by omega) (by omega)) HB2.out (by omega)) (by omega) (a := t) (i := r) (by rw [toAt_len]; exact ht) (by rw [toAt_at ht, cntL_len]; exact hr)
            rw [toAt_at ht, cntL_len] at z1 z2
            rw [toAt_at ht, nth_cntL hr, ] at z4
            rw [Nat.zero_add] at z1
            have T1 := Lib.hid (show CellH W31 ⟨WA.heap.size, t, none⟩ (.slice (some ⟨b3, o3, none⟩) (nthL N.ends t).length c3) from ⟨z1, by show WA.heap.size < _; omega⟩)
            have T2 := Lib.hid (show CellH W31 ⟨b3, o3 + r, none⟩ (.int .i64 (cntK kp t r : Nat)) from ⟨z4, by show b3 < _; omega⟩)
            have htn : (t : Int) < N.ends.length := by omega
            have hrn : (r : Int) < (nthL N.ends t).length := by omega
            clear z1 z4
            obtain ⟨l, HL⟩ : ∃ l, Hid (cutP N kp v m = l) := ⟨_, Lib.hid rfl⟩
            rw [HL.out] at HO2 HCY hpl hapE
            have hck := cntK_le kp t r
            rw [HL.out]
            obtain ⟨d, HD⟩ : ∃ d, Hid ((nthL N.ends t).length = d) := ⟨_, Lib.hid rfl⟩
            rw [HD.out] at T1 hrn z2 hrd hr
            obtain ⟨cn, HCN2⟩ : ∃ c, Hid (cntK kp t r = c) := ⟨_, Lib.hid rfl⟩
            rw [HCN2.out] at T2 HCY hck
            have hlo2 := Lib.hid HO2.out.lt
            refine wp_region_U (fun w' => w'.cell? ⟨wu.heap.size, 0, none⟩ = some (.int .i64 t) ∧ w'.cell? ⟨wu.heap.size, 1, none⟩ = some (.int .i64 r) ∧ w'.cell? ⟨WA.heap.size, t, none⟩ = some (.slice (some ⟨b3, o3, none⟩) d c3) ∧ w'.cell? ⟨b3, o3 + r, none⟩ = some (.int .i64 (cn : Nat))) [] (by kernel_rfl) ?_
            refine nameU ?_
            intro W32 HW32
            have hg32 : W31.grownBy W32 none := by rw [HW32.out]; exact grown_drew _
            clear HW32
            have hs32 := hg32.size
            have HF32 := Lib.hid ((Turned.refl W31.heap.size W31.heap.size W31).still hg32)
            have BE32 := Lib.hid (BoxN.still BE.out hg32); clear BE
            have T132 := Lib.hid (CellH.still T1.out hg32); clear T1
            have T232 := Lib.hid (CellH.still T2.out hg32); clear T2
            have OW32 := Lib.hid (OwnE.still HO2.out hg32); clear HO2
            have hS33 : W32.cell? ⟨wu.heap.size, 0, none⟩ = some (.int .i64 t) ∧ W32.cell? ⟨wu.heap.size, 1, none⟩ = some (.int .i64 r) ∧ W32.cell? ⟨WA.heap.size, t, none⟩ = some (.slice (some ⟨b3, o3, none⟩) d c3) ∧ W32.cell? ⟨b3, o3 + r, none⟩ = some (.int .i64 (cn : Nat)) := ⟨BE32.out.cell 0 (by simp), BE32.out.cell 1 (by simp), T132.out.cell, T232.out.cell⟩
            refine anyU_take (i := 0) (v := .slice Au l.length cu) rfl (by kernel_rfl) (by kernel_rfl) (by kernel_rfl) (fun _ _ _ h => h) ⟨by rfl, fun w' hS' => (by obtain ⟨s1, s2, s3, s4⟩ := hS'; go_simp)⟩ hS33 ?_
            simp only [List.getElem_toArray, List.getElem_cons_zero, Act.put, List.setIfInBounds_toArray, List.set_cons_zero, List.set_cons_succ]
            refine anyU_take (i := 1) (v := .pointer (some ⟨wu.heap.size, 0, none⟩)) rfl (by kernel_rfl) (by kernel_rfl) (by kernel_rfl) (fun _ _ _ h => h) ⟨by rfl, fun w' hS' => (by obtain ⟨s1, s2, s3, s4⟩ := hS'; go_simp)⟩ hS33 ?_
            simp only [List.getElem_toArray, List.getElem_cons_succ, List.getElem_cons_zero, Act.put, List.setIfInBounds_toArray, List.set_cons_zero, List.set_cons_succ]
            refine anyU_take (i := 2) (v := .int .i64 t) rfl (by kernel_rfl) (by kernel_rfl) (by kernel_rfl) (fun _ _ _ h => h) ⟨by rfl, fun w' hS' => (by obtain ⟨s1, s2, s3, s4⟩ := hS'; go_simp)⟩ hS33 ?_
            simp only [List.getElem_toArray, List.getElem_cons_succ, List.getElem_cons_zero, Act.put, List.setIfInBounds_toArray, List.set_cons_zero, List.set_cons_succ]
            refine anyU_take (i := 3) (v := .slice (some ⟨WA.heap.size, 0, none⟩) N.ends.length N.ends.length) rfl (by kernel_rfl) (by kernel_rfl) (by kernel_rfl) (fun _ _ _ h => h) ⟨by rfl, fun w' hS' => (by obtain ⟨s1, s2, s3, s4⟩ := hS'; go_simp)⟩ hS33 ?_
            simp only [List.getElem_toArray, List.getElem_cons_succ, List.getElem_cons_zero, Act.put, List.setIfInBounds_toArray, List.set_cons_zero, List.set_cons_succ]
            refine anyU_take (i := 4) (v := .pointer (some ⟨wu.heap.size, 0, none⟩)) rfl (by kernel_rfl) (by kernel_rfl) (by kernel_rfl) (fun _ _ _ h => h) ⟨by rfl, fun w' hS' => (by obtain ⟨s1, s2, s3, s4⟩ := hS'; go_simp)⟩ hS33 ?_
            simp only [List.getElem_toArray, List.getElem_cons_succ, List.getElem_cons_zero, Act.put, List.setIfInBounds_toArray, List.set_cons_zero, List.set_cons_succ]
            refine anyU_take (i := 5) (v := .int .i64 t) rfl (by kernel_rfl) (by kernel_rfl) (by kernel_rfl) (fun _ _ _ h => h) ⟨by rfl, fun w' hS' => (by obtain ⟨s1, s2, s3, s4⟩ := hS'; go_simp)⟩ hS33 ?_
            simp only [List.getElem_toArray, List.getElem_cons_succ, List.getElem_cons_zero, Act.put, List.setIfInBounds_toArray, List.set_cons_zero, List.set_cons_succ]
            refine anyU_take (i := 6) (v := .pointer (some ⟨WA.heap.size, t, none⟩)) rfl (by kernel_rfl) (by kernel_rfl) (by kernel_rfl) (fun _ _ _ h => h) ⟨by rfl, fun w' hS' => (by obtain ⟨s1, s2, s3, s4⟩ := hS'; simp [go_sem, htn])⟩ hS33 ?_
            simp only [List.getElem_toArray, List.getElem_cons_succ, List.getElem_cons_zero, Act.put, List.setIfInBounds_toArray, List.set_cons_zero, List.set_cons_succ]
            refine anyU_take (i := 7) (v := .slice (some ⟨b3, o3, none⟩) d c3) rfl (by kernel_rfl) (by kernel_rfl) (by kernel_rfl) (fun _ _ _ h => h) ⟨by rfl, fun w' hS' => (by obtain ⟨s1, s2, s3, s4⟩ := hS'; go_simp)⟩ hS33 ?_
            simp only [List.getElem_toArray, List.getElem_cons_succ, List.getElem_cons_zero, Act.put, List.setIfInBounds_toArray, List.set_cons_zero, List.set_cons_succ]
            refine anyU_take (i := 8) (v := .pointer (some ⟨wu.heap.size, 1, none⟩)) rfl (by kernel_rfl) (by kernel_rfl) (by kernel_rfl) (fun _ _ _ h => h) ⟨by rfl, fun w' hS' => (by obtain ⟨s1, s2, s3, s4⟩ := hS'; go_simp)⟩ hS33 ?_
            simp only [List.getElem_toArray, List.getElem_cons_succ, List.getElem_cons_zero, Act.put, List.setIfInBounds_toArray, List.set_cons_zero, List.set_cons_succ]
            refine anyU_take (i := 9) (v := .int .i64 r) rfl (by kernel_rfl) (by kernel_rfl) (by kernel_rfl) (fun _ _ _ h => h) ⟨by rfl, fun w' hS' => (by obtain ⟨s1, s2, s3, s4⟩ := hS'; go_simp)⟩ hS33 ?_
            simp only [List.getElem_toArray, List.getElem_cons_succ, List.getElem_cons_zero, Act.put, List.setIfInBounds_toArray, List.set_cons_zero, List.set_cons_succ]
            refine anyU_take (i := 10) (v := .pointer (some ⟨b3, o3 + r, none⟩)) rfl (by kernel_rfl) (by kernel_rfl) (by kernel_rfl) (fun _ _ _ h => h) ⟨by rfl, fun w' hS' => (by obtain ⟨s1, s2, s3, s4⟩ := hS'; simp [go_sem, hrn])⟩ hS33 ?_
            simp only [List.getElem_toArray, List.getElem_cons_succ, List.getElem_cons_zero, Act.put, List.setIfInBounds_toArray, List.set_cons_zero, List.set_cons_succ]
            refine anyU_take (i := 11) (v := .int .i64 (cn : Nat)) rfl (by kernel_rfl) (by kernel_rfl) (by kernel_rfl) (fun _ _ _ h => h) ⟨by rfl, fun w' hS' => (by obtain ⟨s1, s2, s3, s4⟩ := hS'; go_simp)⟩ hS33 ?_
            simp only [List.getElem_toArray, List.getElem_cons_succ, List.getElem_cons_zero, Act.put, List.setIfInBounds_toArray, List.set_cons_zero, List.set_cons_succ]
            refine anyU_take (i := 12) (v := .agg #[.int .i64 t, .int .i64 (cn : Nat)]) rfl (by kernel_rfl) (by kernel_rfl) (by kernel_rfl) (fun _ _ _ h => h) ⟨by rfl, fun w' hS' => (by obtain ⟨s1, s2, s3, s4⟩ := hS'; go_simp)⟩ hS33 ?_
            simp only [List.getElem_toArray, List.getElem_cons_succ, List.getElem_cons_zero, Act.put, List.setIfInBounds_toArray, List.set_cons_zero, List.set_cons_succ]
            refine anyU_ready (rs := [13]) (by kernel_rfl) (by simp) ?_
            refine ReadyU.cons (i := 13) rfl (fun K hK => ?_) ReadyU.nil
            simp only [List.getElem_toArray, List.getElem_cons_succ, List.getElem_cons_zero]
            refine ite_is (by rfl) ?_
            simp [go_sem]
            refine nameA ?_
            intro W34 HW34
            have hg34 : W32.grownBy W34 none := by rw [HW34.out]; exact grown_alloc _ _
            have BV := Lib.hid (show BoxN W34 W32.heap.size #[.int .i64 t, .int .i64 (cn : Nat)] 60 by rw [HW34.out]; exact BoxN.new _ _ _)
            have hz34 : W32.heap.size < W34.heap.size := BV.out.lt
            clear HW34
            have hs34 := hg34.size
            have HF34 := Lib.hid (HF32.out.still hg34); clear HF32
            have BE34 := Lib.hid (BoxN.still BE32.out hg34); clear BE32
            have T134 := Lib.hid (CellH.still T132.out hg34); clear T132
            have T234 := Lib.hid (CellH.still T232.out hg34); clear T232
            have OW34 := Lib.hid (OwnE.still OW32.out hg34); clear OW32
            have hS35 : W34.cell? ⟨wu.heap.size, 0, none⟩ = some (.int .i64 t) ∧ W34.cell? ⟨wu.heap.size, 1, none⟩ = some (.int .i64 r) ∧ W34.cell? ⟨WA.heap.size, t, none⟩ = some (.slice (some ⟨b3, o3, none⟩) d c3) ∧ W34.cell? ⟨b3, o3 + r, none⟩ = some (.int .i64 (cn : Nat)) := ⟨BE34.out.cell 0 (by simp), BE34.out.cell 1 (by simp), T134.out.cell, T234.out.cell⟩
            refine hK.out _ _ ⟨fun _ => hS35, ?_⟩
            clear hK K hS33
            try simp only [List.getElem_toArray, List.getElem_cons_succ, List.getElem_cons_zero, Act.put, List.setIfInBounds_toArray, List.set_cons_zero, List.set_cons_succ]
            refine anyU_ready (rs := [14]) (by kernel_rfl) (by simp) ?_
            refine ReadyU.cons (i := 14) rfl (fun K hK => ?_) ReadyU.nil
            refine step_append_own2 Try.underlying61 infoEndK rfl (by omega) (by omega) W34 (by rfl) _ (by rfl) OW34.out (by rfl) _ (owns_box BV.out rfl 0 (Nat.zero_le _)) (by rfl) (by intro u hu; simp only [List.mem_cons, List.not_mem_nil, or_false] at hu; rcases hu with rfl | rfl <;> rfl) (by omega) (by omega) ?_
            intro v5 W36 ho5 hg36 hat5
            have hs36 := hg36.size
            have BE36 := Lib.hid (BoxN.far BE34.out hg36 (fun g e => by have := hapE.out g e; omega))
            have T136 := Lib.hid (CellH.far T134.out hg36 (fun g e => by have := hapE.out g e; show g ≠ WA.heap.size; omega))
            have T236 := Lib.hid (CellH.far T234.out hg36 (fun g e => by have := hapE.out g e; show g ≠ b3; omega))
            have HO5 := Lib.hid (show OwnE W36 wt.heap.size 60 v5 (l ++ [(t, cn)]) by unfold OwnE; rw [flatP_snoc, List.length_append]; exact ho5)
            have HB5 := Lib.hid ((HF34.out.below_of HB2.out (by omega) (by omega)).grown hg36 (by omega) fun g e => by have := hapE.out g e; omega)
            clear ho5 hat5
            have hS37 : W36.cell? ⟨wu.heap.size, 0, none⟩ = some (.int .i64 t) ∧ W36.cell? ⟨wu.heap.size, 1, none⟩ = some (.int .i64 r) ∧ W36.cell? ⟨WA.heap.size, t, none⟩ = some (.slice (some ⟨b3, o3, none⟩) d c3) ∧ W36.cell? ⟨b3, o3 + r, none⟩ = some (.int .i64 (cn : Nat)) := ⟨BE36.out.cell 0 (by simp), BE36.out.cell 1 (by simp), T136.out.cell, T236.out.cell⟩
            refine hK.out _ _ ⟨fun _ => hS37, ?_⟩
            clear hK K hS35
            try simp only [List.getElem_toArray, List.getElem_cons_succ, List.getElem_cons_zero, Act.put, List.setIfInBounds_toArray, List.set_cons_zero, List.set_cons_succ]
            refine anyU_ready (rs := [15]) (by kernel_rfl) (by simp) ?_
            refine ReadyU.cons (i := 15) rfl (fun K hK => ?_) ReadyU.nil
            simp only [List.getElem_toArray, List.getElem_cons_succ, List.getElem_cons_zero]
            refine ite_is (by rfl) ?_
            simp [go_sem]
            refine hK.out _ _ ⟨fun _ => hS37, ?_⟩
            clear hK K
            try simp only [List.getElem_toArray, List.getElem_cons_succ, List.getElem_cons_zero, Act.put, List.setIfInBounds_toArray, List.set_cons_zero, List.set_cons_succ]
            clear hS37
            refine anyU_done (by kernel_rfl) ?_ _
            go_wp2_with fail
            go_roundw
            case rel => exact ⟨m + 1, by omega, by go_num, Lib.hid (by rw [HCY.out]; exact HO5.out), HB5⟩
            case measure => simp [intOf]; omega
          obtain rfl : m = (nthL N.ends v).length := by omega
          have HCR2 := Lib.hid (show cutRows N kp (v + 1) = rows ++ [castL (cutP N kp v (nthL N.ends v).length)] by rw [cutRows_succ, HRS.out, cutP_row HG.out hvn _ (Nat.le_refl _)])
          obtain ⟨l, HL⟩ : ∃ l, Hid (cutP N kp v (nthL N.ends v).length = l) := ⟨_, Lib.hid rfl⟩
          rw [HL.out] at HOE HCR2 hpl hcu
          rw [HL.out]
          have HOE2 := Lib.hid (show EndS wu wt.heap.size wu.heap.size (.slice Au l.length cu) (castL l) from HOE.out.ends)
          have HB2 := Lib.hid (BoxN.still HB.out (grown_below HBW.out))
          have HO2 := Lib.hid (OwnES.below HO.out HBW.out)
          have HF2 := Lib.hid (HF29.out.still (grown_below HBW.out))
          have hrw := HCR.out
          have hrl : rows.length ≤ 40 := by omega
          clear hrw HOE HB HO HBW HF29
          have ko0 : wu.cell? ⟨gO, 0, none⟩ = some (.slice AE rows.length cE) := HB2.out.cell 0 (by simp)
          have kof := HB2.out.frozen 0
          go_upto_region 26 with (at_builtin; refine append_es (s := .tmp 100) Try.underlying32 infoRowE (by decide) wu rfl _ rfl HO2.out HOE2.out htop (by omega) (by omega) (fun g e => .inl (by have := HLE.out g e; omega)) _ (by simp [Act.eval, go_sem]) (by simp [Act.eval, go_sem]) (by omega) ?_; intro vE2 w7 ho7 hg7 hat7; obtain ⟨A7, c7, hq7, _⟩ := ho7.len; simp only [List.length_append, List.length_cons, List.length_nil, Nat.zero_add] at hq7; subst hq7; have HO7 := Lib.hid ho7; have HG7 := Lib.hid hg7; have HB7 := Lib.hid (BoxN.far HB2.out hg7 (fun g e => by have := HLE.out g e; omega)); have ko7 : w7.cell? ⟨gO, 0, none⟩ = some (.slice AE rows.length cE) := HB7.out.cell 0 (by simp); have kof7 := HB7.out.frozen 0; clear ho7 hg7)
          clear ko0 kof ko7 kof7
          have hg7 := HG7.out
          have hs7 := hg7.size
          refine nameC ?_
          intro W80 HW80
          have hg80 : w7.grownBy W80 (some gO) := by rw [HW80.out]; exact grown_set _ ⟨gO, 0, none⟩ _
          have hs80 := hg80.size
          have HB80 := Lib.hid (show BoxN W80 gO #[.slice A7 (rows.length + 1) c7, .slice A8 n8 c8, .slice A9 n9 c9] 34 by rw [HW80.out]; exact HB7.out.set 0 _)
          have HO80 := Lib.hid (OwnES.far HO7.out hg80 (fun g e => by cases e; omega))
          have HF80 := Lib.hid ((HF2.out.grown hg7 (fun g e => .inr (by have := (HLE.out g e).1; omega))).grown hg80 (fun g e => .inr (by cases e; omega)))
          clear HW80 HB7 HO7 HF2 HB2 HO2
          go_wp2_with fail
          go_roundw
          case rel => exact ⟨v + 1, .slice A7 (rows.length + 1) c7, wu.heap.size, by omega, by go_num, HB80, Lib.hid (by rw [HCR2.out]; exact HO80.out), HF80⟩
          case measure => simp [intOf]; omega

end Go.Proofs.Ytcmmklcampmkjaa

/- Contract: neKeep (reference): the network of some nodes is the program's part. -/
namespace Go.Proofs.Ytcmmklcampmkjaa
open Go.ChangeShapes Go.WideShapes Go.ChangeAt Go.RowKit
set_option linter.unusedVariables false

theorem anyU_skip2 {P : Program} {md : Region.Mode} {ops : Array Oper} {Q : Exit → Act → World → Prop} {S : World → Prop} {T : List Nat} {i : Nat} {oi : Oper} {fuel : Nat} {listed : Array Bool} {a : Act} {w : World} (hi : ops[i]? = some oi)
    (hs : (Region.noSelect ops && waitsB md ops T listed i) = true) (hf : (Region.free md ops listed i && closedB md ops listed) = true) (hr : (Region.ready md ops listed).contains i = true)
    (hQ : ∀ c a w, Q (.panic c) (a.put oi.dst undef) w → Q (.panic c) a w) (hy : Region.wanted oi (yielded ops a.tmps) = false) (hS : S w)
    (h : anyU P md ops Q S T fuel (listed.setIfInBounds i true) (a.put oi.dst undef) w) : anyU P md ops Q S T (fuel + 1) listed a w := by
  rw [Bool.and_eq_true] at hs hf
  exact anyU_first hi (Region.noSelect_spec hs.1) hQ fuel listed a w (Region.free_spec hi hf.1) (closedB_is hf.2) hs.2 (by simpa using hr) (.inr ⟨hy, rfl⟩) hS h
/-- the booleans written so far: all ports of nodes below v, and the first i of v -/
def KAt (N : NetD) (zs : List Int) (v i : Nat) (bs : List (List Bool)) : Prop := SameB N N.ends.length bs ∧ ∀ a, a < N.ends.length → ∀ b, b < (nthL N.ends a).length → (a < v ∨ (a = v ∧ b < i)) → nthB (nthL bs a) b = kpB N zs a b
section
variable {N : NetD} {zs : List Int} {v i : Nat} {bs : List (List Bool)}
theorem KAt.step (h : KAt N zs v i bs) (hv : v < N.ends.length) (hi : i < (nthL N.ends v).length) : KAt N zs v (i + 1) (setAtB bs v i (kpB N zs v i)) := by
  have hvl : v < bs.length := by rw [h.1.1]; exact hv
  refine ⟨⟨by rw [setAtB_length]; exact h.1.1, fun a ha => by rw [setAtB_row bs hvl]; exact h.1.2 a ha⟩, fun a ha b hb hab => ?_⟩
  rw [nthL_setAtB hvl]
  by_cases e : a = v
  · subst e
    rw [if_pos rfl, nthB_set _ _ _ _ (by rw [h.1.2 a ha]; exact hi)]
    by_cases e2 : b = i
    · rw [if_pos e2, e2]
    · rw [if_neg e2]; exact h.2 a ha b hb (by omega)
  · rw [if_neg e]; exact h.2 a ha b hb (by omega)
theorem KAt.next (h : KAt N zs v (nthL N.ends v).length bs) : KAt N zs (v + 1) 0 bs := by
  refine ⟨h.1, fun a ha b hb hab => h.2 a ha b hb ?_⟩
  by_cases e : a = v
  · subst e; exact .inr ⟨rfl, hb⟩
  · exact .inl (by omega)
theorem KAt.done (h : KAt N zs N.ends.length 0 bs) : KeepB N (kpB N zs) bs := ⟨h.1, fun a ha b hb => h.2 a ha b hb (.inl ha)⟩
end
theorem numL_nat : ∀ (l o : List Int) (a m : Nat), a + l.length ≤ m → (∀ x, ∃ q : Nat, nth o x = q ∧ q ≤ m) → ∀ x, ∃ q : Nat, nth (numL o a l) x = q ∧ q ≤ m
  | [], o, a, m, _, h => h
  | y :: l, o, a, m, hm, h => by
    simp only [List.length_cons] at hm
    refine numL_nat l _ (a + 1) m (by omega) fun x => ?_
    by_cases hy : y.toNat < o.length
    · rw [nth_set _ _ _ _ hy]
      by_cases e : x = y.toNat
      · rw [if_pos e]; exact ⟨a, rfl, by omega⟩
      · rw [if_neg e]; exact h x
    · rw [List.set_eq_of_length_le (by omega)]; exact h x
theorem toOf_nat (n : Nat) (zs : List Int) (x : Nat) : ∃ q : Nat, nth (toOf n zs) x = q ∧ q ≤ zs.length := numL_nat zs _ 0 zs.length (by omega) (fun x => ⟨0, by unfold nth; simp [List.getElem?_replicate]; split <;> rfl, by omega⟩) x
theorem castP_inj {a b : Po} (h : castP a = castP b) : a = b := by
  obtain ⟨a1, a2⟩ := a
  obtain ⟨b1, b2⟩ := b
  unfold castP at h
  simp only [Prod.mk.injEq] at h ⊢
  omega
theorem castL_inj : ∀ {a b : List Po}, castL a = castL b → a = b
  | [], [], _ => rfl
  | [], _ :: _, h => by cases h
  | _ :: _, [], h => by cases h
  | x :: a, y :: b, h => by
    have h' : castP x :: castL a = castP y :: castL b := h
    injection h' with h1 h2
    rw [castP_inj h1, castL_inj h2]
theorem cutP_node {N : NetD} (hg : N.good = true) {kp : Nat → Nat → Bool} {v m : Nat} (hv : v < N.ends.length) (hm : m ≤ (nthL N.ends v).length) : ∀ p ∈ cutP N kp v m, p.1 < N.ends.length ∧ p.2 ≤ 6 := fun p hp => by
  unfold cutP at hp
  obtain ⟨i, hi, rfl⟩ := List.mem_map.1 hp
  have hil := List.mem_range.1 (List.mem_filter.1 hi).1
  obtain ⟨t, r, he, ht, hr, _⟩ := good_end hg hv (show i < (nthL N.ends v).length by omega)
  rw [he]
  simp only [Int.toNat_natCast]
  have := cntK_le kp t r
  have := good_deg hg ht
  exact ⟨ht, by omega⟩
/-- the first j ends of a row of the new network -/
def keepP (N : NetD) (zs : List Int) (kp : Nat → Nat → Bool) (v j : Nat) : List Po := ((cutP N kp v (nthL N.ends v).length).take j).map fun p => ((nth (toOf N.ends.length zs) p.1).toNat, p.2)
theorem keepP_succ {N : NetD} {zs : List Int} {kp : Nat → Nat → Bool} {v j : Nat} (h : j < (cutP N kp v (nthL N.ends v).length).length) : keepP N zs kp v (j + 1) = keepP N zs kp v j ++ [((nth (toOf N.ends.length zs) (nthP (cutP N kp v (nthL N.ends v).length) j).1).toNat, (nthP (cutP N kp v (nthL N.ends v).length) j).2)] := by
  unfold keepP
  rw [List.take_succ_eq_append_getElem h, List.map_append]
  simp [nthP, h]
theorem keepP_len (N : NetD) (zs : List Int) (kp : Nat → Nat → Bool) (v j : Nat) : (keepP N zs kp v j).length ≤ j := by unfold keepP; rw [List.length_map, List.length_take]; omega
theorem keepP_all {N : NetD} {zs : List Int} {kp : Nat → Nat → Bool} (hg : N.good = true) (hz : PickOk N zs) (hK : KeepOk N zs kp) {k v : Nat} (hk : k < zs.length) (hv : nth zs k = (v : Int)) : keepP N zs kp v (cutP N kp v (nthL N.ends v).length).length = partRow N kp (allU N kp zs zs.length) v (nthL N.ends v).length := by
  obtain ⟨t, et, ht⟩ := hz.node k hk
  have hvn : v < N.ends.length := by rw [hv] at et; omega
  apply castL_inj
  rw [← cut_part hg hz hK hk hv _ (Nat.le_refl _), ← cutP_row hg hvn _ (Nat.le_refl _)]
  unfold keepP mapEnds castL
  rw [List.take_length, List.map_map, List.map_map]
  apply List.map_congr_left
  intro p hp
  obtain ⟨q, eq, _⟩ := toOf_nat N.ends.length zs p.1
  simp only [Function.comp, castP, Int.toNat_natCast, eq]

end Go.Proofs.Ytcmmklcampmkjaa

/- Contract: neKeep (reference): the walk. -/
namespace Go.Proofs.Ytcmmklcampmkjaa
open Go.ChangeShapes Go.WideShapes Go.ChangeAt Go.RowKit
set_option linter.unusedVariables false

set_option maxHeartbeats 16000000 in
set_option maxRecDepth 100000 in
theorem neKeep_any (v1 : Value) (N : NetD) (lo1 hi1 : Nat) (v2 : Value) (zs : List Int) (lo2 hi2 : Nat) (w : World) (h1 : Net w lo1 hi1 v1 N) (hh1 : hi1 ≤ w.heap.size) (h2 : IntS w lo2 hi2 v2 zs) (hh2 : hi2 ≤ w.heap.size) (hg : N.good = true) (hz : PickOk N zs) (hzl : zs.length ≤ 40) :
    Calls Try.prog 24 #[v1, v2] w fun e w' => ∃ r, e = .returned (r) ∧ Net w' w.heap.size w'.heap.size r (partN N zs (kpB N zs)) ∧ Below w.heap.size w w' := by
  obtain ⟨n1, n40⟩ := good_n hg
  have HG := Lib.hid hg; clear hg
  have HZ := Lib.hid hz; have HZN := Lib.hid hz.node; have HKO := Lib.hid (kpB_ok HG.out hz); clear hz
  have HNN := Lib.hid (good_insl HG.out); have HNI := Lib.hid (good_idsl HG.out)
  have hmk := fun W => run_make_row' (P := Try.prog) 23 3 (.int .i64 0) 8 Try.underlying23 Try.info3 rfl .i64 .i64 N.ends.length (by omega) (by omega) W
  have HMK := Lib.hid hmk; clear hmk
  have F1 := Lib.hid h1
  obtain ⟨A1, c1, A1', c1', A1'', c1'', rfl, hc1, hd1, _⟩ := h1.parts
  obtain ⟨b1, o1, _, _, rfl, _⟩ := Net.rowAt F1.out (u := 0) (by omega)
  clear h1
  have F2 := Lib.hid h2
  obtain ⟨A2, c2, rfl, hc2, hd2⟩ := h2.dims
  clear h2
  obtain ⟨WA, HWA⟩ : ∃ W, Hid (W = ((w.alloc (.cells #[.slice (some ⟨b1, o1, none⟩) N.ends.length c1, .slice A1' N.ids.length c1', .slice A1'' N.inputs.length c1''] 34)).alloc (.cells #[.slice none 0 0, .slice none 0 0, .slice none 0 0] 34))) := ⟨_, Lib.hid rfl⟩
  have hbA : Below w.heap.size w WA := by rw [HWA.out]; exact (((Below.refl _ _).alloc (Nat.le_refl _) _).alloc (by simp; try omega) _)
  have hsA : w.heap.size + 2 ≤ WA.heap.size := by rw [HWA.out]; simp; try omega
  have bx1 : BoxN WA (w.heap.size) #[.slice (some ⟨b1, o1, none⟩) N.ends.length c1, .slice A1' N.ids.length c1', .slice A1'' N.inputs.length c1''] 34 := by rw [HWA.out]; exact ((BoxN.new' _ _ _ (by simp)).still (grown_alloc _ _))
  have bxx0 : BoxN WA (w.heap.size + 1) #[.slice none 0 0, .slice none 0 0, .slice none 0 0] 34 := by rw [HWA.out]; exact (BoxN.new' _ _ _ (by simp))
  have G1 := Lib.hid (Net.below F1.out hbA hh1); clear F1
  have G2 := Lib.hid (IntS.below F2.out hbA hh2); clear F2
  go_enter Try.func24, Try.ntmps24
  go_upto_region 1 with (fail)
  rw [← HWA.out]; clear HWA
  have kbx1_0 : WA.cell? ⟨w.heap.size, 0, none⟩ = some (.slice (some ⟨b1, o1, none⟩) N.ends.length c1) := bx1.cell 0 (by simp)
  have kbx1_1 : WA.cell? ⟨w.heap.size, 1, none⟩ = some (.slice A1' N.ids.length c1') := bx1.cell 1 (by simp)
  have kbx1_2 : WA.cell? ⟨w.heap.size, 2, none⟩ = some (.slice A1'' N.inputs.length c1'') := bx1.cell 2 (by simp)
  go_wp2_with fail
  clear kbx1_0 kbx1_1 kbx1_2
  refine (neAll_any _ N lo1 hi1 _ G1.out (by omega) HG.out).mono ?_
  rintro e W1 ⟨r0, bss, rfl, hB0, hsm0, hb1⟩
  have hg1 := grown_below hb1; clear hb1
  have hs1 := hg1.size
  have HF1 := Lib.hid ((Turned.refl WA.heap.size WA.heap.size WA).still hg1)
  have HB0 := Lib.hid hB0; clear hB0
  obtain ⟨Ak, ck, rfl, hck, hdk⟩ := HB0.out.dims
  have hk0 : 0 < bss.length := by rw [hsm0.1]; omega
  obtain ⟨Ak', ck', ek, _, _, hK0⟩ := SS.form HB0.out.ss
  obtain ⟨bK, oK, eK, _, _, _⟩ := hK0 hk0
  injection ek with ek1 _ ek2
  subst ek1 ek2
  subst eK
  have HP0 := Lib.hid (show KAt N zs 0 0 bss from ⟨hsm0, fun a ha b hb h => absurd h (by omega)⟩)
  rw [hsm0.1] at HB0 hck ⊢
  clear hK0 hk0 hsm0
  have kbx1_0 : W1.cell? ⟨w.heap.size, 0, none⟩ = some (.slice (some ⟨b1, o1, none⟩) N.ends.length c1) := (HF1.out.boxN bx1 (by omega)).cell 0 (by simp)
  have kbx1_1 : W1.cell? ⟨w.heap.size, 1, none⟩ = some (.slice A1' N.ids.length c1') := (HF1.out.boxN bx1 (by omega)).cell 1 (by simp)
  have kbx1_2 : W1.cell? ⟨w.heap.size, 2, none⟩ = some (.slice A1'' N.inputs.length c1'') := (HF1.out.boxN bx1 (by omega)).cell 2 (by simp)
  go_wp2_with fail
  clear kbx1_0 kbx1_1 kbx1_2
  go_loopw [25] (fun kv wr => ∃ (v : Nat) (bs : List (List Bool)), v ≤ N.ends.length ∧ kv = .int .i64 v ∧ Hid (BoolSSx wr WA.heap.size W1.heap.size (.slice (some ⟨bK, oK, none⟩) N.ends.length ck) bs) ∧ Hid (KAt N zs v 0 bs) ∧ W1.heap.size ≤ wr.heap.size ∧ Hid (Turned WA.heap.size WA.heap.size WA wr)) (fun kv _ => N.ends.length - (intOf kv).toNat)
  case atStart => exact ⟨0, _, Nat.zero_le _, rfl, HB0, HP0, Nat.le_refl _, HF1⟩
  case round =>
    clear HF1
    obtain ⟨v, bs, hv, rfl, HB, HP, hzk, HF2⟩ := hrel
    have hs2 := HF2.out.size
    obtain ⟨wq, rfl⟩ : ∃ wq : World, wq = wr := ⟨_, rfl⟩
    by_cases hvn : v < N.ends.length
    case pos =>
      have hvi : (v : Int) < N.ends.length := by omega
      have hd6 := good_deg HG.out hvn
      obtain ⟨Aa, ca, hba, qa, hca, hda, hRa⟩ := Net.rowIn G1.out hvn
      replace qa := (HF2.out.cell (by omega) (by omega)).trans qa
      have Ra := Lib.hid hRa; clear hRa
      go_wp2_with fail
      clear qa
      go_loopw [32] (fun iv wr => ∃ (i : Nat) (bs : List (List Bool)), i ≤ (nthL N.ends v).length ∧ iv = .int .i64 i ∧ Hid (BoolSSx wr WA.heap.size W1.heap.size (.slice (some ⟨bK, oK, none⟩) N.ends.length ck) bs) ∧ Hid (KAt N zs v i bs) ∧ W1.heap.size ≤ wr.heap.size ∧ Hid (Turned WA.heap.size WA.heap.size WA wr)) (fun iv _ => (nthL N.ends v).length - (intOf iv).toNat)
      case atStart => exact ⟨0, bs, Nat.zero_le _, rfl, HB, HP, hzk, HF2⟩
      case round =>
        clear HF2
        obtain ⟨i, bs, hi, rfl, HB, HP, hzk, HF3⟩ := hrel
        have hs3 := HF3.out.size
        obtain ⟨wt, rfl⟩ : ∃ wt : World, wt = wr := ⟨_, rfl⟩
        by_cases hil : i < (nthL N.ends v).length
        case neg =>
          obtain rfl : i = (nthL N.ends v).length := by omega
          go_wp2_with fail
          go_roundw
          case rel => exact ⟨v + 1, bs, by omega, by go_num, HB, Lib.hid HP.out.next, hzk, HF3⟩
          case measure => simp [intOf]; omega
        have hii : (i : Int) < (nthL N.ends v).length := by omega
        obtain ⟨be, oe, rfl, _, _, xe, xe'⟩ := (EndS.turned Ra.out HF3.out (by omega) (by omega)).opened hil
        obtain ⟨t, r, et, ht, hr, eu⟩ := good_end HG.out hvn hil
        rw [et] at xe xe'
        dsimp only at xe xe'
        have ET := Lib.hid et
        clear et eu
        go_upto_region 8 with (fail)
        refine nameC ?_
        intro W4 HW4
        have hg4 : wt.grownBy W4 none := by rw [HW4.out]; exact grown_alloc _ _
        have hs4 := hg4.size
        have HF4 := Lib.hid (HF3.out.still hg4); clear HF3
        have K4 := Lib.hid (BSSx.still HB.out hg4 (by omega)); clear HB
        have bxe4 := Lib.hid (show BoxN W4 wt.heap.size #[.int .i64 t, .int .i64 r] 60 by rw [HW4.out]; exact BoxN.new _ _ _)
        clear HW4
        clear xe xe'
        have HPN := Lib.hid (HP.out.step hvn hil)
        have HKP := Lib.hid (show kpB N zs v i = (decide ((v : Int) ∈ zs) && decide ((t : Int) ∈ zs)) by unfold kpB; rw [ET.out])
        obtain ⟨b1, HB1⟩ : ∃ b, Hid (decide ((v : Int) ∈ zs) = b) := ⟨_, Lib.hid rfl⟩
        obtain ⟨b2, HB2⟩ : ∃ b, Hid (decide ((t : Int) ∈ zs) = b) := ⟨_, Lib.hid rfl⟩
        rw [HB1.out, HB2.out] at HKP
        rw [HKP.out] at HPN
        have hvl : v < bs.length := by rw [HP.out.1.1]; exact hvn
        have hil2 : i < (nthL bs v).length := by rw [HP.out.1.2 v hvn]; exact hil
        have HRL := Lib.hid (show (nthL bs v).length = (nthL N.ends v).length from HP.out.1.2 v hvn)
        have HVL := Lib.hid hvl; have HIL := Lib.hid hil2; clear hvl hil2
        obtain ⟨bw, ow, cw, hbw, hbw2, hbr, hbr2, y1, y2, y3, y4, y5, _⟩ := BSSx.at2 K4.out (by omega) HVL.out HIL.out
        rw [HRL.out] at y1 y2
        have T1 := Lib.hid (show CellH W4 ⟨bK, oK + v, none⟩ (.slice (some ⟨bw, ow, none⟩) (nthL N.ends v).length cw) from ⟨y1, by show bK < _; omega⟩)
        clear y1 y4 y5
        refine wp_region_U (fun w' => w'.cell? ⟨wt.heap.size, 0, none⟩ = some (.int .i64 t) ∧ w'.cell? ⟨wt.heap.size, 1, none⟩ = some (.int .i64 r) ∧ w'.cell? ⟨bK, oK + v, none⟩ = some (.slice (some ⟨bw, ow, none⟩) (nthL N.ends v).length cw)) [15] (by kernel_rfl) ?_
        refine nameU ?_
        intro W5 HW5
        have hg5 : W4.grownBy W5 none := by rw [HW5.out]; exact grown_drew _
        clear HW5
        have hs5 := hg5.size
        have HF5 := Lib.hid (HF4.out.still hg5); clear HF4
        have K5 := Lib.hid (BSSx.still K4.out hg5 (by omega)); clear K4
        have bxe5 := Lib.hid (BoxN.still bxe4.out hg5); clear bxe4
        have T15 := Lib.hid (CellH.still T1.out hg5); clear T1
        have hS6 : W5.cell? ⟨wt.heap.size, 0, none⟩ = some (.int .i64 t) ∧ W5.cell? ⟨wt.heap.size, 1, none⟩ = some (.int .i64 r) ∧ W5.cell? ⟨bK, oK + v, none⟩ = some (.slice (some ⟨bw, ow, none⟩) (nthL N.ends v).length cw) := ⟨bxe5.out.cell 0 (by simp), bxe5.out.cell 1 (by simp), T15.out.cell⟩
        refine anyU_take (i := 0) (v := .slice (some ⟨bK, oK, none⟩) N.ends.length ck) rfl (by kernel_rfl) (by kernel_rfl) (by kernel_rfl) (fun _ _ _ h => h) ⟨by rfl, fun w' hS' => (by obtain ⟨s1, s2, s3⟩ := hS'; go_simp)⟩ hS6 ?_
        simp only [List.getElem_toArray, List.getElem_cons_zero, Act.put, List.setIfInBounds_toArray, List.set_cons_zero, List.set_cons_succ]
        refine anyU_take (i := 1) (v := .int .i64 v) rfl (by kernel_rfl) (by kernel_rfl) (by kernel_rfl) (fun _ _ _ h => h) ⟨by rfl, fun w' hS' => (by obtain ⟨s1, s2, s3⟩ := hS'; go_simp)⟩ hS6 ?_
        simp only [List.getElem_toArray, List.getElem_cons_succ, List.getElem_cons_zero, Act.put, List.setIfInBounds_toArray, List.set_cons_zero, List.set_cons_succ]
        refine anyU_take (i := 2) (v := .pointer (some ⟨bK, oK + v, none⟩)) rfl (by kernel_rfl) (by kernel_rfl) (by kernel_rfl) (fun _ _ _ h => h) ⟨by rfl, fun w' hS' => (by obtain ⟨s1, s2, s3⟩ := hS'; simp [go_sem, hvi])⟩ hS6 ?_
        simp only [List.getElem_toArray, List.getElem_cons_succ, List.getElem_cons_zero, Act.put, List.setIfInBounds_toArray, List.set_cons_zero, List.set_cons_succ]
        refine anyU_take (i := 3) (v := .slice (some ⟨bw, ow, none⟩) (nthL N.ends v).length cw) rfl (by kernel_rfl) (by kernel_rfl) (by kernel_rfl) (fun _ _ _ h => h) ⟨by rfl, fun w' hS' => (by obtain ⟨s1, s2, s3⟩ := hS'; go_simp)⟩ hS6 ?_
        simp only [List.getElem_toArray, List.getElem_cons_succ, List.getElem_cons_zero, Act.put, List.setIfInBounds_toArray, List.set_cons_zero, List.set_cons_succ]
        refine anyU_take (i := 4) (v := .int .i64 i) rfl (by kernel_rfl) (by kernel_rfl) (by kernel_rfl) (fun _ _ _ h => h) ⟨by rfl, fun w' hS' => (by obtain ⟨s1, s2, s3⟩ := hS'; go_simp)⟩ hS6 ?_
        simp only [List.getElem_toArray, List.getElem_cons_succ, List.getElem_cons_zero, Act.put, List.setIfInBounds_toArray, List.set_cons_zero, List.set_cons_succ]
        refine anyU_take (i := 5) (v := .slice A2 zs.length c2) rfl (by kernel_rfl) (by kernel_rfl) (by kernel_rfl) (fun _ _ _ h => h) ⟨by rfl, fun w' hS' => (by obtain ⟨s1, s2, s3⟩ := hS'; go_simp)⟩ hS6 ?_
        simp only [List.getElem_toArray, List.getElem_cons_succ, List.getElem_cons_zero, Act.put, List.setIfInBounds_toArray, List.set_cons_zero, List.set_cons_succ]
        refine anyU_take (i := 6) (v := .int .i64 v) rfl (by kernel_rfl) (by kernel_rfl) (by kernel_rfl) (fun _ _ _ h => h) ⟨by rfl, fun w' hS' => (by obtain ⟨s1, s2, s3⟩ := hS'; go_simp)⟩ hS6 ?_
        simp only [List.getElem_toArray, List.getElem_cons_succ, List.getElem_cons_zero, Act.put, List.setIfInBounds_toArray, List.set_cons_zero, List.set_cons_succ]
        refine anyU_ready (rs := [7]) (by kernel_rfl) (by simp) ?_
        refine ReadyU.cons (i := 7) rfl (fun K hK => ?_) ReadyU.nil
        simp only [List.getElem_toArray, List.getElem_cons_succ, List.getElem_cons_zero]
        refine ite_is (by rfl) ?_
        simp [go_sem]
        refine (l1Has_any _ zs (v : Nat) _ _ _ (IntS.turned G2.out HF5.out (by omega) (by omega))).mono ?_
        rintro e w' ⟨rfl, rfl⟩
        rw [HB1.out]
        refine hK.out _ _ ⟨fun _ => hS6, ?_⟩
        clear hK K
        try simp only [List.getElem_toArray, List.getElem_cons_succ, List.getElem_cons_zero, Act.put, List.setIfInBounds_toArray, List.set_cons_zero, List.set_cons_succ]
        refine anyU_take (i := 8) (v := .bool b1) rfl (by kernel_rfl) (by kernel_rfl) (by kernel_rfl) (fun _ _ _ h => h) ⟨by rfl, fun w' hS' => (by obtain ⟨s1, s2, s3⟩ := hS'; go_simp)⟩ hS6 ?_
        simp only [List.getElem_toArray, List.getElem_cons_succ, List.getElem_cons_zero, Act.put, List.setIfInBounds_toArray, List.set_cons_zero, List.set_cons_succ]
        cases b1
        case false =>
          refine anyU_skip2 (i := 9) rfl (by kernel_rfl) (by kernel_rfl) (by kernel_rfl) (fun _ _ _ h => h) (by rfl) hS6 ?_
          simp only [List.getElem_toArray, List.getElem_cons_succ, List.getElem_cons_zero, Act.put, List.setIfInBounds_toArray, List.set_cons_zero, List.set_cons_succ]
          refine anyU_skip2 (i := 10) rfl (by kernel_rfl) (by kernel_rfl) (by kernel_rfl) (fun _ _ _ h => h) (by rfl) hS6 ?_
          simp only [List.getElem_toArray, List.getElem_cons_succ, List.getElem_cons_zero, Act.put, List.setIfInBounds_toArray, List.set_cons_zero, List.set_cons_succ]
          refine anyU_skip2 (i := 11) rfl (by kernel_rfl) (by kernel_rfl) (by kernel_rfl) (fun _ _ _ h => h) (by rfl) hS6 ?_
          simp only [List.getElem_toArray, List.getElem_cons_succ, List.getElem_cons_zero, Act.put, List.setIfInBounds_toArray, List.set_cons_zero, List.set_cons_succ]
          refine anyU_skip2 (i := 12) rfl (by kernel_rfl) (by kernel_rfl) (by kernel_rfl) (fun _ _ _ h => h) (by rfl) hS6 ?_
          simp only [List.getElem_toArray, List.getElem_cons_succ, List.getElem_cons_zero, Act.put, List.setIfInBounds_toArray, List.set_cons_zero, List.set_cons_succ]
          refine anyU_take (i := 13) (v := .bool false) rfl (by kernel_rfl) (by kernel_rfl) (by kernel_rfl) (fun _ _ _ h => h) ⟨by rfl, fun w' hS' => (by obtain ⟨s1, s2, s3⟩ := hS'; go_simp)⟩ hS6 ?_
          simp only [List.getElem_toArray, List.getElem_cons_succ, List.getElem_cons_zero, Act.put, List.setIfInBounds_toArray, List.set_cons_zero, List.set_cons_succ]
          refine anyU_take (i := 14) (v := .pointer (some ⟨bw, ow + i, none⟩)) rfl (by kernel_rfl) (by kernel_rfl) (by kernel_rfl) (fun _ _ _ h => h) ⟨by rfl, fun w' hS' => (by obtain ⟨s1, s2, s3⟩ := hS'; simp [go_sem, hii])⟩ hS6 ?_
          simp only [List.getElem_toArray, List.getElem_cons_succ, List.getElem_cons_zero, Act.put, List.setIfInBounds_toArray, List.set_cons_zero, List.set_cons_succ]
          rw [Bool.false_and] at HPN
          obtain ⟨bw', ow', cw', _, _, _, _, z1, _, _, z4, z5, z6⟩ := BSSx.at2 K5.out (by omega) HVL.out HIL.out
          rw [HRL.out] at z1
          have z7 := T15.out.cell
          rw [z7] at z1
          injection z1 with z1
          injection z1 with z1 _ _
          injection z1 with z1
          injection z1 with z1 z2 _
          subst z1 z2
          obtain ⟨xv, HXV⟩ : ∃ x, Hid (nthB (nthL bs v) i = x) := ⟨_, Lib.hid rfl⟩
          rw [HXV.out] at z4
          refine anyU_ready (rs := [15]) (by kernel_rfl) (by simp) ?_
          refine ReadyU.cons (i := 15) rfl (fun K hK => ?_) ReadyU.nil
          simp only [List.getElem_toArray, List.getElem_cons_succ, List.getElem_cons_zero]
          refine ite_is (by rfl) ?_
          simp [go_sem, z4, z5]
          refine hK.out _ _ ⟨fun h => absurd h (by decide), ?_⟩
          clear hK K
          try simp only [List.getElem_toArray, List.getElem_cons_succ, List.getElem_cons_zero, Act.put, List.setIfInBounds_toArray, List.set_cons_zero, List.set_cons_succ]
          refine nameU ?_
          intro W7 HW7
          have hg7 : W5.grownBy W7 (some bw) := by rw [HW7.out]; exact grown_set _ ⟨bw, _, none⟩ _
          have HBN := Lib.hid (show BoolSSx W7 WA.heap.size W1.heap.size (.slice (some ⟨bK, oK, none⟩) N.ends.length ck) (setAtB bs v i false) by rw [HW7.out]; exact z6 _)
          have hsn := hg7.size
          have HFN := Lib.hid (HF5.out.grown hg7 (fun g e => .inr (by cases e; omega)))
          clear HW7 z4 z5 z6 z7
          clear hS6
          refine anyU_done (by kernel_rfl) ?_ _
          go_wp2_with fail
          go_roundw
          case rel => exact ⟨i + 1, _, by omega, by go_num, HBN, HPN, by omega, HFN⟩
          case measure => simp [intOf]; omega
        case true =>
          refine anyU_take (i := 9) (v := .slice A2 zs.length c2) rfl (by kernel_rfl) (by kernel_rfl) (by kernel_rfl) (fun _ _ _ h => h) ⟨by rfl, fun w' hS' => (by obtain ⟨s1, s2, s3⟩ := hS'; go_simp)⟩ hS6 ?_
          simp only [List.getElem_toArray, List.getElem_cons_succ, List.getElem_cons_zero, Act.put, List.setIfInBounds_toArray, List.set_cons_zero, List.set_cons_succ]
          refine anyU_take (i := 10) (v := .pointer (some ⟨wt.heap.size, 0, none⟩)) rfl (by kernel_rfl) (by kernel_rfl) (by kernel_rfl) (fun _ _ _ h => h) ⟨by rfl, fun w' hS' => (by obtain ⟨s1, s2, s3⟩ := hS'; go_simp)⟩ hS6 ?_
          simp only [List.getElem_toArray, List.getElem_cons_succ, List.getElem_cons_zero, Act.put, List.setIfInBounds_toArray, List.set_cons_zero, List.set_cons_succ]
          refine anyU_take (i := 11) (v := .int .i64 t) rfl (by kernel_rfl) (by kernel_rfl) (by kernel_rfl) (fun _ _ _ h => h) ⟨by rfl, fun w' hS' => (by obtain ⟨s1, s2, s3⟩ := hS'; go_simp)⟩ hS6 ?_
          simp only [List.getElem_toArray, List.getElem_cons_succ, List.getElem_cons_zero, Act.put, List.setIfInBounds_toArray, List.set_cons_zero, List.set_cons_succ]
          refine anyU_ready (rs := [12]) (by kernel_rfl) (by simp) ?_
          refine ReadyU.cons (i := 12) rfl (fun K hK => ?_) ReadyU.nil
          simp only [List.getElem_toArray, List.getElem_cons_succ, List.getElem_cons_zero]
          refine ite_is (by rfl) ?_
          simp [go_sem]
          refine (l1Has_any _ zs (t : Nat) _ _ _ (IntS.turned G2.out HF5.out (by omega) (by omega))).mono ?_
          rintro e w' ⟨rfl, rfl⟩
          rw [HB2.out]
          refine hK.out _ _ ⟨fun _ => hS6, ?_⟩
          clear hK K
          try simp only [List.getElem_toArray, List.getElem_cons_succ, List.getElem_cons_zero, Act.put, List.setIfInBounds_toArray, List.set_cons_zero, List.set_cons_succ]
          refine anyU_take (i := 13) (v := .bool b2) rfl (by kernel_rfl) (by kernel_rfl) (by kernel_rfl) (fun _ _ _ h => h) ⟨by rfl, fun w' hS' => (by obtain ⟨s1, s2, s3⟩ := hS'; go_simp)⟩ hS6 ?_
          simp only [List.getElem_toArray, List.getElem_cons_succ, List.getElem_cons_zero, Act.put, List.setIfInBounds_toArray, List.set_cons_zero, List.set_cons_succ]
          refine anyU_take (i := 14) (v := .pointer (some ⟨bw, ow + i, none⟩)) rfl (by kernel_rfl) (by kernel_rfl) (by kernel_rfl) (fun _ _ _ h => h) ⟨by rfl, fun w' hS' => (by obtain ⟨s1, s2, s3⟩ := hS'; simp [go_sem, hii])⟩ hS6 ?_
          simp only [List.getElem_toArray, List.getElem_cons_succ, List.getElem_cons_zero, Act.put, List.setIfInBounds_toArray, List.set_cons_zero, List.set_cons_succ]
          rw [Bool.true_and] at HPN
          obtain ⟨bw', ow', cw', _, _, _, _, z1, _, _, z4, z5, z6⟩ := BSSx.at2 K5.out (by omega) HVL.out HIL.out
          rw [HRL.out] at z1
          have z7 := T15.out.cell
          rw [z7] at z1
          injection z1 with z1
          injection z1 with z1 _ _
          injection z1 with z1
          injection z1 with z1 z2 _
          subst z1 z2
          obtain ⟨xv, HXV⟩ : ∃ x, Hid (nthB (nthL bs v) i = x) := ⟨_, Lib.hid rfl⟩
          rw [HXV.out] at z4
          refine anyU_ready (rs := [15]) (by kernel_rfl) (by simp) ?_
          refine ReadyU.cons (i := 15) rfl (fun K hK => ?_) ReadyU.nil
          simp only [List.getElem_toArray, List.getElem_cons_succ, List.getElem_cons_zero]
          refine ite_is (by rfl) ?_
          simp [go_sem, z4, z5]
          refine hK.out _ _ ⟨fun h => absurd h (by decide), ?_⟩
          clear hK K
          try simp only [List.getElem_toArray, List.getElem_cons_succ, List.getElem_cons_zero, Act.put, List.setIfInBounds_toArray, List.set_cons_zero, List.set_cons_succ]
          refine nameU ?_
          intro W8 HW8
          have hg8 : W5.grownBy W8 (some bw) := by rw [HW8.out]; exact grown_set _ ⟨bw, _, none⟩ _
          have HBN := Lib.hid (show BoolSSx W8 WA.heap.size W1.heap.size (.slice (some ⟨bK, oK, none⟩) N.ends.length ck) (setAtB bs v i b2) by rw [HW8.out]; exact z6 _)
          have hsn := hg8.size
          have HFN := Lib.hid (HF5.out.grown hg8 (fun g e => .inr (by cases e; omega)))
          clear HW8 z4 z5 z6 z7
          clear hS6
          refine anyU_done (by kernel_rfl) ?_ _
          go_wp2_with fail
          go_roundw
          case rel => exact ⟨i + 1, _, by omega, by go_num, HBN, HPN, by omega, HFN⟩
          case measure => simp [intOf]; omega
    obtain rfl : v = N.ends.length := by omega
    clear hvn
    have HKB := Lib.hid HP.out.done
    clear HP
    have kbx1_0 : wq.cell? ⟨w.heap.size, 0, none⟩ = some (.slice (some ⟨b1, o1, none⟩) N.ends.length c1) := (HF2.out.boxN bx1 (by omega)).cell 0 (by simp)
    have kbx1_1 : wq.cell? ⟨w.heap.size, 1, none⟩ = some (.slice A1' N.ids.length c1') := (HF2.out.boxN bx1 (by omega)).cell 1 (by simp)
    have kbx1_2 : wq.cell? ⟨w.heap.size, 2, none⟩ = some (.slice A1'' N.inputs.length c1'') := (HF2.out.boxN bx1 (by omega)).cell 2 (by simp)
    go_wp2_with fail
    clear kbx1_0 kbx1_1 kbx1_2
    refine (neCut_any _ N lo1 hi1 _ bs WA.heap.size W1.heap.size _ (Net.turned G1.out HF2.out (by omega) (by omega)) (by omega) HB.out (by omega) (kpB N zs) HG.out HKB.out).mono ?_
    rintro e W9 ⟨vE5, A5, m5, c5, A6, m6, c6, rfl, hE5, hb9⟩
    have hg9 := grown_below hb9; clear hb9
    have hs9 := hg9.size
    have HF9 := Lib.hid (HF2.out.still hg9); clear HF2
    have HE5 := Lib.hid hE5; clear hE5
    obtain ⟨AE5, cE5, rfl, hcE5, hdE5⟩ := SS.dims HE5.out
    obtain ⟨bC, oC, _, eC, _, _, _, _⟩ := SS.opened (j := 0) HE5.out (by rw [cutRows_len]; omega)
    subst eC
    have hcr5 := cutRows_len N (kpB N zs) N.ends.length
    rw [hcr5] at hcE5 ⊢
    clear hcr5 HB HKB
    go_upto_region 12 with (fail)
    refine nameC ?_
    intro W10 HW10
    have hg10 : W9.grownBy W10 none := by rw [HW10.out]; exact grown_alloc _ _
    have hs10 := hg10.size
    have HF10 := Lib.hid (HF9.out.still hg10); clear HF9
    have CB10 := Lib.hid (show BoxN W10 W9.heap.size #[.slice (some ⟨bC, oC, none⟩) N.ends.length cE5, .slice A5 m5 c5, .slice A6 m6 c6] 34 by rw [HW10.out]; exact BoxN.new _ _ _)
    clear HW10
    have HE6 := Lib.hid (ESS.below HE5.out (grown_to_below hg10) (by omega)); clear HE5
    have N_10 := Lib.hid (Net.turned G1.out HF10.out (by omega) (by omega)); clear G1
    have zs_10 := Lib.hid (IntS.turned G2.out HF10.out (by omega) (by omega)); clear G2
    have bx1_10 := HF10.out.boxN bx1 (by omega); clear bx1
    have bxx0_10 := HF10.out.boxN bxx0 (by omega); clear bxx0
    have hbA10 : Below w.heap.size w W10 := (HF10.out.below_of hbA (by omega) (by omega)); clear hbA HF10
    have hmk := HMK.out
    have kbx1_0 : W10.cell? ⟨w.heap.size, 0, none⟩ = some (.slice (some ⟨b1, o1, none⟩) N.ends.length c1) := bx1_10.cell 0 (by simp)
    have kbx1_1 : W10.cell? ⟨w.heap.size, 1, none⟩ = some (.slice A1' N.ids.length c1') := bx1_10.cell 1 (by simp)
    have kbx1_2 : W10.cell? ⟨w.heap.size, 2, none⟩ = some (.slice A1'' N.inputs.length c1'') := bx1_10.cell 2 (by simp)
    go_upto_region 13 with (fail)
    clear hmk kbx1_0 kbx1_1 kbx1_2
    refine nameC ?_
    intro W11 HW11
    have hg11 : W10.grownBy W11 none := by rw [HW11.out]; exact grown_alloc _ _
    have hs11 := hg11.size
    have HF11 := Lib.hid ((Turned.refl W10.heap.size W10.heap.size W10).still hg11)
    have HT0 := Lib.hid (show IntS W11 W10.heap.size (W10.heap.size + 1) (.slice (some ⟨W10.heap.size, 0, none⟩) N.ends.length N.ends.length) (numL (List.replicate N.ends.length 0) 0 (zs.take 0)) by rw [HW11.out, List.take_zero]; exact made_ints _ _ _ rfl (by omega))
    have hzt : W10.heap.size + 1 ≤ W11.heap.size := by rw [HW11.out]; simp
    clear HW11
    go_wp2_with fail
    go_loopw [63] (fun kv wr => ∃ (k : Nat), k ≤ zs.length ∧ kv = .int .i64 k ∧ Hid (IntS wr W10.heap.size (W10.heap.size + 1) (.slice (some ⟨W10.heap.size, 0, none⟩) N.ends.length N.ends.length) (numL (List.replicate N.ends.length 0) 0 (zs.take k))) ∧ W10.heap.size + 1 ≤ wr.heap.size ∧ Hid (Turned W10.heap.size W10.heap.size W10 wr)) (fun kv _ => zs.length - (intOf kv).toNat)
    case atStart => exact ⟨0, Nat.zero_le _, rfl, HT0, hzt, HF11⟩
    case round =>
      clear HF11
      obtain ⟨k, hk, rfl, HT, hz2, HF12⟩ := hrel
      have hs12 := HF12.out.size
      obtain ⟨wq, rfl⟩ : ∃ wq : World, wq = wr := ⟨_, rfl⟩
      by_cases hkl : k < zs.length
      case pos =>
        obtain ⟨u, eu, hun⟩ := HZN.out k hkl
        obtain ⟨bn, on, rfl, _, _, xn, _⟩ := IntS.opened (IntS.turned zs_10.out HF12.out (by omega) (by omega)) hkl
        rw [eu] at xn
        have hul : u < (numL (List.replicate N.ends.length 0) 0 (zs.take k)).length := by rw [numL_length]; simpa using hun
        obtain ⟨d1, d2⟩ := IntS.at0 HT.out (j := u) hul
        have HNX := Lib.hid (show numL (List.replicate N.ends.length 0) 0 (zs.take (k + 1)) = (numL (List.replicate N.ends.length 0) 0 (zs.take k)).set u (k : Int) by
          rw [List.take_succ_eq_append_getElem hkl, ← nth_eq hkl, eu, numL_snoc, Int.toNat_natCast, List.length_take, Nat.min_eq_left hk, Nat.zero_add])
        clear eu
        have hki : (k : Int) < zs.length := by omega
        have hui : (u : Int) < N.ends.length := by omega
        obtain ⟨dv, HDV⟩ : ∃ x, Hid (nth (numL (List.replicate N.ends.length 0) 0 (zs.take k)) u = x) := ⟨_, Lib.hid rfl⟩
        rw [HDV.out] at d1
        have HS9 := Lib.hid (HT.out.set0 hul (k : Int))
        clear hul
        go_wp2_with fail
        go_roundw
        case rel =>
          have hg9 : wq.grownBy (wq.setCell ⟨W10.heap.size, u, none⟩ (.int .i64 (k : Nat))) (some (W10.heap.size)) := grown_set _ _ _
          have hs9 := hg9.size
          exact ⟨k + 1, by omega, by go_num, Lib.hid (by rw [HNX.out]; exact HS9.out), by omega, Lib.hid (HF12.out.grown hg9 (fun g e => .inr (by cases e; omega)))⟩
        case measure => simp [intOf]; omega
      obtain rfl : k = zs.length := by omega
      rw [List.take_length] at HT
      have HT3 := Lib.hid (show IntS wq W10.heap.size (W10.heap.size + 1) (.slice (some ⟨W10.heap.size, 0, none⟩) N.ends.length N.ends.length) (toOf N.ends.length zs) from HT.out)
      clear HT hkl
      go_upto_region 19 with (fail)
      refine nameC ?_
      intro W13 HW13
      have hg13 : wq.grownBy W13 none := by rw [HW13.out]; exact grown_alloc _ _
      have hs13 := hg13.size
      have HF13 := Lib.hid (HF12.out.still hg13); clear HF12
      have T13 := Lib.hid (IntS.still HT3.out hg13 (by omega)); clear HT3
      have OUT13 := Lib.hid (show BoxN W13 wq.heap.size #[.slice none 0 0, .slice none 0 0, .slice none 0 0] 34 by rw [HW13.out]; exact BoxN.new _ _ _)
      clear HW13
      have hgOl : wq.heap.size < W13.heap.size := OUT13.out.lt
      go_wp2_with fail
      obtain ⟨U, HU⟩ : ∃ U, Hid (allU N (kpB N zs) zs zs.length = U) := ⟨_, Lib.hid rfl⟩
      go_loopw [76] (fun kv wr => ∃ (k : Nat) (vE vD vI : Value), k ≤ zs.length ∧ kv = .int .i64 k ∧ Hid (IntS wr W10.heap.size (W10.heap.size + 1) (.slice (some ⟨W10.heap.size, 0, none⟩) N.ends.length N.ends.length) (toOf N.ends.length zs)) ∧ Hid (BoxN wr wq.heap.size #[vE, vD, vI] 34) ∧ Hid (GN wr W13.heap.size vE vD vI (partRows N (kpB N zs) U (zs.take k)) (if 0 < N.ids.length then pickL N.ids (zs.take k) else []) (pickL N.inputs (zs.take k))) ∧ W13.heap.size ≤ wr.heap.size ∧ Hid (Turned W10.heap.size W10.heap.size W10 wr)) (fun kv _ => zs.length - (intOf kv).toNat)
      case atStart => exact ⟨0, .slice none 0 0, .slice none 0 0, .slice none 0 0, Nat.zero_le _, rfl, T13, OUT13, Lib.hid (by rw [List.take_zero]; simp only [partRows, pickL, List.map_nil, ite_self]; exact GN.nil _ _), Nat.le_refl _, HF13⟩
      case round =>
        clear HF13
        obtain ⟨k, vE, vD, vI, hk, rfl, HT, HB, HGN, hz, HF14⟩ := hrel
        have hs14 := HF14.out.size
        obtain ⟨wt, rfl⟩ : ∃ wt : World, wt = wr := ⟨_, rfl⟩
        by_cases hkl : k < zs.length
        case neg =>
          obtain rfl : k = zs.length := by omega
          rw [List.take_length] at HGN
          have HPE := Lib.hid (show partN N zs (kpB N zs) = ⟨(partRows N (kpB N zs) U zs).map castL, if 0 < N.ids.length then pickL N.ids zs else [], pickL N.inputs zs⟩ by unfold partN; rw [HU.out])
          obtain ⟨rows, HRS⟩ : ∃ l, Hid (partRows N (kpB N zs) U zs = l) := ⟨_, Lib.hid rfl⟩
          obtain ⟨ids, HIDS⟩ : ∃ l, Hid ((if 0 < N.ids.length then pickL N.ids zs else []) = l) := ⟨_, Lib.hid rfl⟩
          obtain ⟨ins, HINS⟩ : ∃ l, Hid (pickL N.inputs zs = l) := ⟨_, Lib.hid rfl⟩
          rw [HRS.out, HIDS.out, HINS.out] at HGN HPE
          obtain ⟨AE, cE, rfl, _⟩ := HGN.out.lenE
          obtain ⟨AD, cD, rfl, _⟩ := HGN.out.idsO.ints.dims
          obtain ⟨AI, cI, rfl, _⟩ := HGN.out.insO.ints.dims
          have HR := Lib.hid HGN.out.net
          have ko0 : wt.cell? ⟨wq.heap.size, 0, none⟩ = some (.slice AE rows.length cE) := HB.out.cell 0 (by simp)
          have ko1 : wt.cell? ⟨wq.heap.size, 1, none⟩ = some (.slice AD ids.length cD) := HB.out.cell 1 (by simp)
          have ko2 : wt.cell? ⟨wq.heap.size, 2, none⟩ = some (.slice AI ins.length cI) := HB.out.cell 2 (by simp)
          have HBR := Lib.hid (HF14.out.boxN bxx0_10 (by omega))
          have kr0 : wt.cell? ⟨w.heap.size + 1, 0, none⟩ = some (.slice none 0 0) := HBR.out.cell 0 (by simp)
          have kr1 : wt.cell? ⟨w.heap.size + 1, 1, none⟩ = some (.slice none 0 0) := HBR.out.cell 1 (by simp)
          have kr2 : wt.cell? ⟨w.heap.size + 1, 2, none⟩ = some (.slice none 0 0) := HBR.out.cell 2 (by simp)
          have kf0 := HBR.out.frozen 0
          have kf1 := HBR.out.frozen 1
          have kf2 := HBR.out.frozen 2
          go_wp2_with fail
          ((try simp only [Exit.inBlock, Exit.then]); refine bodyPost_ret (results_cell1 rfl _ _ _ rfl (load_net (((HBR.out.set 0 (.slice AE rows.length cE)).set 1 (.slice AD ids.length cD)).set 2 (.slice AI ins.length cI)))) rfl ?_)
          have hg9 : wt.grownBy (((wt.setCell ⟨w.heap.size + 1, 0, none⟩ (.slice AE rows.length cE)).setCell ⟨w.heap.size + 1, 1, none⟩ (.slice AD ids.length cD)).setCell ⟨w.heap.size + 1, 2, none⟩ (.slice AI ins.length cI)) (some (w.heap.size + 1)) := grownBy_setCell (p := ⟨w.heap.size + 1, 2, none⟩) (grownBy_setCell (p := ⟨w.heap.size + 1, 1, none⟩) (grown_set wt ⟨w.heap.size + 1, 0, none⟩ _) rfl _) rfl _
          refine ⟨_, rfl, ?_, ((HF14.out.below_of hbA10 (by omega) (by omega)).grown hg9 (by omega) fun g e => by cases e; omega)⟩
          rw [HPE.out]
          exact Net.mono (Net.turned HR.out ((Turned.refl (w.heap.size + 1) (w.heap.size + 1 + 1) wt).grown hg9 (fun g e => .inl (by cases e; omega))) (Nat.le_refl _) (.inr (by omega))) (by omega) (by simp)
        obtain ⟨v, hv, hvn⟩ := HZN.out k hkl
        obtain ⟨bz, oz, rfl, _, _, xz, _⟩ := IntS.opened (IntS.turned zs_10.out HF14.out (by omega) (by omega)) hkl
        rw [hv] at xz
        have hki : (k : Int) < zs.length := by omega
        have hvi : (v : Int) < N.ends.length := by omega
        have hd6 := good_deg HG.out hvn
        have HV := Lib.hid hv; clear hv
        obtain ⟨uC, hbC, zC, huC⟩ := SS.openedIn (j := v) (ESS.turned HE6.out HF14.out (by omega) (by omega)) (by rw [cutRows_len]; exact hvn)
        rw [nthL_cutRows hvn, ← cutP_row HG.out hvn _ (Nat.le_refl _)] at huC
        obtain ⟨L, HL⟩ : ∃ l, Hid (cutP N (kpB N zs) v (nthL N.ends v).length = l) := ⟨_, Lib.hid rfl⟩
        have hLn := cutP_node HG.out (kp := kpB N zs) hvn (Nat.le_refl _)
        have hLl := cutP_len N (kpB N zs) v (nthL N.ends v).length
        rw [HL.out] at huC hLn hLl
        have HLN := Lib.hid hLn; clear hLn
        obtain ⟨AC, cC, rfl, hcC, hdC⟩ := huC.dims
        have HUC := Lib.hid huC; clear huC
        rw [castL_length] at zC hcC
        have kCB_0 : wt.cell? ⟨W9.heap.size, 0, none⟩ = some (.slice (some ⟨bC, oC, none⟩) N.ends.length cE5) := (HF14.out.boxN CB10.out (by omega)).cell 0 (by simp)
        have kCB_1 : wt.cell? ⟨W9.heap.size, 1, none⟩ = some (.slice A5 m5 c5) := (HF14.out.boxN CB10.out (by omega)).cell 1 (by simp)
        have kCB_2 : wt.cell? ⟨W9.heap.size, 2, none⟩ = some (.slice A6 m6 c6) := (HF14.out.boxN CB10.out (by omega)).cell 2 (by simp)
        go_wp2_with fail
        clear xz zC kCB_0 kCB_1 kCB_2
        go_loopw [86, 17] (fun jv ov wr => ∃ (j : Nat), j ≤ L.length ∧ jv = .int .i64 j ∧ Hid (OwnE wr wt.heap.size 60 ov (keepP N zs (kpB N zs) v j)) ∧ Hid (Below wt.heap.size wt wr)) (fun jv ov _ => L.length - (intOf jv).toNat)
        case atStart => exact ⟨0, Nat.zero_le _, rfl, Lib.hid (by simp only [keepP, List.take_zero, List.map_nil]; exact OwnE.nil _ _ _), Lib.hid (Below.refl _ _)⟩
        case round =>
          obtain ⟨j, hj, rfl, HOE, HBW⟩ := hrel
          obtain ⟨wu, rfl⟩ : ∃ wu : World, wu = wr := ⟨_, rfl⟩
          have hs9 := HBW.out.size
          have hpl := keepP_len N zs (kpB N zs) v j
          obtain ⟨Au, cu, rfl, hcu, hdu⟩ := HOE.out.len
          by_cases hjl : j < L.length
          case pos =>
            have hji : (j : Int) < L.length := by omega
            obtain ⟨be, oe, rfl, _, _, xe, xe'⟩ := (EndS.below HUC.out HBW.out (by omega)).opened (j := j) (by rw [castL_length]; exact hjl)
            rw [nthE_castL hjl] at xe xe'
            dsimp only at xe xe'
            have HKS := Lib.hid (keepP_succ (N := N) (zs := zs) (kp := kpB N zs) (v := v) (j := j) (by rw [HL.out]; exact hjl))
            rw [HL.out] at HKS
            obtain ⟨p, HPP⟩ : ∃ p, Hid (nthP L j = p) := ⟨_, Lib.hid rfl⟩
            have hpn := HLN.out _ (show nthP L j ∈ L by unfold nthP; simp [hjl])
            rw [HPP.out] at xe xe' HKS hpn
            obtain ⟨pt, pc⟩ := p
            dsimp only at xe xe' HKS hpn
            obtain ⟨hpt, hpc⟩ := hpn
            obtain ⟨q, eq, hq⟩ := toOf_nat N.ends.length zs pt
            rw [eq, Int.toNat_natCast] at HKS
            have HQ := Lib.hid eq; clear eq
            have hapE := Lib.hid HOE.out.lt
            go_upto_region 26 with (fail)
            refine nameC ?_
            intro W16 HW16
            have hg16 : wu.grownBy W16 none := by rw [HW16.out]; exact grown_alloc _ _
            have hs16 := hg16.size
            have BE := Lib.hid (show BoxN W16 wu.heap.size #[.int .i64 pt, .int .i64 pc] 60 by rw [HW16.out]; exact BoxN.new _ _ _)
            clear HW16 xe xe'
            have HB2 := Lib.hid (HBW.out.trans ((grown_to_below hg16).mono (by omega)))
            have HO2 := Lib.hid (OwnE.still HOE.out hg16)
            clear HOE hg16 HBW
            have htl := numL_length zs (List.replicate N.ends.length 0) 0
            have z4 := (IntS.at0 (IntS.below HT.out HB2.out (by omega)) (j := pt) (by show pt < (numL _ _ _).length; rw [htl]; simpa using hpt)).1
            rw [HQ.out] at z4
            have T2 := Lib.hid (show CellH W16 ⟨W10.heap.size, pt, none⟩ (.int .i64 (q : Nat)) from ⟨z4, by show W10.heap.size < _; omega⟩)
            have hpti : (pt : Int) < N.ends.length := by omega
            clear z4 htl
            obtain ⟨l, HLL⟩ : ∃ l, Hid (keepP N zs (kpB N zs) v j = l) := ⟨_, Lib.hid rfl⟩
            rw [HLL.out] at HO2 HKS hpl hapE hcu
            rw [HLL.out]
            refine wp_region_U (fun w' => w'.cell? ⟨wu.heap.size, 0, none⟩ = some (.int .i64 pt) ∧ w'.cell? ⟨wu.heap.size, 1, none⟩ = some (.int .i64 pc) ∧ w'.cell? ⟨W10.heap.size, pt, none⟩ = some (.int .i64 (q : Nat))) [] (by kernel_rfl) ?_
            refine nameU ?_
            intro W17 HW17
            have hg17 : W16.grownBy W17 none := by rw [HW17.out]; exact grown_drew _
            clear HW17
            have hs17 := hg17.size
            have HF17 := Lib.hid ((Turned.refl W16.heap.size W16.heap.size W16).still hg17)
            have BE17 := Lib.hid (BoxN.still BE.out hg17); clear BE
            have T217 := Lib.hid (CellH.still T2.out hg17); clear T2
            have OW17 := Lib.hid (OwnE.still HO2.out hg17); clear HO2
            have hS18 : W17.cell? ⟨wu.heap.size, 0, none⟩ = some (.int .i64 pt) ∧ W17.cell? ⟨wu.heap.size, 1, none⟩ = some (.int .i64 pc) ∧ W17.cell? ⟨W10.heap.size, pt, none⟩ = some (.int .i64 (q : Nat)) := ⟨BE17.out.cell 0 (by simp), BE17.out.cell 1 (by simp), T217.out.cell⟩
            refine anyU_take (i := 0) (v := .slice Au l.length cu) rfl (by kernel_rfl) (by kernel_rfl) (by kernel_rfl) (fun _ _ _ h => h) ⟨by rfl, fun w' hS' => (by obtain ⟨s1, s2, s3⟩ := hS'; go_simp)⟩ hS18 ?_
            simp only [List.getElem_toArray, List.getElem_cons_zero, Act.put, List.setIfInBounds_toArray, List.set_cons_zero, List.set_cons_succ]
            refine anyU_take (i := 1) (v := .slice (some ⟨W10.heap.size, 0, none⟩) N.ends.length N.ends.length) rfl (by kernel_rfl) (by kernel_rfl) (by kernel_rfl) (fun _ _ _ h => h) ⟨by rfl, fun w' hS' => (by obtain ⟨s1, s2, s3⟩ := hS'; go_simp)⟩ hS18 ?_
            simp only [List.getElem_toArray, List.getElem_cons_succ, List.getElem_cons_zero, Act.put, List.setIfInBounds_toArray, List.set_cons_zero, List.set_cons_succ]
            refine anyU_take (i := 2) (v := .pointer (some ⟨wu.heap.size, 0, none⟩)) rfl (by kernel_rfl) (by kernel_rfl) (by kernel_rfl) (fun _ _ _ h => h) ⟨by rfl, fun w' hS' => (by obtain ⟨s1, s2, s3⟩ := hS'; go_simp)⟩ hS18 ?_
            simp only [List.getElem_toArray, List.getElem_cons_succ, List.getElem_cons_zero, Act.put, List.setIfInBounds_toArray, List.set_cons_zero, List.set_cons_succ]
            refine anyU_take (i := 3) (v := .int .i64 pt) rfl (by kernel_rfl) (by kernel_rfl) (by kernel_rfl) (fun _ _ _ h => h) ⟨by rfl, fun w' hS' => (by obtain ⟨s1, s2, s3⟩ := hS'; go_simp)⟩ hS18 ?_
            simp only [List.getElem_toArray, List.getElem_cons_succ, List.getElem_cons_zero, Act.put, List.setIfInBounds_toArray, List.set_cons_zero, List.set_cons_succ]
            refine anyU_take (i := 4) (v := .pointer (some ⟨W10.heap.size, pt, none⟩)) rfl (by kernel_rfl) (by kernel_rfl) (by kernel_rfl) (fun _ _ _ h => h) ⟨by rfl, fun w' hS' => (by obtain ⟨s1, s2, s3⟩ := hS'; simp [go_sem, hpti])⟩ hS18 ?_
            simp only [List.getElem_toArray, List.getElem_cons_succ, List.getElem_cons_zero, Act.put, List.setIfInBounds_toArray, List.set_cons_zero, List.set_cons_succ]
            refine anyU_take (i := 5) (v := .int .i64 (q : Nat)) rfl (by kernel_rfl) (by kernel_rfl) (by kernel_rfl) (fun _ _ _ h => h) ⟨by rfl, fun w' hS' => (by obtain ⟨s1, s2, s3⟩ := hS'; go_simp)⟩ hS18 ?_
            simp only [List.getElem_toArray, List.getElem_cons_succ, List.getElem_cons_zero, Act.put, List.setIfInBounds_toArray, List.set_cons_zero, List.set_cons_succ]
            refine anyU_take (i := 6) (v := .pointer (some ⟨wu.heap.size, 1, none⟩)) rfl (by kernel_rfl) (by kernel_rfl) (by kernel_rfl) (fun _ _ _ h => h) ⟨by rfl, fun w' hS' => (by obtain ⟨s1, s2, s3⟩ := hS'; go_simp)⟩ hS18 ?_
            simp only [List.getElem_toArray, List.getElem_cons_succ, List.getElem_cons_zero, Act.put, List.setIfInBounds_toArray, List.set_cons_zero, List.set_cons_succ]
            refine anyU_take (i := 7) (v := .int .i64 pc) rfl (by kernel_rfl) (by kernel_rfl) (by kernel_rfl) (fun _ _ _ h => h) ⟨by rfl, fun w' hS' => (by obtain ⟨s1, s2, s3⟩ := hS'; go_simp)⟩ hS18 ?_
            simp only [List.getElem_toArray, List.getElem_cons_succ, List.getElem_cons_zero, Act.put, List.setIfInBounds_toArray, List.set_cons_zero, List.set_cons_succ]
            refine anyU_take (i := 8) (v := .agg #[.int .i64 (q : Nat), .int .i64 pc]) rfl (by kernel_rfl) (by kernel_rfl) (by kernel_rfl) (fun _ _ _ h => h) ⟨by rfl, fun w' hS' => (by obtain ⟨s1, s2, s3⟩ := hS'; go_simp)⟩ hS18 ?_
            simp only [List.getElem_toArray, List.getElem_cons_succ, List.getElem_cons_zero, Act.put, List.setIfInBounds_toArray, List.set_cons_zero, List.set_cons_succ]
            refine anyU_ready (rs := [9]) (by kernel_rfl) (by simp) ?_
            refine ReadyU.cons (i := 9) rfl (fun K hK => ?_) ReadyU.nil
            simp only [List.getElem_toArray, List.getElem_cons_succ, List.getElem_cons_zero]
            refine ite_is (by rfl) ?_
            simp [go_sem]
            refine nameA ?_
            intro W19 HW19
            have hg19 : W17.grownBy W19 none := by rw [HW19.out]; exact grown_alloc _ _
            have BV := Lib.hid (show BoxN W19 W17.heap.size #[.int .i64 (q : Nat), .int .i64 pc] 60 by rw [HW19.out]; exact BoxN.new _ _ _)
            have hz19 : W17.heap.size < W19.heap.size := BV.out.lt
            clear HW19
            have hs19 := hg19.size
            have HF19 := Lib.hid (HF17.out.still hg19); clear HF17
            have BE19 := Lib.hid (BoxN.still BE17.out hg19); clear BE17
            have T219 := Lib.hid (CellH.still T217.out hg19); clear T217
            have OW19 := Lib.hid (OwnE.still OW17.out hg19); clear OW17
            have hS20 : W19.cell? ⟨wu.heap.size, 0, none⟩ = some (.int .i64 pt) ∧ W19.cell? ⟨wu.heap.size, 1, none⟩ = some (.int .i64 pc) ∧ W19.cell? ⟨W10.heap.size, pt, none⟩ = some (.int .i64 (q : Nat)) := ⟨BE19.out.cell 0 (by simp), BE19.out.cell 1 (by simp), T219.out.cell⟩
            refine hK.out _ _ ⟨fun _ => hS20, ?_⟩
            clear hK K hS18
            try simp only [List.getElem_toArray, List.getElem_cons_succ, List.getElem_cons_zero, Act.put, List.setIfInBounds_toArray, List.set_cons_zero, List.set_cons_succ]
            refine anyU_ready (rs := [10]) (by kernel_rfl) (by simp) ?_
            refine ReadyU.cons (i := 10) rfl (fun K hK => ?_) ReadyU.nil
            refine step_append_own2 Try.underlying61 infoEndK rfl (by omega) (by omega) W19 (by rfl) _ (by rfl) OW19.out (by rfl) _ (owns_box BV.out rfl 0 (Nat.zero_le _)) (by rfl) (by intro u hu; simp only [List.mem_cons, List.not_mem_nil, or_false] at hu; rcases hu with rfl | rfl <;> rfl) (by omega) (by omega) ?_
            intro v5 W21 ho5 hg21 hat5
            have hs21 := hg21.size
            have BE21 := Lib.hid (BoxN.far BE19.out hg21 (fun g e => by have := hapE.out g e; omega))
            have T221 := Lib.hid (CellH.far T219.out hg21 (fun g e => by have := hapE.out g e; show g ≠ W10.heap.size; omega))
            have HO5 := Lib.hid (show OwnE W21 wt.heap.size 60 v5 (l ++ [(q, pc)]) by unfold OwnE; rw [flatP_snoc, List.length_append]; exact ho5)
            have HB5 := Lib.hid ((HF19.out.below_of HB2.out (by omega) (by omega)).grown hg21 (by omega) fun g e => by have := hapE.out g e; omega)
            clear ho5 hat5
            have hS22 : W21.cell? ⟨wu.heap.size, 0, none⟩ = some (.int .i64 pt) ∧ W21.cell? ⟨wu.heap.size, 1, none⟩ = some (.int .i64 pc) ∧ W21.cell? ⟨W10.heap.size, pt, none⟩ = some (.int .i64 (q : Nat)) := ⟨BE21.out.cell 0 (by simp), BE21.out.cell 1 (by simp), T221.out.cell⟩
            refine hK.out _ _ ⟨fun _ => hS22, ?_⟩
            clear hK K hS20
            try simp only [List.getElem_toArray, List.getElem_cons_succ, List.getElem_cons_zero, Act.put, List.setIfInBounds_toArray, List.set_cons_zero, List.set_cons_succ]
            refine anyU_ready (rs := [11]) (by kernel_rfl) (by simp) ?_
            refine ReadyU.cons (i := 11) rfl (fun K hK => ?_) ReadyU.nil
            simp only [List.getElem_toArray, List.getElem_cons_succ, List.getElem_cons_zero]
            refine ite_is (by rfl) ?_
            simp [go_sem]
            refine hK.out _ _ ⟨fun _ => hS22, ?_⟩
            clear hK K
            try simp only [List.getElem_toArray, List.getElem_cons_succ, List.getElem_cons_zero, Act.put, List.setIfInBounds_toArray, List.set_cons_zero, List.set_cons_succ]
            clear hS22
            refine anyU_done (by kernel_rfl) ?_ _
            go_wp2_with fail
            go_roundw
            case rel => exact ⟨j + 1, by omega, by go_num, Lib.hid (by rw [HKS.out]; exact HO5.out), HB5⟩
            case measure => simp [intOf]; omega
          obtain rfl : j = L.length := by omega
          have HGN2 := Lib.hid (GN.still HGN.out (grown_below HBW.out))
          have HLE := Lib.hid HGN.out.ltE; have HLD := Lib.hid HGN.out.ltD; have HLI := Lib.hid HGN.out.ltI
          have HB2 := Lib.hid (BoxN.still HB.out (grown_below HBW.out))
          have HM2 := Lib.hid (IntS.still HT.out (grown_below HBW.out) (by omega))
          have HF2 := Lib.hid (HF14.out.still (grown_below HBW.out))
          clear HGN HB HT HF14
          have hag : ∀ q : Value, (∀ g, q.ownBlock = some g → W13.heap.size ≤ g ∧ g < wt.heap.size) → Ap (.slice Au (keepP N zs (kpB N zs) v L.length).length cu) q := fun q hq g h1 h2 => by have := HOE.out.lt g h1; have := (hq g h2).2; omega
          have HAE := Lib.hid (hag vE HLE.out); have HAD := Lib.hid (hag vD HLD.out); have HAI := Lib.hid (hag vI HLI.out)
          clear hag
          have HKA := Lib.hid (show keepP N zs (kpB N zs) v L.length = partRow N (kpB N zs) U v (nthL N.ends v).length by rw [← HU.out, ← HL.out]; exact keepP_all HG.out HZ.out HKO.out hkl HV.out)
          obtain ⟨row, HRW⟩ : ∃ row, Hid (keepP N zs (kpB N zs) v L.length = row) := ⟨_, Lib.hid rfl⟩
          rw [HRW.out] at HOE HAE HAD HAI HKA hpl
          rw [HRW.out]
          have HPR := Lib.hid (show partRows N (kpB N zs) U (zs.take (k + 1)) = partRows N (kpB N zs) U (zs.take k) ++ [row] by rw [partRows_take hkl, HV.out, Int.toNat_natCast, HKA.out])
          obtain ⟨rows, HRS⟩ : ∃ rows, Hid (partRows N (kpB N zs) U (zs.take k) = rows) := ⟨_, Lib.hid rfl⟩
          have hrl : rows.length ≤ 40 := by rw [← HRS.out, partRows_len, List.length_take]; omega
          rw [HRS.out] at HGN2 HPR
          have HOW := Lib.hid (OwnE.weak HOE.out (show W13.heap.size ≤ wt.heap.size by omega)); clear HOE
          have ko0 : wu.cell? ⟨wq.heap.size, 0, none⟩ = some vE := HB2.out.cell 0 (by simp)
          have kof := HB2.out.frozen 0
          go_upto_region 29 with (at_builtin; refine append_gn (s := .tmp 103) Try.underlying32 infoRowE (by decide) wu rfl _ rfl HGN2.out HOW.out HAE.out HAD.out HAI.out _ (by simp [Act.eval, go_sem]) (by simp [Act.eval, go_sem]) (by omega) (by omega) ?_; intro vE2 w7 hgn7 hg7; obtain ⟨A7, c7, hq7, _⟩ := hgn7.lenE; simp only [List.length_append, List.length_cons, List.length_nil, Nat.zero_add] at hq7; subst hq7; have HGN7 := Lib.hid hgn7; have HG7 := Lib.hid hg7; have HB7 := Lib.hid (BoxN.far HB2.out hg7 (fun g e => by have := HLE.out g e; omega)); have ko7 : w7.cell? ⟨wq.heap.size, 0, none⟩ = some vE := HB7.out.cell 0 (by simp); have kof7 := HB7.out.frozen 0; clear hgn7 hg7)
          clear ko0 kof ko7 kof7
          have hg7 := HG7.out
          have hs7 := hg7.size
          refine nameC ?_
          intro W80 HW80
          have hg80 : w7.grownBy W80 (some (wq.heap.size)) := by rw [HW80.out]; exact grown_set _ ⟨wq.heap.size, 0, none⟩ _
          have hs80 := hg80.size
          have HB80 := Lib.hid (show BoxN W80 (wq.heap.size) #[.slice A7 (rows.length + 1) c7, vD, vI] 34 by rw [HW80.out]; exact HB7.out.set 0 _)
          have HGN80 := Lib.hid (GN.keptB HGN7.out hg80 (fun g e => by cases e; omega))
          have HM80 := Lib.hid (IntS.far (IntS.far HM2.out hg7 (by omega) (fun g e => .inr (by have := HLE.out g e; omega))) hg80 (by omega) (fun g e => .inr (by cases e; omega)))
          have HF80 := Lib.hid ((HF2.out.grown hg7 (fun g e => .inr (by have := (HLE.out g e).1; omega))).grown hg80 (fun g e => .inr (by cases e; omega)))
          clear HW80 HB7 HGN7 HM2 HF2 HB2 HGN2 HOW HAE HAD HAI HLE hg7 HG7 hg80
          obtain ⟨i1, hi1', hz1⟩ := Option.map_eq_some_iff.1 Try.info3
          simp only [Prod.mk.injEq] at hz1
          obtain ⟨hz1a, hz1b, hz1c⟩ := hz1
          have HI1 := Lib.hid hz1a; have HI2 := Lib.hid hz1b; have HI3 := Lib.hid hz1c; have HII := Lib.hid hi1'
          clear hz1a hz1b hz1c hi1'
          have hpi1 := pickL_len N.inputs (zs.take k)
          rw [List.length_take] at hpi1
          have HPI := Lib.hid (show pickL N.inputs (zs.take (k + 1)) = pickL N.inputs (zs.take k) ++ [nth N.inputs v] by rw [pickL_take hkl, HV.out, Int.toNat_natCast])
          have HPD := Lib.hid (show pickL N.ids (zs.take (k + 1)) = pickL N.ids (zs.take k) ++ [nth N.ids v] by rw [pickL_take hkl, HV.out, Int.toNat_natCast])
          obtain ⟨ins, HINS⟩ : ∃ l, Hid (pickL N.inputs (zs.take k) = l) := ⟨_, Lib.hid rfl⟩
          obtain ⟨x, HX⟩ : ∃ x, Hid (nth N.inputs v = x) := ⟨_, Lib.hid rfl⟩
          obtain ⟨ids, HIDS⟩ : ∃ l, Hid ((if 0 < N.ids.length then pickL N.ids (zs.take k) else []) = l) := ⟨_, Lib.hid rfl⟩
          rw [HINS.out] at hpi1 HPI HGN80
          rw [HX.out] at HPI
          rw [HIDS.out] at HGN80
          have hidl : ids.length ≤ 40 := by
            rw [← HIDS.out]
            split
            · rw [pickL_len, List.length_take]; omega
            · simp
          have hinl : ins.length ≤ 40 := by omega
          have hvin : (v : Int) < N.inputs.length := by rw [HNN.out]; exact hvi
          have hvinn : v < N.inputs.length := by rw [HNN.out]; exact hvn
          have GI := Lib.hid (netIns N_10.out)
          obtain ⟨bI, oI, eI, _, hbI, _, _⟩ := GI.out.opened (j := v) hvinn
          subst eI
          go_wp2_with fail
          refine wp_region_U (fun w' => w'.cell? ⟨wq.heap.size, 0, none⟩ = some (.slice A7 (rows.length + 1) c7) ∧ w'.cell? ⟨wq.heap.size, 1, none⟩ = some (vD) ∧ w'.cell? ⟨wq.heap.size, 2, none⟩ = some (vI) ∧ w'.cell? ⟨w.heap.size, 0, none⟩ = some (.slice (some ⟨b1, o1, none⟩) N.ends.length c1) ∧ w'.cell? ⟨w.heap.size, 1, none⟩ = some (.slice A1' N.ids.length c1') ∧ w'.cell? ⟨w.heap.size, 2, none⟩ = some (.slice (some ⟨bI, oI, none⟩) N.inputs.length c1'') ∧ w'.cell? ⟨bI, oI + v, none⟩ = some (.int .i64 x)) [10] (by kernel_rfl) ?_
          refine nameU ?_
          intro W81 HW81
          have hg81 : W80.grownBy W81 none := by rw [HW81.out]; exact grown_drew _
          clear HW81
          have hs81 := hg81.size
          have HF81 := Lib.hid (HF80.out.still hg81); clear HF80
          have OUT81 := Lib.hid (BoxN.still HB80.out hg81); clear HB80
          have M81 := Lib.hid (IntS.still HM80.out hg81 (by omega)); clear HM80
          have G81 := Lib.hid (GN.still HGN80.out hg81); clear HGN80
          have hS82 : W81.cell? ⟨wq.heap.size, 0, none⟩ = some (.slice A7 (rows.length + 1) c7) ∧ W81.cell? ⟨wq.heap.size, 1, none⟩ = some (vD) ∧ W81.cell? ⟨wq.heap.size, 2, none⟩ = some (vI) ∧ W81.cell? ⟨w.heap.size, 0, none⟩ = some (.slice (some ⟨b1, o1, none⟩) N.ends.length c1) ∧ W81.cell? ⟨w.heap.size, 1, none⟩ = some (.slice A1' N.ids.length c1') ∧ W81.cell? ⟨w.heap.size, 2, none⟩ = some (.slice (some ⟨bI, oI, none⟩) N.inputs.length c1'') ∧ W81.cell? ⟨bI, oI + v, none⟩ = some (.int .i64 x) := ⟨OUT81.out.cell 0 (by simp), OUT81.out.cell 1 (by simp), OUT81.out.cell 2 (by simp), (HF81.out.boxN bx1_10 (by omega)).cell 0 (by simp), (HF81.out.boxN bx1_10 (by omega)).cell 1 (by simp), (HF81.out.boxN bx1_10 (by omega)).cell 2 (by simp), (by have := (IntS.at_ (IntS.turned GI.out HF81.out (by omega) (by omega)) hvinn).1; rw [HX.out] at this; exact this)⟩
          refine anyU_take (i := 0) (v := .pointer (some ⟨wq.heap.size, 2, none⟩)) rfl (by kernel_rfl) (by kernel_rfl) (by kernel_rfl) (fun _ _ _ h => h) ⟨by rfl, fun w' hS' => (by obtain ⟨s1, s2, s3, s4, s5, s6, s7⟩ := hS'; go_simp)⟩ hS82 ?_
          simp only [List.getElem_toArray, List.getElem_cons_zero, Act.put, List.setIfInBounds_toArray, List.set_cons_zero, List.set_cons_succ]
          refine anyU_take (i := 1) (v := vI) rfl (by kernel_rfl) (by kernel_rfl) (by kernel_rfl) (fun _ _ _ h => h) ⟨by rfl, fun w' hS' => (by obtain ⟨s1, s2, s3, s4, s5, s6, s7⟩ := hS'; go_simp)⟩ hS82 ?_
          simp only [List.getElem_toArray, List.getElem_cons_succ, List.getElem_cons_zero, Act.put, List.setIfInBounds_toArray, List.set_cons_zero, List.set_cons_succ]
          refine anyU_take (i := 2) (v := .pointer (some ⟨w.heap.size, 2, none⟩)) rfl (by kernel_rfl) (by kernel_rfl) (by kernel_rfl) (fun _ _ _ h => h) ⟨by rfl, fun w' hS' => (by obtain ⟨s1, s2, s3, s4, s5, s6, s7⟩ := hS'; go_simp)⟩ hS82 ?_
          simp only [List.getElem_toArray, List.getElem_cons_succ, List.getElem_cons_zero, Act.put, List.setIfInBounds_toArray, List.set_cons_zero, List.set_cons_succ]
          refine anyU_take (i := 3) (v := .slice (some ⟨bI, oI, none⟩) N.inputs.length c1'') rfl (by kernel_rfl) (by kernel_rfl) (by kernel_rfl) (fun _ _ _ h => h) ⟨by rfl, fun w' hS' => (by obtain ⟨s1, s2, s3, s4, s5, s6, s7⟩ := hS'; go_simp)⟩ hS82 ?_
          simp only [List.getElem_toArray, List.getElem_cons_succ, List.getElem_cons_zero, Act.put, List.setIfInBounds_toArray, List.set_cons_zero, List.set_cons_succ]
          refine anyU_take (i := 4) (v := .int .i64 v) rfl (by kernel_rfl) (by kernel_rfl) (by kernel_rfl) (fun _ _ _ h => h) ⟨by rfl, fun w' hS' => (by obtain ⟨s1, s2, s3, s4, s5, s6, s7⟩ := hS'; go_simp)⟩ hS82 ?_
          simp only [List.getElem_toArray, List.getElem_cons_succ, List.getElem_cons_zero, Act.put, List.setIfInBounds_toArray, List.set_cons_zero, List.set_cons_succ]
          refine anyU_take (i := 5) (v := .pointer (some ⟨bI, oI + v, none⟩)) rfl (by kernel_rfl) (by kernel_rfl) (by kernel_rfl) (fun _ _ _ h => h) ⟨by rfl, fun w' hS' => (by obtain ⟨s1, s2, s3, s4, s5, s6, s7⟩ := hS'; simp [go_sem, hvin])⟩ hS82 ?_
          simp only [List.getElem_toArray, List.getElem_cons_succ, List.getElem_cons_zero, Act.put, List.setIfInBounds_toArray, List.set_cons_zero, List.set_cons_succ]
          refine anyU_take (i := 6) (v := .int .i64 x) rfl (by kernel_rfl) (by kernel_rfl) (by kernel_rfl) (fun _ _ _ h => h) ⟨by rfl, fun w' hS' => (by obtain ⟨s1, s2, s3, s4, s5, s6, s7⟩ := hS'; go_simp)⟩ hS82 ?_
          simp only [List.getElem_toArray, List.getElem_cons_succ, List.getElem_cons_zero, Act.put, List.setIfInBounds_toArray, List.set_cons_zero, List.set_cons_succ]
          refine anyU_ready (rs := [7]) (by kernel_rfl) (by simp) ?_
          refine ReadyU.cons (i := 7) rfl (fun K hK => ?_) ReadyU.nil
          simp only [List.getElem_toArray, List.getElem_cons_succ, List.getElem_cons_zero]
          refine ite_is (by rfl) ?_
          simp [go_sem]
          refine hK.out _ _ ⟨fun _ => ⟨(OUT81.out.still (grown_alloc _ _)).cell 0 (by simp), (OUT81.out.still (grown_alloc _ _)).cell 1 (by simp), (OUT81.out.still (grown_alloc _ _)).cell 2 (by simp), ((HF81.out.boxN bx1_10 (by omega)).still (grown_alloc _ _)).cell 0 (by simp), ((HF81.out.boxN bx1_10 (by omega)).still (grown_alloc _ _)).cell 1 (by simp), ((HF81.out.boxN bx1_10 (by omega)).still (grown_alloc _ _)).cell 2 (by simp), (by have := (IntS.at_ (IntS.still (IntS.turned GI.out HF81.out (by omega) (by omega)) (grown_alloc W81 (.cells #[.int .i64 x] 3)) (by omega)) hvinn).1; rw [HX.out] at this; exact this)⟩, ?_⟩
          clear hK K
          try simp only [List.getElem_toArray, List.getElem_cons_succ, List.getElem_cons_zero, Act.put, List.setIfInBounds_toArray, List.set_cons_zero, List.set_cons_succ]
          refine nameU ?_
          intro W83 HW83
          have hg83 : W81.grownBy W83 none := by rw [HW83.out]; exact grown_alloc _ _
          have BV83 := Lib.hid (show BoxN W83 W81.heap.size #[.int .i64 x] 3 by rw [HW83.out]; exact BoxN.new _ _ _)
          have hz83 : W81.heap.size < W83.heap.size := BV83.out.lt
          clear HW83
          have hs83 := hg83.size
          have HF83 := Lib.hid (HF81.out.still hg83); clear HF81
          have OUT83 := Lib.hid (BoxN.still OUT81.out hg83); clear OUT81
          have M83 := Lib.hid (IntS.still M81.out hg83 (by omega)); clear M81
          have G83 := Lib.hid (GN.still G81.out hg83); clear G81
          have hS84 : W83.cell? ⟨wq.heap.size, 0, none⟩ = some (.slice A7 (rows.length + 1) c7) ∧ W83.cell? ⟨wq.heap.size, 1, none⟩ = some (vD) ∧ W83.cell? ⟨wq.heap.size, 2, none⟩ = some (vI) ∧ W83.cell? ⟨w.heap.size, 0, none⟩ = some (.slice (some ⟨b1, o1, none⟩) N.ends.length c1) ∧ W83.cell? ⟨w.heap.size, 1, none⟩ = some (.slice A1' N.ids.length c1') ∧ W83.cell? ⟨w.heap.size, 2, none⟩ = some (.slice (some ⟨bI, oI, none⟩) N.inputs.length c1'') ∧ W83.cell? ⟨bI, oI + v, none⟩ = some (.int .i64 x) := ⟨OUT83.out.cell 0 (by simp), OUT83.out.cell 1 (by simp), OUT83.out.cell 2 (by simp), (HF83.out.boxN bx1_10 (by omega)).cell 0 (by simp), (HF83.out.boxN bx1_10 (by omega)).cell 1 (by simp), (HF83.out.boxN bx1_10 (by omega)).cell 2 (by simp), (by have := (IntS.at_ (IntS.turned GI.out HF83.out (by omega) (by omega)) hvinn).1; rw [HX.out] at this; exact this)⟩
          clear hS82
          have HOI83 := Lib.hid (G83.out.insO)
          have LOX := Lib.hid HOI83.out.lt
          refine anyU_ready (rs := [8]) (by kernel_rfl) (by simp) ?_
          refine ReadyU.cons (i := 8) rfl (fun K hK => ?_) ReadyU.nil
          refine step_append_lies W83 (by rfl) _ _ _ (by rfl) W13.heap.size 3 i1 _ 1 _ Try.underlying23 HII.out HI1.out HI2.out HI3.out rfl (by omega) vI _ (ins.map (Value.int .i64)) (by rfl) HOI83.out ⟨W81.heap.size, 0, none⟩ 1 1 [.int .i64 x] (by rfl) (by rfl) (World.news_of_block BV83.out) (by simp [Value.oneCell']) (by omega) (by rw [List.length_map]; unfold maxLen; omega) (by rw [List.length_map]; omega) (by omega) _ rfl ?_
          intro gp2 cp2 W85 hown hg85 hatp hltp
          simp only [List.length_map] at hown ⊢
          have hs85 := hg85.size
          have HF85 := Lib.hid (HF83.out.grown hg85 (fun g e => by have := LOX.out g e; omega)); clear HF83
          have OUT85 := Lib.hid (BoxN.far OUT83.out hg85 (fun g e => by have := LOX.out g e; omega)); clear OUT83
          have M85 := Lib.hid (IntS.far M83.out hg85 (by omega) (fun g e => by have := LOX.out g e; omega)); clear M83
          have HOO85 := Lib.hid (own_appP hown)
          have G85 := Lib.hid (GN.addI G83.out hg85 HOO85.out (hatp.imp (fun e => e.symm) (fun e => ⟨_, rfl, Nat.le_of_eq e.symm⟩)))
          clear hown LOX hatp hltp HOI83 HOO85 BV83 G83
          have hS86 : W85.cell? ⟨wq.heap.size, 0, none⟩ = some (.slice A7 (rows.length + 1) c7) ∧ W85.cell? ⟨wq.heap.size, 1, none⟩ = some (vD) ∧ W85.cell? ⟨wq.heap.size, 2, none⟩ = some (vI) ∧ W85.cell? ⟨w.heap.size, 0, none⟩ = some (.slice (some ⟨b1, o1, none⟩) N.ends.length c1) ∧ W85.cell? ⟨w.heap.size, 1, none⟩ = some (.slice A1' N.ids.length c1') ∧ W85.cell? ⟨w.heap.size, 2, none⟩ = some (.slice (some ⟨bI, oI, none⟩) N.inputs.length c1'') ∧ W85.cell? ⟨bI, oI + v, none⟩ = some (.int .i64 x) := ⟨OUT85.out.cell 0 (by simp), OUT85.out.cell 1 (by simp), OUT85.out.cell 2 (by simp), (HF85.out.boxN bx1_10 (by omega)).cell 0 (by simp), (HF85.out.boxN bx1_10 (by omega)).cell 1 (by simp), (HF85.out.boxN bx1_10 (by omega)).cell 2 (by simp), (by have := (IntS.at_ (IntS.turned GI.out HF85.out (by omega) (by omega)) hvinn).1; rw [HX.out] at this; exact this)⟩
          refine hK.out _ _ ⟨fun _ => hS86, ?_⟩
          clear hK K hS84
          try simp only [List.getElem_toArray, List.getElem_cons_succ, List.getElem_cons_zero, Act.put, List.setIfInBounds_toArray, List.set_cons_zero, List.set_cons_succ]
          refine anyU_ready (rs := [9]) (by kernel_rfl) (by simp) ?_
          refine ReadyU.cons (i := 9) rfl (fun K hK => ?_) ReadyU.nil
          simp only [List.getElem_toArray, List.getElem_cons_succ, List.getElem_cons_zero]
          refine ite_is (by rfl) ?_
          simp [go_sem]
          refine hK.out _ _ ⟨fun _ => hS86, ?_⟩
          clear hK K
          try simp only [List.getElem_toArray, List.getElem_cons_succ, List.getElem_cons_zero, Act.put, List.setIfInBounds_toArray, List.set_cons_zero, List.set_cons_succ]
          have kd1 : W85.cell? ⟨wq.heap.size, 2, none⟩ = some vI := OUT85.out.cell 2 (by simp)
          have kdf := OUT85.out.frozen 2
          refine anyU_ready (rs := [10]) (by kernel_rfl) (by simp) ?_
          refine ReadyU.cons (i := 10) rfl (fun K hK => ?_) ReadyU.nil
          simp only [List.getElem_toArray, List.getElem_cons_succ, List.getElem_cons_zero]
          refine ite_is (by rfl) ?_
          simp [go_sem, kd1, kdf]
          refine hK.out _ _ ⟨fun h => absurd h (by decide), ?_⟩
          clear hK K
          try simp only [List.getElem_toArray, List.getElem_cons_succ, List.getElem_cons_zero, Act.put, List.setIfInBounds_toArray, List.set_cons_zero, List.set_cons_succ]
          refine nameU ?_
          intro W87 HW87
          have hg87 : W85.grownBy W87 (some wq.heap.size) := by rw [HW87.out]; exact grown_set _ _ _
          have hs87 := hg87.size
          have HF87 := Lib.hid (HF85.out.grown hg87 (fun g e => by cases e; omega)); clear HF85
          have M87 := Lib.hid (IntS.far M85.out hg87 (by omega) (fun g e => by cases e; omega)); clear M85
          have HDN87 := Lib.hid (show BoxN W87 wq.heap.size #[.slice A7 (rows.length + 1) c7, vD, .slice (some ⟨gp2, 0, none⟩) (ins.length + 1) cp2] 34 by rw [HW87.out]; exact OUT85.out.set 2 _)
          have G87 := Lib.hid (GN.keptB G85.out hg87 (fun g e => by cases e; omega))
          clear HW87 kd1 kdf OUT85 G85
          clear hS86
          refine anyU_done (by kernel_rfl) ?_ _
          by_cases hid : 0 < N.ids.length
          case neg =>
            have kbx1_0 : W87.cell? ⟨w.heap.size, 0, none⟩ = some (.slice (some ⟨b1, o1, none⟩) N.ends.length c1) := (HF87.out.boxN bx1_10 (by omega)).cell 0 (by simp)
            have kbx1_1 : W87.cell? ⟨w.heap.size, 1, none⟩ = some (.slice A1' N.ids.length c1') := (HF87.out.boxN bx1_10 (by omega)).cell 1 (by simp)
            have kbx1_2 : W87.cell? ⟨w.heap.size, 2, none⟩ = some (.slice (some ⟨bI, oI, none⟩) N.inputs.length c1'') := (HF87.out.boxN bx1_10 (by omega)).cell 2 (by simp)
            have hidi : ¬ (0 : Int) < N.ids.length := by omega
            go_wp2_with fail
            go_roundw
            case rel =>
              have HRR := G87.out
              refine ⟨k + 1, .slice A7 (rows.length + 1) c7, vD, .slice (some ⟨gp2, 0, none⟩) (ins.length + 1) cp2, by omega, by go_num, M87, HDN87, Lib.hid ?_, by omega, HF87⟩
              rw [if_neg hid]; rw [if_neg hid] at HIDS; rw [← HIDS.out] at HRR
              rw [HPR.out, HPI.out]
              exact HRR
            case measure => simp [intOf]; omega
          have hidi : (0 : Int) < N.ids.length := by omega
          have hidn : N.ids.length = N.ends.length := by have := HNI.out; omega
          have hvid : (v : Int) < N.ids.length := by rw [hidn]; exact hvi
          have hvidn : v < N.ids.length := by rw [hidn]; exact hvn
          have HIDN := Lib.hid hidn; clear hidn
          have GD := Lib.hid (netIds N_10.out)
          obtain ⟨bD, oD, eD, _, hbD, _, _⟩ := GD.out.opened (j := 0) hid
          subst eD
          obtain ⟨xd, HXD⟩ : ∃ x, Hid (nth N.ids v = x) := ⟨_, Lib.hid rfl⟩
          rw [HXD.out] at HPD
          rw [if_pos hid] at HIDS
          rw [HIDS.out] at HPD
          have kbx1_0 : W87.cell? ⟨w.heap.size, 0, none⟩ = some (.slice (some ⟨b1, o1, none⟩) N.ends.length c1) := (HF87.out.boxN bx1_10 (by omega)).cell 0 (by simp)
          have kbx1_1 : W87.cell? ⟨w.heap.size, 1, none⟩ = some (.slice (some ⟨bD, oD, none⟩) N.ids.length c1') := (HF87.out.boxN bx1_10 (by omega)).cell 1 (by simp)
          have kbx1_2 : W87.cell? ⟨w.heap.size, 2, none⟩ = some (.slice (some ⟨bI, oI, none⟩) N.inputs.length c1'') := (HF87.out.boxN bx1_10 (by omega)).cell 2 (by simp)
          go_wp2_with fail
          clear kbx1_0 kbx1_1 kbx1_2
          refine wp_region_U (fun w' => w'.cell? ⟨wq.heap.size, 0, none⟩ = some (.slice A7 (rows.length + 1) c7) ∧ w'.cell? ⟨wq.heap.size, 1, none⟩ = some (vD) ∧ w'.cell? ⟨wq.heap.size, 2, none⟩ = some (.slice (some ⟨gp2, 0, none⟩) (ins.length + 1) cp2) ∧ w'.cell? ⟨w.heap.size, 0, none⟩ = some (.slice (some ⟨b1, o1, none⟩) N.ends.length c1) ∧ w'.cell? ⟨w.heap.size, 1, none⟩ = some (.slice (some ⟨bD, oD, none⟩) N.ids.length c1') ∧ w'.cell? ⟨w.heap.size, 2, none⟩ = some (.slice (some ⟨bI, oI, none⟩) N.inputs.length c1'') ∧ w'.cell? ⟨bD, oD + v, none⟩ = some (.int .i64 xd)) [10] (by kernel_rfl) ?_
          refine nameU ?_
          intro W88 HW88
          have hg88 : W87.grownBy W88 none := by rw [HW88.out]; exact grown_drew _
          clear HW88
          have hs88 := hg88.size
          have HF88 := Lib.hid (HF87.out.still hg88); clear HF87
          have OUT88 := Lib.hid (BoxN.still HDN87.out hg88); clear HDN87
          have M88 := Lib.hid (IntS.still M87.out hg88 (by omega)); clear M87
          have G88 := Lib.hid (GN.still G87.out hg88); clear G87
          have hS89 : W88.cell? ⟨wq.heap.size, 0, none⟩ = some (.slice A7 (rows.length + 1) c7) ∧ W88.cell? ⟨wq.heap.size, 1, none⟩ = some (vD) ∧ W88.cell? ⟨wq.heap.size, 2, none⟩ = some (.slice (some ⟨gp2, 0, none⟩) (ins.length + 1) cp2) ∧ W88.cell? ⟨w.heap.size, 0, none⟩ = some (.slice (some ⟨b1, o1, none⟩) N.ends.length c1) ∧ W88.cell? ⟨w.heap.size, 1, none⟩ = some (.slice (some ⟨bD, oD, none⟩) N.ids.length c1') ∧ W88.cell? ⟨w.heap.size, 2, none⟩ = some (.slice (some ⟨bI, oI, none⟩) N.inputs.length c1'') ∧ W88.cell? ⟨bD, oD + v, none⟩ = some (.int .i64 xd) := ⟨OUT88.out.cell 0 (by simp), OUT88.out.cell 1 (by simp), OUT88.out.cell 2 (by simp), (HF88.out.boxN bx1_10 (by omega)).cell 0 (by simp), (HF88.out.boxN bx1_10 (by omega)).cell 1 (by simp), (HF88.out.boxN bx1_10 (by omega)).cell 2 (by simp), (by have := (IntS.at_ (IntS.turned GD.out HF88.out (by omega) (by omega)) hvidn).1; rw [HXD.out] at this; exact this)⟩
          refine anyU_take (i := 0) (v := .pointer (some ⟨wq.heap.size, 1, none⟩)) rfl (by kernel_rfl) (by kernel_rfl) (by kernel_rfl) (fun _ _ _ h => h) ⟨by rfl, fun w' hS' => (by obtain ⟨s1, s2, s3, s4, s5, s6, s7⟩ := hS'; go_simp)⟩ hS89 ?_
          simp only [List.getElem_toArray, List.getElem_cons_zero, Act.put, List.setIfInBounds_toArray, List.set_cons_zero, List.set_cons_succ]
          refine anyU_take (i := 1) (v := vD) rfl (by kernel_rfl) (by kernel_rfl) (by kernel_rfl) (fun _ _ _ h => h) ⟨by rfl, fun w' hS' => (by obtain ⟨s1, s2, s3, s4, s5, s6, s7⟩ := hS'; go_simp)⟩ hS89 ?_
          simp only [List.getElem_toArray, List.getElem_cons_succ, List.getElem_cons_zero, Act.put, List.setIfInBounds_toArray, List.set_cons_zero, List.set_cons_succ]
          refine anyU_take (i := 2) (v := .pointer (some ⟨w.heap.size, 1, none⟩)) rfl (by kernel_rfl) (by kernel_rfl) (by kernel_rfl) (fun _ _ _ h => h) ⟨by rfl, fun w' hS' => (by obtain ⟨s1, s2, s3, s4, s5, s6, s7⟩ := hS'; go_simp)⟩ hS89 ?_
          simp only [List.getElem_toArray, List.getElem_cons_succ, List.getElem_cons_zero, Act.put, List.setIfInBounds_toArray, List.set_cons_zero, List.set_cons_succ]
          refine anyU_take (i := 3) (v := .slice (some ⟨bD, oD, none⟩) N.ids.length c1') rfl (by kernel_rfl) (by kernel_rfl) (by kernel_rfl) (fun _ _ _ h => h) ⟨by rfl, fun w' hS' => (by obtain ⟨s1, s2, s3, s4, s5, s6, s7⟩ := hS'; go_simp)⟩ hS89 ?_
          simp only [List.getElem_toArray, List.getElem_cons_succ, List.getElem_cons_zero, Act.put, List.setIfInBounds_toArray, List.set_cons_zero, List.set_cons_succ]
          refine anyU_take (i := 4) (v := .int .i64 v) rfl (by kernel_rfl) (by kernel_rfl) (by kernel_rfl) (fun _ _ _ h => h) ⟨by rfl, fun w' hS' => (by obtain ⟨s1, s2, s3, s4, s5, s6, s7⟩ := hS'; go_simp)⟩ hS89 ?_
          simp only [List.getElem_toArray, List.getElem_cons_succ, List.getElem_cons_zero, Act.put, List.setIfInBounds_toArray, List.set_cons_zero, List.set_cons_succ]
          refine anyU_take (i := 5) (v := .pointer (some ⟨bD, oD + v, none⟩)) rfl (by kernel_rfl) (by kernel_rfl) (by kernel_rfl) (fun _ _ _ h => h) ⟨by rfl, fun w' hS' => (by obtain ⟨s1, s2, s3, s4, s5, s6, s7⟩ := hS'; simp [go_sem, hvid])⟩ hS89 ?_
          simp only [List.getElem_toArray, List.getElem_cons_succ, List.getElem_cons_zero, Act.put, List.setIfInBounds_toArray, List.set_cons_zero, List.set_cons_succ]
          refine anyU_take (i := 6) (v := .int .i64 xd) rfl (by kernel_rfl) (by kernel_rfl) (by kernel_rfl) (fun _ _ _ h => h) ⟨by rfl, fun w' hS' => (by obtain ⟨s1, s2, s3, s4, s5, s6, s7⟩ := hS'; go_simp)⟩ hS89 ?_
          simp only [List.getElem_toArray, List.getElem_cons_succ, List.getElem_cons_zero, Act.put, List.setIfInBounds_toArray, List.set_cons_zero, List.set_cons_succ]
          refine anyU_ready (rs := [7]) (by kernel_rfl) (by simp) ?_
          refine ReadyU.cons (i := 7) rfl (fun K hK => ?_) ReadyU.nil
          simp only [List.getElem_toArray, List.getElem_cons_succ, List.getElem_cons_zero]
          refine ite_is (by rfl) ?_
          simp [go_sem]
          refine hK.out _ _ ⟨fun _ => ⟨(OUT88.out.still (grown_alloc _ _)).cell 0 (by simp), (OUT88.out.still (grown_alloc _ _)).cell 1 (by simp), (OUT88.out.still (grown_alloc _ _)).cell 2 (by simp), ((HF88.out.boxN bx1_10 (by omega)).still (grown_alloc _ _)).cell 0 (by simp), ((HF88.out.boxN bx1_10 (by omega)).still (grown_alloc _ _)).cell 1 (by simp), ((HF88.out.boxN bx1_10 (by omega)).still (grown_alloc _ _)).cell 2 (by simp), (by have := (IntS.at_ (IntS.still (IntS.turned GD.out HF88.out (by omega) (by omega)) (grown_alloc W88 (.cells #[.int .i64 xd] 3)) (by omega)) hvidn).1; rw [HXD.out] at this; exact this)⟩, ?_⟩
          clear hK K
          try simp only [List.getElem_toArray, List.getElem_cons_succ, List.getElem_cons_zero, Act.put, List.setIfInBounds_toArray, List.set_cons_zero, List.set_cons_succ]
          refine nameU ?_
          intro W90 HW90
          have hg90 : W88.grownBy W90 none := by rw [HW90.out]; exact grown_alloc _ _
          have BV90 := Lib.hid (show BoxN W90 W88.heap.size #[.int .i64 xd] 3 by rw [HW90.out]; exact BoxN.new _ _ _)
          have hz90 : W88.heap.size < W90.heap.size := BV90.out.lt
          clear HW90
          have hs90 := hg90.size
          have HF90 := Lib.hid (HF88.out.still hg90); clear HF88
          have OUT90 := Lib.hid (BoxN.still OUT88.out hg90); clear OUT88
          have M90 := Lib.hid (IntS.still M88.out hg90 (by omega)); clear M88
          have G90 := Lib.hid (GN.still G88.out hg90); clear G88
          have hS91 : W90.cell? ⟨wq.heap.size, 0, none⟩ = some (.slice A7 (rows.length + 1) c7) ∧ W90.cell? ⟨wq.heap.size, 1, none⟩ = some (vD) ∧ W90.cell? ⟨wq.heap.size, 2, none⟩ = some (.slice (some ⟨gp2, 0, none⟩) (ins.length + 1) cp2) ∧ W90.cell? ⟨w.heap.size, 0, none⟩ = some (.slice (some ⟨b1, o1, none⟩) N.ends.length c1) ∧ W90.cell? ⟨w.heap.size, 1, none⟩ = some (.slice (some ⟨bD, oD, none⟩) N.ids.length c1') ∧ W90.cell? ⟨w.heap.size, 2, none⟩ = some (.slice (some ⟨bI, oI, none⟩) N.inputs.length c1'') ∧ W90.cell? ⟨bD, oD + v, none⟩ = some (.int .i64 xd) := ⟨OUT90.out.cell 0 (by simp), OUT90.out.cell 1 (by simp), OUT90.out.cell 2 (by simp), (HF90.out.boxN bx1_10 (by omega)).cell 0 (by simp), (HF90.out.boxN bx1_10 (by omega)).cell 1 (by simp), (HF90.out.boxN bx1_10 (by omega)).cell 2 (by simp), (by have := (IntS.at_ (IntS.turned GD.out HF90.out (by omega) (by omega)) hvidn).1; rw [HXD.out] at this; exact this)⟩
          clear hS89
          have HOI90 := Lib.hid (G90.out.idsO)
          have LOX := Lib.hid HOI90.out.lt
          refine anyU_ready (rs := [8]) (by kernel_rfl) (by simp) ?_
          refine ReadyU.cons (i := 8) rfl (fun K hK => ?_) ReadyU.nil
          refine step_append_lies W90 (by rfl) _ _ _ (by rfl) W13.heap.size 3 i1 _ 1 _ Try.underlying23 HII.out HI1.out HI2.out HI3.out rfl (by omega) vD _ (ids.map (Value.int .i64)) (by rfl) HOI90.out ⟨W88.heap.size, 0, none⟩ 1 1 [.int .i64 xd] (by rfl) (by rfl) (World.news_of_block BV90.out) (by simp [Value.oneCell']) (by omega) (by rw [List.length_map]; unfold maxLen; omega) (by rw [List.length_map]; omega) (by omega) _ rfl ?_
          intro gp1 cp1 W92 hown hg92 hatp hltp
          simp only [List.length_map] at hown ⊢
          have hs92 := hg92.size
          have HF92 := Lib.hid (HF90.out.grown hg92 (fun g e => by have := LOX.out g e; omega)); clear HF90
          have OUT92 := Lib.hid (BoxN.far OUT90.out hg92 (fun g e => by have := LOX.out g e; omega)); clear OUT90
          have M92 := Lib.hid (IntS.far M90.out hg92 (by omega) (fun g e => by have := LOX.out g e; omega)); clear M90
          have HOO92 := Lib.hid (own_appP hown)
          have G92 := Lib.hid (GN.addD G90.out hg92 HOO92.out (hatp.imp (fun e => e.symm) (fun e => ⟨_, rfl, Nat.le_of_eq e.symm⟩)))
          clear hown LOX hatp hltp HOI90 HOO92 BV90 G90
          have hS93 : W92.cell? ⟨wq.heap.size, 0, none⟩ = some (.slice A7 (rows.length + 1) c7) ∧ W92.cell? ⟨wq.heap.size, 1, none⟩ = some (vD) ∧ W92.cell? ⟨wq.heap.size, 2, none⟩ = some (.slice (some ⟨gp2, 0, none⟩) (ins.length + 1) cp2) ∧ W92.cell? ⟨w.heap.size, 0, none⟩ = some (.slice (some ⟨b1, o1, none⟩) N.ends.length c1) ∧ W92.cell? ⟨w.heap.size, 1, none⟩ = some (.slice (some ⟨bD, oD, none⟩) N.ids.length c1') ∧ W92.cell? ⟨w.heap.size, 2, none⟩ = some (.slice (some ⟨bI, oI, none⟩) N.inputs.length c1'') ∧ W92.cell? ⟨bD, oD + v, none⟩ = some (.int .i64 xd) := ⟨OUT92.out.cell 0 (by simp), OUT92.out.cell 1 (by simp), OUT92.out.cell 2 (by simp), (HF92.out.boxN bx1_10 (by omega)).cell 0 (by simp), (HF92.out.boxN bx1_10 (by omega)).cell 1 (by simp), (HF92.out.boxN bx1_10 (by omega)).cell 2 (by simp), (by have := (IntS.at_ (IntS.turned GD.out HF92.out (by omega) (by omega)) hvidn).1; rw [HXD.out] at this; exact this)⟩
          refine hK.out _ _ ⟨fun _ => hS93, ?_⟩
          clear hK K hS91
          try simp only [List.getElem_toArray, List.getElem_cons_succ, List.getElem_cons_zero, Act.put, List.setIfInBounds_toArray, List.set_cons_zero, List.set_cons_succ]
          refine anyU_ready (rs := [9]) (by kernel_rfl) (by simp) ?_
          refine ReadyU.cons (i := 9) rfl (fun K hK => ?_) ReadyU.nil
          simp only [List.getElem_toArray, List.getElem_cons_succ, List.getElem_cons_zero]
          refine ite_is (by rfl) ?_
          simp [go_sem]
          refine hK.out _ _ ⟨fun _ => hS93, ?_⟩
          clear hK K
          try simp only [List.getElem_toArray, List.getElem_cons_succ, List.getElem_cons_zero, Act.put, List.setIfInBounds_toArray, List.set_cons_zero, List.set_cons_succ]
          have kd1 : W92.cell? ⟨wq.heap.size, 1, none⟩ = some vD := OUT92.out.cell 1 (by simp)
          have kdf := OUT92.out.frozen 1
          refine anyU_ready (rs := [10]) (by kernel_rfl) (by simp) ?_
          refine ReadyU.cons (i := 10) rfl (fun K hK => ?_) ReadyU.nil
          simp only [List.getElem_toArray, List.getElem_cons_succ, List.getElem_cons_zero]
          refine ite_is (by rfl) ?_
          simp [go_sem, kd1, kdf]
          refine hK.out _ _ ⟨fun h => absurd h (by decide), ?_⟩
          clear hK K
          try simp only [List.getElem_toArray, List.getElem_cons_succ, List.getElem_cons_zero, Act.put, List.setIfInBounds_toArray, List.set_cons_zero, List.set_cons_succ]
          refine nameU ?_
          intro W94 HW94
          have hg94 : W92.grownBy W94 (some wq.heap.size) := by rw [HW94.out]; exact grown_set _ _ _
          have hs94 := hg94.size
          have HF94 := Lib.hid (HF92.out.grown hg94 (fun g e => by cases e; omega)); clear HF92
          have M94 := Lib.hid (IntS.far M92.out hg94 (by omega) (fun g e => by cases e; omega)); clear M92
          have HDN94 := Lib.hid (show BoxN W94 wq.heap.size #[.slice A7 (rows.length + 1) c7, .slice (some ⟨gp1, 0, none⟩) (ids.length + 1) cp1, .slice (some ⟨gp2, 0, none⟩) (ins.length + 1) cp2] 34 by rw [HW94.out]; exact OUT92.out.set 1 _)
          have G94 := Lib.hid (GN.keptB G92.out hg94 (fun g e => by cases e; omega))
          clear HW94 kd1 kdf OUT92 G92
          clear hS93
          refine anyU_done (by kernel_rfl) ?_ _
          go_wp2_with fail
          go_roundw
          case rel =>
            have HRR := G94.out
            refine ⟨k + 1, .slice A7 (rows.length + 1) c7, .slice (some ⟨gp1, 0, none⟩) (ids.length + 1) cp1, .slice (some ⟨gp2, 0, none⟩) (ins.length + 1) cp2, by omega, by go_num, M94, HDN94, Lib.hid ?_, by omega, HF94⟩
            rw [if_pos hid, HPD.out]
            rw [HPR.out, HPI.out]
            exact HRR
          case measure => simp [intOf]; omega

end Go.Proofs.Ytcmmklcampmkjaa
