/-
  Plain: a wave through a network: parents, depths, the number of messages, round by round.
-/
import Derived.Test.YtoebgfmnjjiddaaPeelP
import Derived.Test.YtoebgfmnjjiddaaDefP
namespace Go.Proofs.Ytoebgfmnjjiddaa
set_option linter.unusedVariables false

theorem fidxN_or {p : Nat → Bool} {n j : Nat} (hj : j < n) : fidxN (fun k => p k || decide (k = j)) n = if fidxN p n < 0 then (j : Int) else min (fidxN p n) j := by
  rcases fidxN_cases p n with ⟨e, h⟩ | ⟨k, hk, e, h1, h2⟩
  · rw [e, if_pos (by omega)]
    refine fidxN_hit hj (by simp) fun i hi => ?_
    rw [h i (by omega), Bool.false_or]
    exact decide_eq_false (by omega)
  · rw [e, if_neg (by omega)]
    by_cases hjk : j < k
    · rw [show min (k : Int) (j : Int) = (j : Int) by omega]
      refine fidxN_hit hj (by simp) fun i hi => ?_
      rw [h2 i (by omega), Bool.false_or]
      exact decide_eq_false (by omega)
    · rw [show min (k : Int) (j : Int) = (k : Int) by omega]
      refine fidxN_hit hk (by rw [h1]; rfl) fun i hi => ?_
      rw [h2 i hi, Bool.false_or]
      exact decide_eq_false (by omega)
theorem fidxN_congr {p q : Nat → Bool} {n : Nat} (h : ∀ k, k < n → p k = q k) : fidxN p n = fidxN q n := by
  rcases fidxN_cases q n with ⟨e, h1⟩ | ⟨k, hk, e, h1, h2⟩
  · rw [e]; exact fidxN_none fun j hj => by rw [h j hj]; exact h1 j hj
  · rw [e]; exact fidxN_hit hk (by rw [h k hk]; exact h1) fun j hj => by rw [h j (by omega)]; exact h2 j hj

/-- port i of v sends in the round that begins with depth d -/
def sendB (N : NetD) (par dep : List Int) (d : Int) (v i : Nat) : Bool := decide (i < (nthL N.ends v).length) && (decide (nth dep v = d) && !decide ((i : Int) = nth par v))
/-- the least port of w at which something comes from a port in D -/
def pd (N : NetD) (D : Nat → Nat → Bool) (w : Nat) : Int := fidxN (fun j => D (nthE (nthL N.ends w) j).1.toNat (nthE (nthL N.ends w) j).2.toNat) (nthL N.ends w).length
def wDepAt (N : NetD) (D : Nat → Nat → Bool) (d : Int) (dep : List Int) (w : Nat) : Int := if nth dep w < 0 ∧ 0 ≤ pd N D w then d + 1 else nth dep w
def wParAt (N : NetD) (D : Nat → Nat → Bool) (dep par : List Int) (w : Nat) : Int := if nth dep w < 0 ∧ 0 ≤ pd N D w then pd N D w else nth par w
def wDep (N : NetD) (par dep : List Int) (d : Int) : List Int := (List.range N.ends.length).map (wDepAt N (sendB N par dep d) d dep)
def wPar (N : NetD) (par dep : List Int) (d : Int) : List Int := (List.range N.ends.length).map (wParAt N (sendB N par dep d) dep par)
theorem nth_map_range {n : Nat} {f : Nat → Int} {j : Nat} (h : j < n) : nth ((List.range n).map f) j = f j := by simp [nth, h]
theorem pd_low (N : NetD) (D : Nat → Nat → Bool) (w : Nat) : -1 ≤ pd N D w ∧ pd N D w ≤ (nthL N.ends w).length := by
  unfold pd
  rcases fidxN_cases (fun j => D (nthE (nthL N.ends w) j).1.toNat (nthE (nthL N.ends w) j).2.toNat) (nthL N.ends w).length with ⟨e, _⟩ | ⟨k, hk, e, _, _⟩ <;> rw [e] <;> omega
theorem pd_none (N : NetD) (w : Nat) : pd N (fun _ _ => false) w = -1 := fidxN_none fun j hj => rfl
def addB (D : Nat → Nat → Bool) (v i : Nat) : Nat → Nat → Bool := fun v' i' => D v' i' || (decide (v' = v) && decide (i' = i))
theorem pd_add_other {N : NetD} (hg : N.good = true) {D : Nat → Nat → Bool} {v i w j w' : Nat} (hv : v < N.ends.length) (hi : i < (nthL N.ends v).length) (he : nthE (nthL N.ends v) i = ((w : Int), (j : Int))) (hw' : w' < N.ends.length) (hne : w' ≠ w) :
    pd N (addB D v i) w' = pd N D w' := by
  refine fidxN_congr fun k hk => ?_
  obtain ⟨t, r, e, ht, hr, e2⟩ := good_end hg hw' hk
  rw [e]
  unfold addB
  simp only [Int.toNat_natCast]
  by_cases h : t = v ∧ r = i
  · obtain ⟨rfl, rfl⟩ := h
    rw [he] at e2
    injection e2 with e3 _
    omega
  · have : (decide (t = v) && decide (r = i)) = false := by
      rw [Bool.eq_false_iff]; intro h2; simp at h2; exact h h2
    rw [this, Bool.or_false]
theorem pd_add_at {N : NetD} (hg : N.good = true) {D : Nat → Nat → Bool} {v i w j : Nat} (hv : v < N.ends.length) (hi : i < (nthL N.ends v).length) (he : nthE (nthL N.ends v) i = ((w : Int), (j : Int))) :
    pd N (addB D v i) w = if pd N D w < 0 then (j : Int) else min (pd N D w) j := by
  obtain ⟨t, r, e, ht, hr, e2⟩ := good_end hg hv hi
  rw [he] at e
  injection e with e3 e4
  obtain rfl : w = t := by omega
  obtain rfl : j = r := by omega
  have := fidxN_or (p := fun k => D (nthE (nthL N.ends w) k).1.toNat (nthE (nthL N.ends w) k).2.toNat) hr
  unfold pd
  rw [← this]
  refine fidxN_congr fun k hk => ?_
  unfold addB
  congr 1
  by_cases hkj : k = j
  · subst hkj; rw [e2]; simp
  · obtain ⟨t, r, e, ht', hr', e5⟩ := good_end hg ht hk
    rw [e]
    simp only [Int.toNat_natCast]
    rw [decide_eq_false hkj, Bool.eq_false_iff]
    intro h
    simp at h
    obtain ⟨rfl, rfl⟩ := h
    rw [he] at e5
    injection e5 with _ e6
    omega

/-- in a round: the ports in D have sent -/
structure WMid (N : NetD) (par dep : List Int) (d : Int) (D : Nat → Nat → Bool) (par' dep' : List Int) : Prop where
  plen : par'.length = N.ends.length
  dlen : dep'.length = N.ends.length
  depE : ∀ w, w < N.ends.length → nth dep' w = wDepAt N D d dep w
  parE : ∀ w, w < N.ends.length → nth par' w = wParAt N D dep par w
theorem WMid.start {N : NetD} {par dep : List Int} {d : Int} (hp : par.length = N.ends.length) (hd : dep.length = N.ends.length) : WMid N par dep d (fun _ _ => false) par dep :=
  ⟨hp, hd, fun w hw => by unfold wDepAt; rw [pd_none, if_neg (by omega)], fun w hw => by unfold wParAt; rw [pd_none, if_neg (by omega)]⟩
theorem WMid.end {N : NetD} {par dep : List Int} {d : Int} {par' dep' : List Int} (h : WMid N par dep d (sendB N par dep d) par' dep') : par' = wPar N par dep d ∧ dep' = wDep N par dep d :=
  ⟨ext_nth (by rw [h.plen]; simp [wPar]) fun i hi => by rw [h.plen] at hi; rw [h.parE i hi]; unfold wPar; rw [nth_map_range hi],
   ext_nth (by rw [h.dlen]; simp [wDep]) fun i hi => by rw [h.dlen] at hi; rw [h.depE i hi]; unfold wDep; rw [nth_map_range hi]⟩
section
variable {N : NetD} {par dep : List Int} {d : Int} {D : Nat → Nat → Bool} {par' dep' : List Int} {v i w j : Nat}
theorem WMid.old (h : WMid N par dep d D par' dep') {x : Nat} (hx : x < N.ends.length) (h0 : 0 ≤ nth dep x) : nth dep' x = nth dep x ∧ nth par' x = nth par x := by
  refine ⟨?_, ?_⟩
  · rw [h.depE x hx]; unfold wDepAt; rw [if_neg (by omega)]
  · rw [h.parE x hx]; unfold wParAt; rw [if_neg (by omega)]
theorem WMid.new (hg : N.good = true) (h : WMid N par dep d D par' dep') (hv : v < N.ends.length) (hi : i < (nthL N.ends v).length) (he : nthE (nthL N.ends v) i = ((w : Int), (j : Int))) (hw : w < N.ends.length) (hd0 : 0 ≤ d) (h1 : nth dep' w < 0) :
    WMid N par dep d (addB D v i) (par'.set w (j : Int)) (dep'.set w (d + 1)) := by
  have e1 := h.depE w hw
  have e3 : nth dep w < 0 ∧ pd N D w < 0 := by
    unfold wDepAt at e1
    split at e1 <;> omega
  refine ⟨by rw [List.length_set]; exact h.plen, by rw [List.length_set]; exact h.dlen, fun x hx => ?_, fun x hx => ?_⟩
  · rw [nth_set _ _ _ _ (by rw [h.dlen]; exact hw)]
    by_cases e : x = w
    · subst e
      unfold wDepAt
      rw [pd_add_at hg hv hi he, if_pos e3.2, if_pos rfl, if_pos ⟨e3.1, by omega⟩]
    · rw [if_neg e, h.depE x hx]; unfold wDepAt; rw [pd_add_other hg hv hi he hx e]
  · rw [nth_set _ _ _ _ (by rw [h.plen]; exact hw)]
    by_cases e : x = w
    · subst e
      unfold wParAt
      rw [pd_add_at hg hv hi he, if_pos e3.2, if_pos rfl, if_pos ⟨e3.1, by omega⟩]
    · rw [if_neg e, h.parE x hx]; unfold wParAt; rw [pd_add_other hg hv hi he hx e]
theorem WMid.less (hg : N.good = true) (h : WMid N par dep d D par' dep') (hv : v < N.ends.length) (hi : i < (nthL N.ends v).length) (he : nthE (nthL N.ends v) i = ((w : Int), (j : Int))) (hw : w < N.ends.length) (hd : ∀ x, x < N.ends.length → nth dep x ≤ d) (h1 : nth dep' w = d + 1) :
    WMid N par dep d (addB D v i) (par'.set w (min (nth par' w) (j : Int))) dep' := by
  have e1 := h.depE w hw
  have e2 := h.parE w hw
  have hdw := hd w hw
  have e3 : nth dep w < 0 ∧ 0 ≤ pd N D w := by
    unfold wDepAt at e1
    split at e1 <;> omega
  have e4 : nth par' w = pd N D w := by rw [e2]; unfold wParAt; rw [if_pos e3]
  refine ⟨by rw [List.length_set]; exact h.plen, h.dlen, fun x hx => ?_, fun x hx => ?_⟩
  · by_cases e : x = w
    · subst e
      rw [h1]; unfold wDepAt
      rw [pd_add_at hg hv hi he, if_neg (c := pd N D x < 0) (by omega), if_pos ⟨e3.1, by omega⟩]
    · rw [h.depE x hx]; unfold wDepAt; rw [pd_add_other hg hv hi he hx e]
  · rw [nth_set _ _ _ _ (by rw [h.plen]; exact hw)]
    by_cases e : x = w
    · subst e
      unfold wParAt
      rw [pd_add_at hg hv hi he, if_neg (c := pd N D x < 0) (by omega), if_pos rfl, if_pos ⟨e3.1, by omega⟩, e4]
    · rw [if_neg e, h.parE x hx]; unfold wParAt; rw [pd_add_other hg hv hi he hx e]
theorem WMid.same (hg : N.good = true) (h : WMid N par dep d D par' dep') (hv : v < N.ends.length) (hi : i < (nthL N.ends v).length) (he : nthE (nthL N.ends v) i = ((w : Int), (j : Int))) (hw : w < N.ends.length) (h1 : ¬ nth dep' w < 0) (h2 : nth dep' w ≠ d + 1) :
    WMid N par dep d (addB D v i) par' dep' := by
  have e1 := h.depE w hw
  have e3 : 0 ≤ nth dep w := by
    unfold wDepAt at e1
    split at e1 <;> omega
  refine ⟨h.plen, h.dlen, fun x hx => ?_, fun x hx => ?_⟩
  · rw [h.depE x hx]; unfold wDepAt
    by_cases e : x = w
    · subst e; rw [if_neg (by omega), if_neg (by omega)]
    · rw [pd_add_other hg hv hi he hx e]
  · rw [h.parE x hx]; unfold wParAt
    by_cases e : x = w
    · subst e; rw [if_neg (by omega), if_neg (by omega)]
    · rw [pd_add_other hg hv hi he hx e]
end

/-- the ports that have sent when the front's first a nodes and the first i ports of the next one have been seen -/
def frD (N : NetD) (par dep : List Int) (d : Int) (fr : List Int) (a i : Nat) : Nat → Nat → Bool :=
  fun v' i' => sendB N par dep d v' i' && (decide ((v' : Int) ∈ fr.take a) || (decide ((v' : Int) = nth fr a) && decide (i' < i)))
section
variable {N : NetD} {par dep : List Int} {d : Int} {fr : List Int} {a i v : Nat}
theorem frD_zero : frD N par dep d fr 0 0 = fun _ _ => false := by
  funext v' i'; unfold frD; simp
theorem frD_no (hf : nth fr a = v) (hs : sendB N par dep d v i = false) : frD N par dep d fr a (i + 1) = frD N par dep d fr a i := by
  funext v' i'
  unfold frD
  rw [Bool.eq_iff_iff]
  simp only [Bool.and_eq_true, Bool.or_eq_true, decide_eq_true_eq]
  constructor
  · rintro ⟨h1, h2 | ⟨h2, h3⟩⟩
    · exact ⟨h1, .inl h2⟩
    · refine ⟨h1, .inr ⟨h2, ?_⟩⟩
      by_cases e : i' = i
      · exfalso
        subst e
        have : v' = v := by omega
        subst this
        rw [hs] at h1; cases h1
      · omega
  · rintro ⟨h1, h2 | ⟨h2, h3⟩⟩
    · exact ⟨h1, .inl h2⟩
    · exact ⟨h1, .inr ⟨h2, by omega⟩⟩
theorem frD_yes (hf : nth fr a = v) (hs : sendB N par dep d v i = true) : frD N par dep d fr a (i + 1) = addB (frD N par dep d fr a i) v i := by
  funext v' i'
  unfold addB frD
  rw [Bool.eq_iff_iff]
  simp only [Bool.and_eq_true, Bool.or_eq_true, decide_eq_true_eq]
  constructor
  · rintro ⟨h1, h2 | ⟨h2, h3⟩⟩
    · exact .inl ⟨h1, .inl h2⟩
    · by_cases e : i' = i
      · exact .inr ⟨by omega, e⟩
      · exact .inl ⟨h1, .inr ⟨h2, by omega⟩⟩
  · rintro (⟨h1, h2 | ⟨h2, h3⟩⟩ | ⟨rfl, rfl⟩)
    · exact ⟨h1, .inl h2⟩
    · exact ⟨h1, .inr ⟨h2, by omega⟩⟩
    · exact ⟨hs, .inr ⟨hf.symm, by omega⟩⟩
theorem frD_next (ha : a < fr.length) (hf : nth fr a = v) : frD N par dep d fr a (nthL N.ends v).length = frD N par dep d fr (a + 1) 0 := by
  funext v' i'
  unfold frD
  rw [List.take_succ_eq_append_getElem ha, ← nth_eq ha, hf, Bool.eq_iff_iff]
  simp only [Bool.and_eq_true, Bool.or_eq_true, decide_eq_true_eq, List.mem_append, List.mem_singleton]
  constructor
  · rintro ⟨h1, h2 | ⟨h2, h3⟩⟩
    · exact ⟨h1, .inl (.inl h2)⟩
    · exact ⟨h1, .inl (.inr h2)⟩
  · rintro ⟨h1, (h2 | h2) | ⟨h2, h3⟩⟩
    · exact ⟨h1, .inl h2⟩
    · refine ⟨h1, .inr ⟨h2, ?_⟩⟩
      have : v' = v := by omega
      subst this
      unfold sendB at h1
      simp only [Bool.and_eq_true, decide_eq_true_eq] at h1
      exact h1.1
    · omega
end
/-- the nodes with depth d, each once -/
structure Front (N : NetD) (dep : List Int) (d : Int) (fr : List Int) : Prop where
  nodup : fr.Nodup
  mem : ∀ x, x ∈ fr ↔ ∃ v : Nat, v < N.ends.length ∧ x = v ∧ nth dep v = d
theorem frD_end {N : NetD} {par dep : List Int} {d : Int} {fr : List Int} (h : Front N dep d fr) (hd : ∀ v, ¬ v < N.ends.length → (nthL N.ends v).length = 0) : frD N par dep d fr fr.length 0 = sendB N par dep d := by
  funext v' i'
  unfold frD
  rw [List.take_length, Bool.eq_iff_iff]
  simp only [Bool.and_eq_true, Bool.or_eq_true, decide_eq_true_eq]
  constructor
  · exact fun h => h.1
  · intro h1
    refine ⟨h1, .inl ?_⟩
    unfold sendB at h1
    simp only [Bool.and_eq_true, decide_eq_true_eq] at h1
    refine (h.mem _).2 ⟨v', ?_, rfl, h1.2.1⟩
    exact Classical.byContradiction fun hv => by have := hd v' hv; omega
theorem row_out {N : NetD} (v : Nat) (h : ¬ v < N.ends.length) : (nthL N.ends v).length = 0 := by
  simp [nthL, List.getD, List.getElem?_eq_none (Nat.le_of_not_lt h)]
/-- how many of the first m ports of v send -/
def cntSend (N : NetD) (par dep : List Int) (d : Int) (v m : Nat) : Nat := ((List.range m).filter (sendB N par dep d v)).length
theorem cntSend_succ (N : NetD) (par dep : List Int) (d : Int) (v m : Nat) : cntSend N par dep d v (m + 1) = cntSend N par dep d v m + if sendB N par dep d v m = true then 1 else 0 := by
  unfold cntSend
  rw [List.range_succ, List.filter_append, List.length_append]
  by_cases h : sendB N par dep d v m = true
  · rw [if_pos h]; simp [h]
  · rw [if_neg h]; simp [h]
theorem cntSend_le (N : NetD) (par dep : List Int) (d : Int) (v m : Nat) : cntSend N par dep d v m ≤ m := by
  unfold cntSend; exact Nat.le_trans (List.length_filter_le _ _) (by simp)
theorem cntSend_off {N : NetD} {par dep : List Int} {d : Int} {v m : Nat} (h : nth dep v ≠ d) : cntSend N par dep d v m = 0 := by
  unfold cntSend
  rw [List.length_eq_zero_iff, List.filter_eq_nil_iff]
  intro i hi hs
  unfold sendB at hs
  simp only [Bool.and_eq_true, decide_eq_true_eq] at hs
  exact h hs.2.1
def sentN (N : NetD) (par dep : List Int) (d : Int) : Nat := sumN (fun v => cntSend N par dep d v (nthL N.ends v).length) N.ends.length
def frCnt (N : NetD) (par dep : List Int) (d : Int) (fr : List Int) (a : Nat) : Nat := sumN (fun k => cntSend N par dep d (nth fr k).toNat (nthL N.ends (nth fr k).toNat).length) a
theorem sumN_shift (f : Nat → Nat) : ∀ n, sumN f (n + 1) = f 0 + sumN (fun k => f (k + 1)) n
  | 0 => by simp [sumN]
  | n + 1 => by rw [sumN, sumN_shift f n, sumN]; omega
theorem sum_nodup (g : Nat → Nat) (n : Nat) : ∀ fr : List Int, fr.Nodup → (∀ x ∈ fr, 0 ≤ x ∧ x < n) → sumN (fun k => g (nth fr k).toNat) fr.length = sumN (fun v => if (v : Int) ∈ fr then g v else 0) n
  | [], _, _ => by rw [sumN_congr (n := n) (g := fun _ => 0) (fun v _ => by rw [if_neg (by simp)]), sumN_zero]; rfl
  | x :: l, hn, h => by
    have hn' := List.nodup_cons.1 hn
    have hx := h x (by simp)
    rw [List.length_cons, sumN_shift]
    have ih := sum_nodup g n l hn'.2 (fun y hy => h y (List.mem_cons_of_mem _ hy))
    show g (nth (x :: l) 0).toNat + sumN (fun k => g (nth (x :: l) (k + 1)).toNat) l.length = _
    simp only [nth_cons_zero, nth_cons_succ]
    rw [ih, Nat.add_comm, ← sumN_at (a := x.toNat) (n := n) (by omega)]
    refine sumN_congr fun v hv => ?_
    by_cases e : v = x.toNat
    · subst e
      have h1 : ((x.toNat : Nat) : Int) = x := by omega
      rw [h1, if_neg hn'.1, if_pos rfl, if_pos (by simp)]; omega
    · rw [if_neg e]
      have h1 : (v : Int) ≠ x := by omega
      by_cases e2 : (v : Int) ∈ l
      · rw [if_pos e2, if_pos (List.mem_cons_of_mem _ e2)]; rfl
      · rw [if_neg e2, if_neg (by simp [h1, e2])]
theorem frCnt_end {N : NetD} {par dep : List Int} {d : Int} {fr : List Int} (h : Front N dep d fr) : frCnt N par dep d fr fr.length = sentN N par dep d := by
  unfold frCnt sentN
  rw [sum_nodup (fun v => cntSend N par dep d v (nthL N.ends v).length) N.ends.length fr h.nodup (fun x hx => by obtain ⟨v, hv, rfl, _⟩ := (h.mem x).1 hx; omega)]
  refine sumN_congr fun v hv => ?_
  by_cases e : (v : Int) ∈ fr
  · rw [if_pos e]
  · rw [if_neg e]
    refine (cntSend_off fun e2 => e ((h.mem _).2 ⟨v, hv, rfl, e2⟩)).symm
theorem sentN_le {N : NetD} (hg : N.good = true) (par dep : List Int) (d : Int) : sentN N par dep d ≤ 240 := by
  obtain ⟨n1, n40⟩ := good_n hg
  have : sentN N par dep d ≤ sumN (fun _ => 6) N.ends.length := sumN_le fun v hv => Nat.le_trans (cntSend_le _ _ _ _ _ _) (good_deg hg hv)
  rw [sumN_const] at this
  omega
theorem front_len {N : NetD} {dep : List Int} {d : Int} {fr : List Int} (h : Front N dep d fr) : fr.length ≤ N.ends.length := by
  have := nodup_sub_len fr ((List.range N.ends.length).map fun (k : Nat) => (k : Int)) h.nodup (fun x hx => by
    obtain ⟨v, hv, rfl, _⟩ := (h.mem x).1 hx
    exact List.mem_map.2 ⟨v, List.mem_range.2 hv, rfl⟩)
  simpa using this
theorem frCnt_le {N : NetD} (hg : N.good = true) {par dep : List Int} {d : Int} {fr : List Int} (h : Front N dep d fr) {a : Nat} (ha : a ≤ fr.length) : frCnt N par dep d fr a ≤ 6 * a := by
  have : frCnt N par dep d fr a ≤ sumN (fun _ => 6) a := sumN_le fun k hk => by
    obtain ⟨v, hv, e, _⟩ := (h.mem _).1 (nth_mem (zs := fr) (i := k) (by omega))
    rw [e, Int.toNat_natCast]
    exact Nat.le_trans (cntSend_le _ _ _ _ _ _) (good_deg hg hv)
  rw [sumN_const] at this
  omega
/-- the nodes that the round has found so far -/
structure WNext (N : NetD) (dep dep' : List Int) (d : Int) (nx : List Int) : Prop where
  nodup : nx.Nodup
  mem : ∀ x, x ∈ nx ↔ ∃ v : Nat, v < N.ends.length ∧ x = v ∧ nth dep v < 0 ∧ nth dep' v = d + 1
theorem WNext.start {N : NetD} {dep : List Int} {d : Int} (hd0 : 0 ≤ d) : WNext N dep dep d [] := ⟨List.nodup_nil, fun x => ⟨(fun h => by cases h), fun ⟨v, _, _, h1, h2⟩ => by omega⟩⟩
theorem WNext.new {N : NetD} {dep dep' : List Int} {d : Int} {nx : List Int} (h : WNext N dep dep' d nx) (hl : dep'.length = N.ends.length) (hd0 : 0 ≤ d) {w : Nat} (hw : w < N.ends.length) (h1 : nth dep' w < 0) (h2 : nth dep w < 0) : WNext N dep (dep'.set w (d + 1)) d (nx ++ [(w : Int)]) := by
  refine ⟨?_, fun x => ?_⟩
  · rw [List.nodup_append]
    refine ⟨h.nodup, by simp, fun a ha b hb => ?_⟩
    simp only [List.mem_singleton] at hb
    subst hb
    rintro rfl
    obtain ⟨v, hv, e, _, e2⟩ := (h.mem _).1 ha
    have : v = w := by omega
    subst this
    omega
  · rw [List.mem_append, List.mem_singleton, h.mem x]
    constructor
    · rintro (⟨v, hv, rfl, e1, e2⟩ | rfl)
      · refine ⟨v, hv, rfl, e1, ?_⟩
        rw [nth_set _ _ _ _ (by omega)]
        split
        · rfl
        · exact e2
      · exact ⟨w, hw, rfl, h2, by rw [nth_set _ _ _ _ (by omega), if_pos rfl]⟩
    · rintro ⟨v, hv, rfl, e1, e2⟩
      by_cases e : v = w
      · right; rw [e]
      · left
        rw [nth_set _ _ _ _ (by omega), if_neg e] at e2
        exact ⟨v, hv, rfl, e1, e2⟩
theorem WNext.len {N : NetD} {dep dep' : List Int} {d : Int} {nx : List Int} (h : WNext N dep dep' d nx) : nx.length ≤ N.ends.length := by
  have := nodup_sub_len nx ((List.range N.ends.length).map fun (k : Nat) => (k : Int)) h.nodup (fun x hx => by
    obtain ⟨v, hv, rfl, _⟩ := (h.mem x).1 hx
    exact List.mem_map.2 ⟨v, List.mem_range.2 hv, rfl⟩)
  simpa using this
theorem WNext.front {N : NetD} {par dep par' dep' : List Int} {d : Int} {nx : List Int} (h : WNext N dep dep' d nx) (hm : WMid N par dep d (sendB N par dep d) par' dep') (hd : ∀ x, x < N.ends.length → nth dep x ≤ d) : Front N dep' (d + 1) nx :=
  ⟨h.nodup, fun x => by
    rw [h.mem]
    constructor
    · rintro ⟨v, hv, e, _, e2⟩; exact ⟨v, hv, e, e2⟩
    · rintro ⟨v, hv, e, e2⟩
      refine ⟨v, hv, e, ?_, e2⟩
      have := hd v hv
      exact Classical.byContradiction fun h3 => by
        have := (hm.old hv (by omega)).1
        omega⟩

structure WSt where
  par : List Int
  dep : List Int
  msg : Nat
def wstep (N : NetD) (q : Nat) (s : WSt) : WSt := ⟨wPar N s.par s.dep q, wDep N s.par s.dep q, s.msg + sentN N s.par s.dep q⟩
def anyAt (N : NetD) (dep : List Int) (q : Nat) : Bool := (List.range N.ends.length).any fun v => decide (nth dep v = (q : Int))
def wgo (N : NetD) : Nat → Nat → WSt → WSt
  | 0, _, s => s
  | f + 1, q, s => if anyAt N s.dep q = true then wgo N f (q + 1) (wstep N q s) else s
def wave0 (N : NetD) (root : Nat) : WSt := ⟨List.replicate N.ends.length (-1), (List.replicate N.ends.length (-1)).set root 0, 0⟩
def wave (N : NetD) (root : Nat) : WSt := wgo N (N.ends.length + 1) 0 (wave0 N root)
structure WTop (N : NetD) (root q : Nat) (s : WSt) : Prop where
  plen : s.par.length = N.ends.length
  dlen : s.dep.length = N.ends.length
  dlow : ∀ j, j < N.ends.length → -1 ≤ nth s.dep j ∧ nth s.dep j ≤ q
  plow : ∀ j, j < N.ends.length → -1 ≤ nth s.par j ∧ nth s.par j ≤ 6
  left : anyAt N s.dep q = true → q + 1 + leftN s.dep ≤ N.ends.length
  qle : q ≤ N.ends.length
  msg : s.msg ≤ 240 * q
  eq : wave N root = wgo N (N.ends.length + 1 - q) q s
theorem WTop.zero {N : NetD} {root : Nat} (hr : root < N.ends.length) : WTop N root 0 (wave0 N root) := by
  have hl : (List.replicate N.ends.length (-1 : Int)).length = N.ends.length := by simp
  refine ⟨by simp [wave0], by simp [wave0], fun j hj => ?_, fun j hj => ?_, fun _ => ?_, Nat.zero_le _, Nat.le_refl _, rfl⟩
  · simp only [wave0]
    rw [nth_set _ _ _ _ (by omega)]
    split
    · omega
    · rw [nth_replicate _ _ hj]; omega
  · simp only [wave0]
    rw [nth_replicate _ _ hj]; omega
  · simp only [wave0, leftN]
    have h1 : (List.filter (fun x => decide (x < 0)) ((List.replicate N.ends.length (-1 : Int)).set root 0)).length + 1 ≤ ((List.replicate N.ends.length (-1 : Int)).set root 0).length := by
      rw [← List.countP_eq_length_filter, List.countP_set (by omega)]
      simp [List.countP_replicate]
      omega
    simp only [List.length_set, List.length_replicate] at h1
    omega
theorem anyAt_no {N : NetD} {dep : List Int} {q : Nat} (h : ∀ j, j < N.ends.length → nth dep j < q) : anyAt N dep q = false := by
  rw [Bool.eq_false_iff]
  intro ha
  obtain ⟨v, hv, e⟩ := List.any_eq_true.1 ha
  have := h v (List.mem_range.1 hv)
  have := of_decide_eq_true e
  omega
theorem WTop.step {N : NetD} (hg : N.good = true) {root q : Nat} {s : WSt} (h : WTop N root q s) (ha : anyAt N s.dep q = true) : WTop N root (q + 1) (wstep N q s) := by
  have hleft := h.left ha
  have hD : ∀ j, j < N.ends.length → nth (wstep N q s).dep j = wDepAt N (sendB N s.par s.dep q) q s.dep j := fun j hj => nth_map_range hj
  have hP : ∀ j, j < N.ends.length → nth (wstep N q s).par j = wParAt N (sendB N s.par s.dep q) s.dep s.par j := fun j hj => nth_map_range hj
  refine ⟨by simp [wstep, wPar], by simp [wstep, wDep], fun j hj => ?_, fun j hj => ?_, fun ha2 => ?_, by omega, ?_, ?_⟩
  · rw [hD j hj]; unfold wDepAt
    have := h.dlow j hj
    split <;> omega
  · rw [hP j hj]; unfold wParAt
    have := h.plow j hj
    have := pd_low N (sendB N s.par s.dep q) j
    have := good_deg hg hj
    split <;> omega
  · obtain ⟨k, hk, e⟩ := List.any_eq_true.1 ha2
    have hk' := List.mem_range.1 hk
    have e' := of_decide_eq_true e
    rw [hD k hk'] at e'
    have hlt : leftN (wstep N q s).dep < leftN s.dep := by
      have := filter_map_lt (n := N.ends.length) (f := wDepAt N (sendB N s.par s.dep q) q s.dep) (g := fun v => nth s.dep v) (fun j hj hf => ?_) ⟨k, hk', ?_, ?_⟩
      · rwa [show (List.range N.ends.length).map (fun v => nth s.dep v) = s.dep by rw [← h.dlen]; exact map_nth s.dep] at this
      · unfold wDepAt at hf
        split at hf
        · omega
        · exact hf
      · have := h.dlow k hk'
        unfold wDepAt at e'
        split at e'
        · rename_i hc; exact hc.1
        · omega
      · omega
    omega
  · have := sentN_le hg s.par s.dep q
    have := h.msg
    simp only [wstep]
    omega
  · rw [h.eq, show N.ends.length + 1 - q = (N.ends.length + 1 - (q + 1)) + 1 by omega, wgo, if_pos ha]
theorem WTop.stop {N : NetD} {root q : Nat} {s : WSt} (h : WTop N root q s) (ha : anyAt N s.dep q = false) : wave N root = s := by
  have := h.qle
  rw [h.eq, show N.ends.length + 1 - q = (N.ends.length - q) + 1 by omega, wgo, if_neg (by rw [ha]; simp)]
theorem WTop.front_stop {N : NetD} {root q : Nat} {s : WSt} (h : WTop N root q s) (hf : Front N s.dep q []) : wave N root = s := h.stop (by
  rw [Bool.eq_false_iff]
  intro ha
  obtain ⟨v, hv, e⟩ := List.any_eq_true.1 ha
  have := (hf.mem v).2 ⟨v, List.mem_range.1 hv, rfl, of_decide_eq_true e⟩
  cases this)
theorem WTop.front_any {N : NetD} {q : Nat} {dep fr : List Int} (hf : Front N dep q fr) (h : 0 < fr.length) : anyAt N dep q = true := by
  obtain ⟨v, hv, e, e2⟩ := (hf.mem _).1 (nth_mem (zs := fr) h)
  exact List.any_eq_true.2 ⟨v, List.mem_range.2 hv, decide_eq_true e2⟩
/-- where nothing is sent nothing changes -/
theorem sumN_eq_zero {f : Nat → Nat} : ∀ {n : Nat}, sumN f n = 0 → ∀ k, k < n → f k = 0
  | n + 1, h, k, hk => by
    rw [sumN] at h
    by_cases e : k = n
    · subst e; omega
    · exact sumN_eq_zero (n := n) (by omega) k (by omega)
theorem send_none {N : NetD} {par dep : List Int} {d : Int} (h : sentN N par dep d = 0) {v i : Nat} (hv : v < N.ends.length) : sendB N par dep d v i = false := by
  have h1 := sumN_eq_zero h v hv
  rw [Bool.eq_false_iff]
  intro hs
  have h2 : i < (nthL N.ends v).length := by unfold sendB at hs; simp only [Bool.and_eq_true, decide_eq_true_eq] at hs; exact hs.1
  unfold cntSend at h1
  rw [List.length_eq_zero_iff, List.filter_eq_nil_iff] at h1
  exact h1 i (List.mem_range.2 h2) hs
theorem wstep_none {N : NetD} (hg : N.good = true) {s : WSt} {q : Nat} (hp : s.par.length = N.ends.length) (hd : s.dep.length = N.ends.length) (h : sentN N s.par s.dep q = 0) : wstep N q s = s := by
  have hpd : ∀ w, w < N.ends.length → pd N (sendB N s.par s.dep q) w = -1 := fun w hw => fidxN_none fun j hj => by
    obtain ⟨t, r, e, ht, hr, _⟩ := good_end hg hw hj
    rw [e]
    exact send_none h (by simpa using ht)
  have e1 : wPar N s.par s.dep q = s.par := ext_nth (by simp [wPar, hp]) fun i hi => by
    have hi' : i < N.ends.length := by simpa [wPar] using hi
    unfold wPar; rw [nth_map_range hi']; unfold wParAt; rw [hpd i hi', if_neg (by omega)]
  have e2 : wDep N s.par s.dep q = s.dep := ext_nth (by simp [wDep, hd]) fun i hi => by
    have hi' : i < N.ends.length := by simpa [wDep] using hi
    unfold wDep; rw [nth_map_range hi']; unfold wDepAt; rw [hpd i hi', if_neg (by omega)]
  unfold wstep
  rw [e1, e2, h]
  rfl
theorem WTop.sent_stop {N : NetD} (hg : N.good = true) {root q : Nat} {s : WSt} (h : WTop N root q s) (hs : sentN N s.par s.dep q = 0) : wave N root = s := by
  cases ha : anyAt N s.dep q with
  | false => exact h.stop ha
  | true =>
    have h2 := h.step hg ha
    rw [wstep_none hg h.plen h.dlen hs] at h2
    exact h2.stop (anyAt_no fun j hj => by have := h.dlow j hj; omega)
theorem sent_any {N : NetD} {par dep : List Int} {q : Nat} (h : sentN N par dep q ≠ 0) : anyAt N dep q = true := by
  rw [← Bool.not_eq_false]
  intro ha
  apply h
  unfold sentN
  rw [sumN_congr (g := fun _ => 0), sumN_zero]
  intro v hv
  refine cntSend_off fun e => ?_
  have : anyAt N dep q = true := List.any_eq_true.2 ⟨v, List.mem_range.2 hv, decide_eq_true e⟩
  rw [ha] at this; cases this
def waveOk (N : NetD) (root : Int) : Bool := N.good && inB root 0 ((N.ends.length : Int) - 1)

end Go.Proofs.Ytoebgfmnjjiddaa
