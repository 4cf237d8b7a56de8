/-
  Plain: the depths of a wave are the distances from its root.
-/
import Derived.Test.YtoebgfmnjjiddaaWaveP
import Derived.Test.YtoebgfmnjjiddaaDistC
namespace Go.Proofs.Ytoebgfmnjjiddaa
set_option linter.unusedVariables false

structure WD (N : NetD) (root q : Nat) (s : WSt) : Prop where
  way : ∀ j, j < N.ends.length → 0 ≤ nth s.dep j → way N (nth s.dep j).toNat root j
  near : ∀ j, j < N.ends.length → ∀ k, k ≤ q → Go.Proofs.Ytoebgfmnjjiddaa.way N k root j → 0 ≤ nth s.dep j ∧ nth s.dep j ≤ k
  par : ∀ j, j < N.ends.length → 0 ≤ nth s.par j → ∀ t : Nat, (nthE (nthL N.ends j) (nth s.par j).toNat).1 = t → 0 ≤ nth s.dep t
theorem way_lt {N : NetD} {k u t : Nat} (hu : u < N.ends.length) (h : way N k u t) : t < N.ends.length := by
  cases k with
  | zero => rw [← (show u = t from h)]; exact hu
  | succ k => obtain ⟨s, _, h2⟩ := h; exact h2.2.1
theorem WD.zero {N : NetD} {root : Nat} (hr : root < N.ends.length) : WD N root 0 (wave0 N root) := by
  have hl : (List.replicate N.ends.length (-1 : Int)).length = N.ends.length := by simp
  have hs : ∀ j, j < N.ends.length → nth (wave0 N root).dep j = if j = root then 0 else -1 := fun j hj => by
    simp only [wave0]
    rw [nth_set _ _ _ _ (by omega), nth_replicate _ _ hj]
  refine ⟨fun j hj h0 => ?_, fun j hj k hk hw => ?_, fun j hj h0 => ?_⟩
  · rw [hs j hj] at h0 ⊢
    by_cases e : j = root
    · subst e; rw [if_pos rfl]; rfl
    · rw [if_neg e] at h0; omega
  · obtain rfl : k = 0 := by omega
    have e : root = j := hw
    subst e
    rw [hs _ hj, if_pos rfl]; omega
  · simp only [wave0] at h0
    rw [nth_replicate _ _ hj] at h0; omega
theorem WD.step {N : NetD} (hg : N.good = true) {root q : Nat} (hr : root < N.ends.length) {s : WSt} (h : WTop N root q s) (hw : WD N root q s) : WD N root (q + 1) (wstep N q s) := by
  have hD : ∀ j, j < N.ends.length → nth (wstep N q s).dep j = wDepAt N (sendB N s.par s.dep q) q s.dep j := fun j hj => nth_map_range hj
  have hP : ∀ j, j < N.ends.length → nth (wstep N q s).par j = wParAt N (sendB N s.par s.dep q) s.dep s.par j := fun j hj => nth_map_range hj
  have hold : ∀ j, j < N.ends.length → 0 ≤ nth s.dep j → nth (wstep N q s).dep j = nth s.dep j := fun j hj h0 => by rw [hD j hj]; unfold wDepAt; rw [if_neg (by omega)]
  have hpd : ∀ w, w < N.ends.length → 0 ≤ pd N (sendB N s.par s.dep q) w → ∃ v i : Nat, v < N.ends.length ∧ i < (nthL N.ends v).length ∧ nth s.dep v = q ∧ nthE (nthL N.ends w) (pd N (sendB N s.par s.dep q) w).toNat = ((v : Int), (i : Int)) ∧ Adj N v w := by
    intro w hw2 h0
    unfold pd at h0 ⊢
    rcases fidxN_cases (fun j => sendB N s.par s.dep q (nthE (nthL N.ends w) j).1.toNat (nthE (nthL N.ends w) j).2.toNat) (nthL N.ends w).length with ⟨e, _⟩ | ⟨k, hk, e, h1, _⟩
    · rw [e] at h0; omega
    · rw [e, Int.toNat_natCast]
      obtain ⟨t, r, e1, ht, hr2, e2⟩ := good_end hg hw2 hk
      rw [e1] at h1
      simp only [Int.toNat_natCast] at h1
      unfold sendB at h1
      simp only [Bool.and_eq_true, decide_eq_true_eq] at h1
      exact ⟨t, r, ht, hr2, h1.2.1, e1, ht, hw2, r, hr2, by rw [e2]⟩
  refine ⟨fun j hj h0 => ?_, fun j hj k hk hwk => ?_, fun j hj h0 t ht => ?_⟩
  · rw [hD j hj] at h0 ⊢
    unfold wDepAt at h0 ⊢
    by_cases hc : nth s.dep j < 0 ∧ 0 ≤ pd N (sendB N s.par s.dep q) j
    · rw [if_pos hc] at h0 ⊢
      obtain ⟨v, i, hv, hi, e1, _, ha⟩ := hpd j hj hc.2
      have := hw.way v hv (by omega)
      rw [e1] at this
      rw [show ((q : Int) + 1).toNat = ((q : Int)).toNat + 1 by omega]
      exact ⟨v, this, ha⟩
    · rw [if_neg hc] at h0 ⊢
      exact hw.way j hj h0
  · by_cases hk2 : k ≤ q
    · obtain ⟨a1, a2⟩ := hw.near j hj k hk2 hwk
      rw [hold j hj a1]; exact ⟨a1, a2⟩
    · obtain rfl : k = q + 1 := by omega
      obtain ⟨t, h1, h2⟩ := hwk
      have ht := h2.1
      obtain ⟨b1, b2⟩ := hw.near t ht q (Nat.le_refl _) h1
      by_cases hlt : nth s.dep t < q
      · obtain ⟨c1, c2⟩ := hw.near j hj ((nth s.dep t).toNat + 1) (by omega) ⟨t, hw.way t ht b1, h2⟩
        rw [hold j hj c1]; exact ⟨c1, by omega⟩
      · have hq : nth s.dep t = q := by omega
        by_cases h0 : 0 ≤ nth s.dep j
        · rw [hold j hj h0]
          have := h.dlow j hj
          exact ⟨h0, by omega⟩
        · obtain ⟨_, _, i, hi, he⟩ := h2
          obtain ⟨t2, r, e1, ht2, hr2, e2⟩ := good_end hg ht hi
          rw [e1] at he
          dsimp only at he
          obtain rfl : t2 = j := by omega
          have hsend : sendB N s.par s.dep q t i = true := by
            unfold sendB
            rw [decide_eq_true hi, decide_eq_true hq, Bool.true_and, Bool.true_and, Bool.not_eq_true']
            refine decide_eq_false fun e3 => h0 ?_
            refine hw.par t ht (by omega) t2 ?_
            rw [← e3, Int.toNat_natCast, e1]
          have hp : 0 ≤ pd N (sendB N s.par s.dep q) t2 := by
            unfold pd
            rcases fidxN_cases (fun j => sendB N s.par s.dep q (nthE (nthL N.ends t2) j).1.toNat (nthE (nthL N.ends t2) j).2.toNat) (nthL N.ends t2).length with ⟨e, h5⟩ | ⟨k, hk, e, h1, _⟩
            · exfalso
              have := h5 r hr2
              rw [e2] at this
              simp only [Int.toNat_natCast] at this
              rw [hsend] at this; cases this
            · rw [e]; omega
          rw [hD t2 hj]; unfold wDepAt; rw [if_pos ⟨by omega, hp⟩]; omega
  · rw [hP j hj] at h0 ht
    have hkeep : ∀ x, x < N.ends.length → 0 ≤ nth s.dep x → 0 ≤ nth (wstep N q s).dep x := fun x hx h0 => by rw [hold x hx h0]; exact h0
    unfold wParAt at h0 ht
    by_cases hc : nth s.dep j < 0 ∧ 0 ≤ pd N (sendB N s.par s.dep q) j
    · rw [if_pos hc] at h0 ht
      obtain ⟨v, i, hv, hi, e1, e2, ha⟩ := hpd j hj hc.2
      rw [e2] at ht
      dsimp only at ht
      obtain rfl : v = t := by omega
      exact hkeep v hv (by omega)
    · rw [if_neg hc] at h0 ht
      have h1 := hw.par j hj h0 t ht
      by_cases htl : t < N.ends.length
      · exact hkeep t htl h1
      · exfalso
        rw [show nth s.dep t = 0 by simp [nth, List.getElem?_eq_none (Nat.le_of_not_lt (by rw [h.dlen]; exact htl))]] at h1
        by_cases hpl : (nth s.par j).toNat < (nthL N.ends j).length
        · obtain ⟨t2, r, e1, ht2, _, _⟩ := good_end hg hj hpl
          rw [e1] at ht
          dsimp only at ht
          omega
        · have h3 : nthE (nthL N.ends j) (nth s.par j).toNat = (0, 0) := by simp [nthE, List.getElem?_eq_none (Nat.le_of_not_lt hpl)]
          rw [h3] at ht
          dsimp only at ht
          have := good_n hg
          omega
theorem wave_wd {N : NetD} (hg : N.good = true) {root : Nat} (hr : root < N.ends.length) : ∃ q, WTop N root q (wave N root) ∧ WD N root q (wave N root) ∧ anyAt N (wave N root).dep q = false := by
  have key : ∀ f q s, f = N.ends.length + 1 - q → WTop N root q s → WD N root q s → ∃ q, WTop N root q (wave N root) ∧ WD N root q (wave N root) ∧ anyAt N (wave N root).dep q = false := by
    intro f
    induction f with
    | zero => intro q s hf h hw; have := h.qle; omega
    | succ f ih =>
      intro q s hf h hw
      cases ha : anyAt N s.dep q with
      | true => exact ih (q + 1) _ (by omega) (h.step hg ha) (hw.step hg hr h)
      | false => rw [h.stop ha]; exact ⟨q, h, hw, ha⟩
  exact key _ 0 _ rfl (WTop.zero hr) (WD.zero hr)
theorem wave_len {N : NetD} (hg : N.good = true) {root : Nat} (hr : root < N.ends.length) : (wave N root).dep.length = N.ends.length ∧ (wave N root).par.length = N.ends.length := by
  obtain ⟨q, h, _⟩ := wave_wd hg hr; exact ⟨h.dlen, h.plen⟩
theorem wave_dist {N : NetD} (hg : N.good = true) {root : Nat} (hr : root < N.ends.length) : (wave N root).dep = dist N root := by
  obtain ⟨q, h, hw, ha⟩ := wave_wd hg hr
  have hno : ∀ j, j < N.ends.length → nth (wave N root).dep j ≠ q := fun j hj e => by
    have : anyAt N (wave N root).dep q = true := List.any_eq_true.2 ⟨j, List.mem_range.2 hj, decide_eq_true e⟩
    rw [ha] at this; cases this
  have hall : ∀ k j, j < N.ends.length → way N k root j → 0 ≤ nth (wave N root).dep j ∧ nth (wave N root).dep j ≤ k := by
    intro k
    induction k with
    | zero => intro j hj hk; exact hw.near j hj 0 (Nat.zero_le _) hk
    | succ k ih =>
      intro j hj hk
      by_cases hkq : k + 1 ≤ q
      · exact hw.near j hj _ hkq hk
      · obtain ⟨t, h1, h2⟩ := hk
        obtain ⟨b1, b2⟩ := ih t h2.1 h1
        have b3 := (h.dlow t h2.1).2
        have b4 := hno t h2.1
        obtain ⟨c1, c2⟩ := hw.near j hj ((nth (wave N root).dep t).toNat + 1) (by omega) ⟨t, hw.way t h2.1 b1, h2⟩
        exact ⟨c1, by omega⟩
  have hn := good_nodes hg
  refine ext_nth (by rw [h.dlen, dist_len hn hr]) fun j hj => ?_
  rw [h.dlen] at hj
  have d1 := h.dlow j hj
  have d2 := dist_low hn hr hj
  by_cases h0 : 0 ≤ nth (dist N root) j
  · obtain ⟨c1, c2⟩ := hall _ j hj (dist_way hn hr hj h0)
    obtain ⟨e1, e2⟩ := dist_le hn hr (hw.way j hj c1)
    omega
  · by_cases h1 : 0 ≤ nth (wave N root).dep j
    · obtain ⟨e1, e2⟩ := dist_le hn hr (hw.way j hj h1)
      omega
    · omega

end Go.Proofs.Ytoebgfmnjjiddaa
