/-
  Plain: a wave's round as the reference carries it out, node by node and port by port.
-/
import Derived.Test.YtoebgfmnjjiddaaWaveP
namespace Go.Proofs.Ytoebgfmnjjiddaa
set_option linter.unusedVariables false

theorem fidxN_keep' {p : Nat → Bool} {m : Nat} (h : 0 ≤ fidxN p m) : fidxN p (m + 1) = fidxN p m := by
  rcases fidxN_cases p m with ⟨e, _⟩ | ⟨k, hk, e, h1, h2⟩
  · omega
  · rw [e]; exact fidxN_hit (by omega) h1 h2
theorem fidxN_new' {p : Nat → Bool} {m : Nat} (h : fidxN p m < 0) (hp : p m = true) : fidxN p (m + 1) = m := by
  rcases fidxN_cases p m with ⟨e, h1⟩ | ⟨k, hk, e, h1, h2⟩
  · exact fidxN_hit (by omega) hp h1
  · omega
theorem fidxN_still' {p : Nat → Bool} {m : Nat} (h : fidxN p m < 0) (hp : p m = false) : fidxN p (m + 1) = fidxN p m := by
  rcases fidxN_cases p m with ⟨e, h1⟩ | ⟨k, hk, e, h1, h2⟩
  · rw [e]; exact fidxN_none fun j hj => by
      by_cases e2 : j = m
      · rw [e2]; exact hp
      · exact h1 j (by omega)
  · omega
theorem fidxN_nil (p : Nat → Bool) : fidxN p 0 = -1 := fidxN_none fun j hj => by omega
/-- something comes in at port j of w -/
def hitB (N : NetD) (par dep : List Int) (d : Int) (w j : Nat) : Bool := sendB N par dep d (nthE (nthL N.ends w) j).1.toNat (nthE (nthL N.ends w) j).2.toNat
def wDepJ (N : NetD) (par dep : List Int) (d : Int) (w m : Nat) : Int := if nth dep w < 0 ∧ 0 ≤ fidxN (hitB N par dep d w) m then d + 1 else nth dep w
def wParJ (N : NetD) (par dep : List Int) (d : Int) (w m : Nat) : Int := if nth dep w < 0 ∧ 0 ≤ fidxN (hitB N par dep d w) m then fidxN (hitB N par dep d w) m else nth par w
def limJ (N : NetD) (k j x : Nat) : Nat := if x < k then (nthL N.ends x).length else if x = k then j else 0
structure WB (N : NetD) (par dep : List Int) (d : Int) (k j : Nat) (par' dep' : List Int) : Prop where
  plen : par'.length = N.ends.length
  dlen : dep'.length = N.ends.length
  depE : ∀ x, x < N.ends.length → nth dep' x = wDepJ N par dep d x (limJ N k j x)
  parE : ∀ x, x < N.ends.length → nth par' x = wParJ N par dep d x (limJ N k j x)
theorem WB.start {N : NetD} {par dep : List Int} {d : Int} (hp : par.length = N.ends.length) (hd : dep.length = N.ends.length) : WB N par dep d 0 0 par dep := by
  have hl : ∀ x, limJ N 0 0 x = 0 := fun x => by unfold limJ; rw [if_neg (by omega)]; split <;> rfl
  exact ⟨hp, hd, fun x hx => by rw [hl]; unfold wDepJ; rw [fidxN_nil, if_neg (by omega)], fun x hx => by rw [hl]; unfold wParJ; rw [fidxN_nil, if_neg (by omega)]⟩
section
variable {N : NetD} {par dep : List Int} {d : Int} {k j : Nat} {par' dep' : List Int}
theorem WB.next (h : WB N par dep d k (nthL N.ends k).length par' dep') : WB N par dep d (k + 1) 0 par' dep' := by
  have hl : ∀ x, limJ N (k + 1) 0 x = limJ N k (nthL N.ends k).length x := fun x => by
    unfold limJ
    by_cases e1 : x < k
    · rw [if_pos e1, if_pos (by omega)]
    · rw [if_neg e1]
      by_cases e2 : x = k
      · subst e2; rw [if_pos (by omega), if_pos rfl]
      · rw [if_neg (by omega), if_neg e2]; split <;> rfl
  exact ⟨h.plen, h.dlen, fun x hx => by rw [hl]; exact h.depE x hx, fun x hx => by rw [hl]; exact h.parE x hx⟩
theorem WB.end (h : WB N par dep d N.ends.length 0 par' dep') : par' = wPar N par dep d ∧ dep' = wDep N par dep d := by
  refine ⟨ext_nth (by rw [h.plen]; simp [wPar]) fun x hx => ?_, ext_nth (by rw [h.dlen]; simp [wDep]) fun x hx => ?_⟩
  · rw [h.plen] at hx
    rw [h.parE x hx]
    unfold wPar limJ; rw [nth_map_range hx, if_pos hx]; rfl
  · rw [h.dlen] at hx
    rw [h.depE x hx]
    unfold wDep limJ; rw [nth_map_range hx, if_pos hx]; rfl
theorem limJ_at : limJ N k j k = j := by unfold limJ; rw [if_neg (by omega), if_pos rfl]
theorem limJ_off {x : Nat} (h : x ≠ k) : limJ N k (j + 1) x = limJ N k j x := by unfold limJ; rw [if_neg (c := x = k) h, if_neg (c := x = k) h]
/-- nodes that were reached stay as they are -/
theorem WB.old (h : WB N par dep d k j par' dep') {x : Nat} (hx : x < N.ends.length) (h0 : 0 ≤ nth dep x) : nth dep' x = nth dep x ∧ nth par' x = nth par x := by
  rw [h.depE x hx, h.parE x hx]
  unfold wDepJ wParJ
  rw [if_neg (by omega), if_neg (by omega)]
  exact ⟨rfl, rfl⟩
/-- the node is found at this port -/
theorem WB.hit (h : WB N par dep d k j par' dep') (hk : k < N.ends.length) (hd0 : 0 ≤ d) (h1 : nth dep' k < 0) (hh : hitB N par dep d k j = true) : WB N par dep d k (j + 1) (par'.set k (j : Int)) (dep'.set k (d + 1)) := by
  have e1 := h.depE k hk
  rw [limJ_at] at e1
  have e2 : nth dep k < 0 ∧ fidxN (hitB N par dep d k) j < 0 := by
    unfold wDepJ at e1
    split at e1 <;> omega
  have e3 := fidxN_new' e2.2 hh
  refine ⟨by rw [List.length_set]; exact h.plen, by rw [List.length_set]; exact h.dlen, fun x hx => ?_, fun x hx => ?_⟩
  · rw [nth_set _ _ _ _ (by rw [h.dlen]; exact hk)]
    by_cases e : x = k
    · subst e; rw [if_pos rfl, limJ_at]; unfold wDepJ; rw [e3, if_pos ⟨e2.1, by omega⟩]
    · rw [if_neg e, limJ_off e]; exact h.depE x hx
  · rw [nth_set _ _ _ _ (by rw [h.plen]; exact hk)]
    by_cases e : x = k
    · subst e; rw [if_pos rfl, limJ_at]; unfold wParJ; rw [e3, if_pos ⟨e2.1, by omega⟩]
    · rw [if_neg e, limJ_off e]; exact h.parE x hx
/-- nothing happens at this port -/
theorem WB.miss (h : WB N par dep d k j par' dep') (hk : k < N.ends.length) (hm : ¬ nth dep' k < 0 ∨ hitB N par dep d k j = false) : WB N par dep d k (j + 1) par' dep' := by
  have key : nth dep k < 0 → fidxN (hitB N par dep d k) (j + 1) = fidxN (hitB N par dep d k) j := fun hd => by
    by_cases h0 : 0 ≤ fidxN (hitB N par dep d k) j
    · exact fidxN_keep' h0
    · rcases hm with h1 | h1
      · exfalso
        have e1 := h.depE k hk
        rw [limJ_at] at e1
        unfold wDepJ at e1
        rw [if_neg (by omega)] at e1
        omega
      · exact fidxN_still' (by omega) h1
  refine ⟨h.plen, h.dlen, fun x hx => ?_, fun x hx => ?_⟩
  · by_cases e : x = k
    · subst e
      have e1 := h.depE x hx
      rw [limJ_at] at e1 ⊢
      rw [e1]; unfold wDepJ
      by_cases hd : nth dep x < 0
      · rw [key hd]
      · rw [if_neg (by omega), if_neg (by omega)]
    · rw [limJ_off e]; exact h.depE x hx
  · by_cases e : x = k
    · subst e
      have e1 := h.parE x hx
      rw [limJ_at] at e1 ⊢
      rw [e1]; unfold wParJ
      by_cases hd : nth dep x < 0
      · rw [key hd]
      · rw [if_neg (by omega), if_neg (by omega)]
    · rw [limJ_off e]; exact h.parE x hx
end
theorem hit_is {N : NetD} (hg : N.good = true) {par dep : List Int} {d : Int} {w j t r : Nat} (he : nthE (nthL N.ends w) j = ((t : Int), (r : Int))) (hr : r < (nthL N.ends t).length) : hitB N par dep d w j = (decide (nth dep t = d) && !decide ((r : Int) = nth par t)) := by
  unfold hitB sendB
  rw [he]
  simp only [Int.toNat_natCast]
  rw [decide_eq_true hr, Bool.true_and]

end Go.Proofs.Ytoebgfmnjjiddaa
