/-
  Plain: parents by ports, the root, the hops to it.
-/
import Derived.Test.YtbbdhcfbdndhlaaDoorGood
namespace Go.Proofs.YtbbdhcfbdndhlaaDoor
set_option linter.unusedVariables false

/-- the outer row of a network's ends, opened -/
def NetO (w : World) (lo hi b off : Nat) (N : NetD) : Prop :=
  ∀ t, t < N.ends.length → ∃ A c, w.cell? ⟨b, off + t, none⟩ = some (.slice A (nthL N.ends t).length c) ∧ (nthL N.ends t).length ≤ c ∧ c ≤ 9223372036854775807 ∧
    (0 < (nthL N.ends t).length → ∃ b2 off2, A = some ⟨b2, off2, none⟩ ∧ lo ≤ b2 ∧ b2 < hi ∧ ∀ r, r < (nthL N.ends t).length → w.cell? ⟨b2, off2 + r * 2, none⟩ = some (.int .i64 (nthE (nthL N.ends t) r).1) ∧ w.cell? ⟨b2, off2 + r * 2 + 1, none⟩ = some (.int .i64 (nthE (nthL N.ends t) r).2))
open Go.RowKit in
theorem NetO.below {w w' : World} {lo hi b off B : Nat} {N : NetD} (h : NetO w lo hi b off N) (hb : Below B w w') (h1 : b < B) (h2 : hi ≤ B) : NetO w' lo hi b off N := by
  intro t ht
  obtain ⟨A, c, a1, a2, a3, a4⟩ := h t ht
  refine ⟨A, c, (hb.cell (p := ⟨b, off + t, none⟩) h1).trans a1, a2, a3, fun hp => ?_⟩
  obtain ⟨b2, off2, e, a5, a6, a7⟩ := a4 hp
  exact ⟨b2, off2, e, a5, a6, fun r hr => ⟨(hb.cell (p := ⟨b2, off2 + r * 2, none⟩) (by show b2 < B; omega)).trans (a7 r hr).1, (hb.cell (p := ⟨b2, off2 + r * 2 + 1, none⟩) (by show b2 < B; omega)).trans (a7 r hr).2⟩⟩
theorem NetO.port {w : World} {lo hi b off : Nat} {N : NetD} (h : NetO w lo hi b off N) {t r : Nat} (ht : t < N.ends.length) (hr : r < (nthL N.ends t).length) :
    ∃ b2 off2 c, w.cell? ⟨b, off + t, none⟩ = some (.slice (some ⟨b2, off2, none⟩) (nthL N.ends t).length c) ∧ (nthL N.ends t).length ≤ c ∧ c ≤ 9223372036854775807 ∧ lo ≤ b2 ∧ b2 < hi ∧
      w.cell? ⟨b2, off2 + r * 2, none⟩ = some (.int .i64 (nthE (nthL N.ends t) r).1) ∧ w.cell? ⟨b2, off2 + r * 2 + 1, none⟩ = some (.int .i64 (nthE (nthL N.ends t) r).2) := by
  obtain ⟨A, c, a1, a2, a3, a4⟩ := h t ht
  obtain ⟨b2, off2, rfl, a5, a6, a7⟩ := a4 (by omega)
  exact ⟨b2, off2, c, a1, a2, a3, a5, a6, (a7 r hr).1, (a7 r hr).2⟩
/-- a network in memory, taken apart -/
theorem Net.parts {w : World} {lo hi : Nat} {v : Value} {N : NetD} (h : Net w lo hi v N) : ∃ A c A2 c2 A3 c3, v = .agg #[.slice A N.ends.length c, .slice A2 N.ids.length c2, .slice A3 N.inputs.length c3] ∧ N.ends.length ≤ c ∧ c ≤ 9223372036854775807 ∧
    IntS w lo hi (.slice A2 N.ids.length c2) N.ids ∧ IntS w lo hi (.slice A3 N.inputs.length c3) N.inputs ∧ (0 < N.ends.length → ∃ b off, A = some ⟨b, off, none⟩ ∧ lo ≤ b ∧ b < hi ∧ NetO w lo hi b off N) := by
  obtain ⟨ve, vi, vn, rfl, he, hi1, hn1⟩ := h
  obtain ⟨A, c, rfl, hc1, hc2, hcell⟩ := he.form
  obtain ⟨A2, c2, rfl⟩ := hi1.shape
  obtain ⟨A3, c3, rfl⟩ := hn1.shape
  refine ⟨A, c, A2, c2, A3, c3, rfl, hc1, hc2, hi1, hn1, fun hp => ?_⟩
  obtain ⟨b, off, e, h1, h2, h3⟩ := hcell hp
  refine ⟨b, off, e, h1, h2, fun t ht => ?_⟩
  obtain ⟨u, hu, hR⟩ := h3 t ht
  obtain ⟨A4, c4, rfl, hd1, hd2, hcell4⟩ := hR.form
  exact ⟨A4, c4, hu, hd1, hd2, hcell4⟩

/-- what a good network gives -/
theorem good_n {N : NetD} (h : N.good = true) : 1 ≤ N.ends.length ∧ N.ends.length ≤ 40 := by
  unfold NetD.good NetD.headOk at h
  simp only [Bool.and_eq_true] at h
  have := inB_le h.1.1
  omega
theorem good_row_ok {N : NetD} (h : N.good = true) {v : Nat} (hv : v < N.ends.length) : N.rowOk v = true := by
  unfold NetD.good at h
  rw [Bool.and_eq_true, List.all_eq_true] at h
  exact h.2 v (List.mem_range.2 hv)
theorem good_deg {N : NetD} (h : N.good = true) {v : Nat} (hv : v < N.ends.length) : (nthL N.ends v).length ≤ 6 := by
  have := good_row_ok h hv
  unfold NetD.rowOk at this
  rw [Bool.and_eq_true] at this
  simpa using this.1
theorem good_end {N : NetD} (h : N.good = true) {v i : Nat} (hv : v < N.ends.length) (hi : i < (nthL N.ends v).length) :
    ∃ t r : Nat, nthE (nthL N.ends v) i = ((t : Int), (r : Int)) ∧ t < N.ends.length ∧ r < (nthL N.ends t).length ∧ nthE (nthL N.ends t) r = ((v : Int), (i : Int)) := by
  have := good_row_ok h hv
  unfold NetD.rowOk at this
  rw [Bool.and_eq_true, List.all_eq_true] at this
  have := this.2 i (List.mem_range.2 hi)
  unfold NetD.endOk NetD.port at this
  simp only [Bool.and_eq_true, decide_eq_true_eq] at this
  obtain ⟨⟨a1, a2⟩, a3⟩ := this
  have b1 := inB_le a1
  have b2 := inB_le a2
  refine ⟨(nthE (nthL N.ends v) i).1.toNat, (nthE (nthL N.ends v) i).2.toNat, ?_, by omega, by omega, a3⟩
  apply Prod.ext
  · show _ = ((Int.toNat _ : Nat) : Int); omega
  · show _ = ((Int.toNat _ : Nat) : Int); omega

def rootOf (ps : List Int) : Int := fidx (fun x => x == -1) ps
/-- node v spoils the parents -/
def badPar (N : NetD) (ps : List Int) (v : Nat) : Bool := (nth ps v == -1 && !decide ((v : Int) = rootOf ps)) || (nth ps v != -1 && !inB (nth ps v) 0 (((nthL N.ends v).length : Int) - 1))
def parHead (N : NetD) (ps : List Int) : Bool := decide (ps.length = N.ends.length) && ((List.range ps.length).all fun v => !badPar N ps v) && decide (0 ≤ rootOf ps)
/-- the node behind the parent's port -/
def up (N : NetD) (ps : List Int) (v : Nat) : Nat := (nthE (nthL N.ends v) (nth ps v).toNat).1.toNat
def hops (N : NetD) (ps : List Int) (root : Nat) : Nat → Nat → Nat
  | 0, _ => 0
  | f + 1, v => if v = root then 0 else 1 + hops N ps root f (up N ps v)
def tdAll (N : NetD) (ps : List Int) : List Int := (List.range ps.length).map fun v => (hops N ps (rootOf ps).toNat (ps.length + 1) v : Int)
def tdOk (N : NetD) (ps : List Int) : Bool := parHead N ps && (tdAll N ps).all fun k => decide (k ≤ ps.length)
def tdRoot (N : NetD) (ps : List Int) : Int := if tdOk N ps then rootOf ps else 0
def tdDepths (N : NetD) (ps : List Int) : List Int := if tdOk N ps then tdAll N ps else []

/-- where the first -1 is -/
theorem rootOf_first {ps : List Int} {v : Nat} (hv : v < ps.length) (h : nth ps v = -1) (hb : ∀ j, j < v → nth ps j ≠ -1) : rootOf ps = v :=
  fidx_hit hv (by simpa using h) fun j hj => by simpa using hb j hj
theorem rootOf_none {ps : List Int} (h : ∀ j, j < ps.length → nth ps j ≠ -1) : rootOf ps = -1 := fidx_none fun j hj => by simpa using h j hj
theorem rootOf_cases (ps : List Int) : (rootOf ps = -1 ∧ ∀ j, j < ps.length → nth ps j ≠ -1) ∨ ∃ v : Nat, v < ps.length ∧ rootOf ps = v ∧ nth ps v = -1 ∧ ∀ j, j < v → nth ps j ≠ -1 := by
  by_cases h : ∃ v, v < ps.length ∧ nth ps v = -1
  · right
    have : ∀ n, (∃ v, v < n ∧ v < ps.length ∧ nth ps v = -1) → ∃ v, v < ps.length ∧ nth ps v = -1 ∧ ∀ j, j < v → nth ps j ≠ -1 := by
      intro n
      induction n with
      | zero => rintro ⟨v, hv, _⟩; omega
      | succ n ih =>
        rintro ⟨v, hv, hl, he⟩
        by_cases hh : ∃ u, u < n ∧ u < ps.length ∧ nth ps u = -1
        · exact ih hh
        · refine ⟨v, hl, he, fun j hj e => hh ⟨j, by omega, by omega, e⟩⟩
    obtain ⟨v, hl, he⟩ := h
    obtain ⟨u, h1, h2, h3⟩ := this (v + 1) ⟨v, by omega, hl, he⟩
    exact ⟨u, h1, rootOf_first h1 h2 h3, h2, h3⟩
  · left
    have hn : ∀ j, j < ps.length → nth ps j ≠ -1 := fun j hj e => h ⟨j, hj, e⟩
    exact ⟨rootOf_none hn, hn⟩

theorem tdOk_bad {N : NetD} {ps : List Int} {v : Nat} (hv : v < ps.length) (h : badPar N ps v = true) : tdOk N ps = false := by
  have : ((List.range ps.length).all fun v => !badPar N ps v) = false := by
    rw [Bool.eq_false_iff]; intro ha; rw [List.all_eq_true] at ha
    have := ha v (List.mem_range.2 hv); rw [h] at this; cases this
  unfold tdOk parHead; rw [this]; simp
theorem tdOk_len {N : NetD} {ps : List Int} (h : ps.length ≠ N.ends.length) : tdOk N ps = false := by unfold tdOk parHead; rw [decide_eq_false h]; simp
theorem tdOk_noroot {N : NetD} {ps : List Int} (h : rootOf ps < 0) : tdOk N ps = false := by unfold tdOk parHead; rw [decide_eq_false (by omega : ¬ 0 ≤ rootOf ps)]; simp
theorem tdAll_length (N : NetD) (ps : List Int) : (tdAll N ps).length = ps.length := by simp [tdAll]
theorem nth_tdAll (N : NetD) (ps : List Int) {v : Nat} (hv : v < ps.length) : nth (tdAll N ps) v = (hops N ps (rootOf ps).toNat (ps.length + 1) v : Int) := by
  rw [nth_eq (by rw [tdAll_length]; exact hv)]; simp [tdAll]
theorem tdOk_far {N : NetD} {ps : List Int} {v : Nat} (hv : v < ps.length) (h : ps.length < hops N ps (rootOf ps).toNat (ps.length + 1) v) : tdOk N ps = false := by
  have : ((tdAll N ps).all fun k => decide (k ≤ ps.length)) = false := all_false (k := v) (by rw [tdAll_length]; exact hv) (by rw [nth_tdAll N ps hv]; simp; omega)
  unfold tdOk; rw [this]; simp
theorem tdOk_yes {N : NetD} {ps : List Int} (h1 : ps.length = N.ends.length) (h2 : ∀ v, v < ps.length → badPar N ps v = false) (h3 : 0 ≤ rootOf ps) (h4 : ∀ v, v < ps.length → hops N ps (rootOf ps).toNat (ps.length + 1) v ≤ ps.length) : tdOk N ps = true := by
  have a1 : ((List.range ps.length).all fun v => !badPar N ps v) = true := by rw [List.all_eq_true]; intro v hv; rw [h2 v (List.mem_range.1 hv)]; rfl
  have a2 : ((tdAll N ps).all fun k => decide (k ≤ ps.length)) = true := Upto.all fun j hj => by
    rw [tdAll_length] at hj; rw [nth_tdAll N ps hj]; simp; exact h4 j hj
  unfold tdOk parHead; rw [a1, a2, decide_eq_true h1, decide_eq_true h3]; rfl
/-- at a node that is not the root the port of the parent is there -/
theorem par_port {N : NetD} {ps : List Int} (hl : ps.length = N.ends.length) (h2 : ∀ v, v < ps.length → badPar N ps v = false) {v : Nat} (hv : v < ps.length) (hr : (v : Int) ≠ rootOf ps) :
    ∃ i : Nat, nth ps v = i ∧ i < (nthL N.ends v).length := by
  have := h2 v hv
  unfold badPar at this
  rw [Bool.or_eq_false_iff] at this
  obtain ⟨a1, a2⟩ := this
  have hne : nth ps v ≠ -1 := by
    intro e
    rw [e, decide_eq_false hr] at a1
    simp at a1
  have h3 : inB (nth ps v) 0 (((nthL N.ends v).length : Int) - 1) = true := by
    rw [Bool.and_eq_false_iff] at a2
    rcases a2 with a2 | a2
    · exact absurd (by simpa using a2) hne
    · simpa using a2
  have := inB_le h3
  exact ⟨(nth ps v).toNat, by omega, by omega⟩
theorem up_lt {N : NetD} {ps : List Int} (hg : N.good = true) {v i : Nat} (hv : v < N.ends.length) (hi : nth ps v = i) (hl : i < (nthL N.ends v).length) :
    up N ps v < N.ends.length ∧ (nthE (nthL N.ends v) i).1 = (up N ps v : Int) := by
  obtain ⟨t, r, e, h1, h2, h3⟩ := good_end hg hv hl
  unfold up
  rw [hi, Int.toNat_natCast, e]
  simp
  exact h1
theorem hops_root (N : NetD) (ps : List Int) (f root : Nat) : hops N ps root f root = 0 := by cases f <;> simp [hops]
theorem hops_up (N : NetD) (ps : List Int) (f root v : Nat) (h : v ≠ root) : hops N ps root (f + 1) v = 1 + hops N ps root f (up N ps v) := by simp [hops, h]
theorem hops_le (N : NetD) (ps : List Int) (root : Nat) : ∀ f v, hops N ps root f v ≤ f
  | 0, _ => by simp [hops]
  | f + 1, v => by
    unfold hops
    split
    · omega
    · have := hops_le N ps root f (up N ps v); omega

/-- what the reference knows of the root behind k parents -/
def RInv (N : NetD) (ps : List Int) (k : Nat) (ρ : Int) : Prop := (∀ j, j < k → badPar N ps j = false) ∧ ((ρ = -1 ∧ ∀ j, j < k → nth ps j ≠ -1) ∨ (ρ = rootOf ps ∧ 0 ≤ ρ ∧ ρ < k))
theorem RInv.zero (N : NetD) (ps : List Int) : RInv N ps 0 (-1) := ⟨fun j hj => absurd hj (by omega), .inl ⟨rfl, fun j hj => absurd hj (by omega)⟩⟩
theorem RInv.bad_twice {N : NetD} {ps : List Int} {k : Nat} {ρ : Int} (h : RInv N ps k ρ) (hm : nth ps k = -1) (hρ : 0 ≤ ρ) : badPar N ps k = true := by
  rcases h.2 with ⟨e, _⟩ | ⟨e, e1, e2⟩
  · omega
  · unfold badPar; rw [hm, decide_eq_false (by omega)]; rfl
theorem RInv.root {N : NetD} {ps : List Int} {k : Nat} {ρ : Int} (h : RInv N ps k ρ) (hk : k < ps.length) (hm : nth ps k = -1) (hρ : ¬ 0 ≤ ρ) : RInv N ps (k + 1) k := by
  obtain ⟨h1, h2⟩ := h
  rcases h2 with ⟨e, h3⟩ | ⟨e, e1, e2⟩
  · have hr := rootOf_first hk hm h3
    refine ⟨fun j hj => ?_, .inr ⟨hr.symm, by omega, by omega⟩⟩
    by_cases e : j = k
    · subst e; unfold badPar; rw [hm, hr]; simp
    · exact h1 j (by omega)
  · omega
theorem bad_port {N : NetD} {ps : List Int} {k : Nat} (hm : nth ps k ≠ -1) (hi : inB (nth ps k) 0 (((nthL N.ends k).length : Int) - 1) = false) : badPar N ps k = true := by
  unfold badPar; rw [hi]; simp [hm]
theorem not_bad {N : NetD} {ps : List Int} {k : Nat} (hm : nth ps k ≠ -1) (hi : inB (nth ps k) 0 (((nthL N.ends k).length : Int) - 1) = true) : badPar N ps k = false := by
  unfold badPar; rw [hi]; simp [hm]
theorem RInv.skip {N : NetD} {ps : List Int} {k : Nat} {ρ : Int} (h : RInv N ps k ρ) (hm : nth ps k ≠ -1) (hi : inB (nth ps k) 0 (((nthL N.ends k).length : Int) - 1) = true) : RInv N ps (k + 1) ρ := by
  obtain ⟨h1, h2⟩ := h
  refine ⟨fun j hj => ?_, ?_⟩
  · by_cases e : j = k
    · subst e; exact not_bad hm hi
    · exact h1 j (by omega)
  · rcases h2 with ⟨e, h3⟩ | ⟨e, e1, e2⟩
    · refine .inl ⟨e, fun j hj => ?_⟩
      by_cases e : j = k
      · subst e; exact hm
      · exact h3 j (by omega)
    · exact .inr ⟨e, e1, by omega⟩
theorem RInv.none {N : NetD} {ps : List Int} {ρ : Int} (h : RInv N ps ps.length ρ) (hρ : ρ < 0) : rootOf ps < 0 := by
  rcases h.2 with ⟨e, h3⟩ | ⟨e, e1, e2⟩
  · rw [rootOf_none h3]; omega
  · omega
theorem RInv.some {N : NetD} {ps : List Int} {ρ : Int} (h : RInv N ps ps.length ρ) (hρ : ¬ ρ < 0) : ρ = rootOf ps ∧ ρ < ps.length := by
  rcases h.2 with ⟨e, h3⟩ | ⟨e, e1, e2⟩
  · omega
  · exact ⟨e, e2⟩

end Go.Proofs.YtbbdhcfbdndhlaaDoor
