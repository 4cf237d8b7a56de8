/-
  Slices of truth values in memory; plain laws on least free numbers and on permutations.
-/
import Derived.Test.YtbbdhcfbdndhlaaDoorSSet
namespace Go.Proofs.YtbbdhcfbdndhlaaDoor
open Go.RowKit
set_option linter.unusedVariables false

def nthB (bs : List Bool) (i : Nat) : Bool := bs.getD i false
theorem nthB_eq {bs : List Bool} {i : Nat} (h : i < bs.length) : nthB bs i = bs[i] := by simp [nthB, h]
theorem nthB_set (bs : List Bool) (j i : Nat) (b : Bool) (hj : j < bs.length) : nthB (bs.set j b) i = if i = j then b else nthB bs i := by
  unfold nthB
  simp only [List.getD_eq_getElem?_getD, List.getElem?_set]
  by_cases e : j = i
  · subst e; simp [hj]
  · rw [if_neg e, if_neg (fun h => e h.symm)]
theorem nthB_replicate (n : Nat) (b : Bool) {i : Nat} (h : i < n) : nthB (List.replicate n b) i = b := by rw [nthB_eq (by simpa using h)]; simp
/-- v reads as the list of truth values bs -/
def BoolS (w : World) (lo hi : Nat) (v : Value) (bs : List Bool) : Prop := Sl w lo hi 1 v bs.length fun j => .bool (nthB bs j)
section
variable {w w' : World} {lo hi lo' hi' B l2 h2 : Nat} {v : Value} {bs : List Bool} {row : Option Nat}
theorem BoolS.dims (h : BoolS w lo hi v bs) : ∃ A c, v = .slice A bs.length c ∧ bs.length ≤ c ∧ c ≤ 9223372036854775807 := by
  obtain ⟨A, c, e, h1, h2, _⟩ := h; unfold maxLen at h2; exact ⟨A, c, e, h1, h2⟩
theorem BoolS.below (h : BoolS w lo hi v bs) (hb : Below B w w') (hB : hi ≤ B) : BoolS w' lo hi v bs := Sl.below h hb hB
theorem BoolS.turned (h : BoolS w lo hi v bs) (hb : Turned l2 h2 w w') (hB : hi ≤ w.heap.size) (hd : hi ≤ l2 ∨ h2 ≤ lo) : BoolS w' lo hi v bs := Sl.turned h hb hB hd
theorem BoolS.mono (h : BoolS w lo hi v bs) (h1 : lo' ≤ lo) (h2 : hi ≤ hi') : BoolS w lo' hi' v bs := Sl.mono h h1 h2
theorem BoolS.far (h : BoolS w lo hi v bs) (hg : w.grownBy w' row) (hB : hi ≤ w.heap.size) (hr : ∀ g, row = some g → g < lo ∨ hi ≤ g) : BoolS w' lo hi v bs :=
  Sl.keep h fun k h1 h2 => hg.block k (by omega) (fun e => by have := hr k e.symm; omega)
theorem BoolS.still (h : BoolS w lo hi v bs) (hg : w.grownBy w' none) (hB : hi ≤ w.heap.size) : BoolS w' lo hi v bs := h.far hg hB (no_row _ _)
theorem BoolS.at_ {b off n c : Nat} (h : BoolS w lo hi (.slice (some ⟨b, off, none⟩) n c) bs) {j : Nat} (hj : j < bs.length) : w.cell? ⟨b, off + j, none⟩ = some (.bool (nthB bs j)) ∧ w.frozen? ⟨b, off + j, none⟩ = false := by
  obtain ⟨A, c', e, _⟩ := id h
  injection e with e1 e2 e3
  subst e2
  exact Sl.at_ h (by omega)
theorem BoolS.set {b off n c : Nat} (h : BoolS w lo hi (.slice (some ⟨b, off, none⟩) n c) bs) {j : Nat} (hj : j < bs.length) (z : Bool) :
    BoolS (w.setCell ⟨b, off + j, none⟩ (.bool z)) lo hi (.slice (some ⟨b, off, none⟩) n c) (bs.set j z) := by
  obtain ⟨A, c', e, _⟩ := id h
  injection e with e1 e2 e3
  subst e2
  have := Sl.set h (j := j) (by omega) (.bool z)
  unfold BoolS
  rw [List.length_set]
  exact this.congr fun i hi => by
    rw [nthB_set _ _ _ _ hj]
    by_cases e : i = j <;> simp [e]
theorem BoolS.at0 {b n c : Nat} (h : BoolS w lo hi (.slice (some ⟨b, 0, none⟩) n c) bs) {j : Nat} (hj : j < bs.length) : w.cell? ⟨b, j, none⟩ = some (.bool (nthB bs j)) ∧ w.frozen? ⟨b, j, none⟩ = false := by
  have := h.at_ hj; rwa [Nat.zero_add] at this
theorem BoolS.set0 {b n c : Nat} (h : BoolS w lo hi (.slice (some ⟨b, 0, none⟩) n c) bs) {j : Nat} (hj : j < bs.length) (z : Bool) :
    BoolS (w.setCell ⟨b, j, none⟩ (.bool z)) lo hi (.slice (some ⟨b, 0, none⟩) n c) (bs.set j z) := by
  have := h.set hj z; rwa [Nat.zero_add] at this
theorem BoolS.opened {A : Option Addr} {n c : Nat} (h : BoolS w lo hi (.slice A n c) bs) {j : Nat} (hj : j < bs.length) : ∃ b off, A = some ⟨b, off, none⟩ ∧ lo ≤ b ∧ b < hi ∧ w.cell? ⟨b, off + j, none⟩ = some (.bool (nthB bs j)) ∧ w.frozen? ⟨b, off + j, none⟩ = false := by
  obtain ⟨A', c', e, h1, h2, h3⟩ := id h
  injection e with e1 e2 e3
  subst e1
  obtain ⟨b, off, e4, h4, h5, h6⟩ := h3 (by omega)
  exact ⟨b, off, e4, h4, h5, h6 j (by omega)⟩
theorem BoolS.of_row {b n : Nat} {t : TypeId} (h : w.rowIs b t n (fun j => .bool (nthB bs j))) (hn : bs.length = n) (hm : n ≤ maxLen) : BoolS w b (b + 1) (.slice (some ⟨b, 0, none⟩) n n) bs := by
  subst hn
  refine ⟨_, _, rfl, Nat.le_refl _, hm, fun hpos => ⟨b, 0, rfl, Nat.le_refl _, by omega, fun j hj => ?_⟩⟩
  rw [Nat.zero_add]
  exact ⟨h.cell (by omega), h.frozen j⟩
end
/-- rows just made -/
theorem made_ints (w : World) (n : Nat) (t : TypeId) {g : Nat} (hg : w.heap.size = g) (hn : n ≤ 1099511627776) : IntS (w.alloc (.cells (madeCells #[.int .i64 0] n) t)) g (g + 1) (.slice (some ⟨g, 0, none⟩) n n) (List.replicate n 0) := by
  subst hg
  exact IntS.of_row (t := t) ((World.rowIs_made w (.int .i64 0) n t).congr fun j hj => by rw [nth_replicate _ _ hj]) (by simp) (by unfold maxLen; omega)
theorem made_bools (w : World) (n : Nat) (t : TypeId) {g : Nat} (hg : w.heap.size = g) (hn : n ≤ 1099511627776) : BoolS (w.alloc (.cells (madeCells #[.bool false] n) t)) g (g + 1) (.slice (some ⟨g, 0, none⟩) n n) (List.replicate n false) := by
  subst hg
  exact BoolS.of_row (t := t) ((World.rowIs_made w (.bool false) n t).congr fun j hj => by rw [nthB_replicate _ _ hj]) (by simp) (by unfold maxLen; omega)

/-- numbers from 0 on that a list holds are not more than its elements -/
theorem pigeon : ∀ (k : Nat) (l : List Int), (∀ j, j < k → (j : Int) ∈ l) → k ≤ l.length
  | 0, l, _ => Nat.zero_le _
  | k + 1, l, h => by
    have hk := h k (by omega)
    have := pigeon k (l.erase (k : Int)) fun j hj => (List.mem_erase_of_ne (by omega)).2 (h j (by omega))
    rw [List.length_erase_of_mem hk] at this
    have : 0 < l.length := List.length_pos_of_mem hk
    omega
/-- the least number that a list does not hold -/
def lf (l : List Int) : Nat := (List.range (l.length + 1)).findIdx fun (c : Nat) => !decide ((c : Int) ∈ l)
theorem lf_is {l : List Int} {c : Nat} (hc : (c : Int) ∉ l) (hb : ∀ j, j < c → (j : Int) ∈ l) : lf l = c := by
  have hl := pigeon c l hb
  unfold lf
  rw [List.findIdx_eq (by simp; omega)]
  refine ⟨by simpa using hc, fun j hj => ?_⟩
  simpa using hb j hj
theorem lf_spec (l : List Int) : (lf l : Int) ∉ l ∧ ∀ j, j < lf l → (j : Int) ∈ l := by
  have hex : ∃ c : Nat, (c : Int) ∉ l := by
    apply Classical.byContradiction
    intro h
    have := pigeon (l.length + 1) l fun j _ => Classical.byContradiction fun hj => h ⟨j, hj⟩
    omega
  obtain ⟨c, hc⟩ := hex
  have key : ∀ c : Nat, (c : Int) ∉ l → ∃ d : Nat, (d : Int) ∉ l ∧ ∀ j, j < d → (j : Int) ∈ l := by
    intro c
    induction c using Nat.strongRecOn with
    | _ c ih =>
      intro hc
      by_cases h : ∃ j : Nat, j < c ∧ (j : Int) ∉ l
      · obtain ⟨j, hj, hn⟩ := h; exact ih j hj hn
      · exact ⟨c, hc, fun j hj => Classical.byContradiction fun hn => h ⟨j, hj, hn⟩⟩
  obtain ⟨d, h1, h2⟩ := key c hc
  rw [lf_is h1 h2]
  exact ⟨h1, h2⟩
theorem lf_le (l : List Int) : lf l ≤ l.length := pigeon _ _ (lf_spec l).2
theorem lf_congr {a b : List Int} (h : ∀ x : Int, 0 ≤ x → (x ∈ a ↔ x ∈ b)) : lf a = lf b := by
  obtain ⟨h1, h2⟩ := lf_spec b
  exact lf_is (fun hm => h1 ((h _ (by omega)).1 hm)) fun j hj => (h _ (by omega)).2 (h2 j hj)

/-- the numbers 0 to n-1 in any order -/
def permAt (zs : List Int) (n : Nat) (k : Nat) : Bool := inB (nth zs k) 0 ((n : Int) - 1) && !decide (nth zs k ∈ zs.take k)
def permB (zs : List Int) (n : Nat) : Bool := (List.range zs.length).all (permAt zs n) && decide (zs.length = n)
theorem perm_at {zs : List Int} {n k : Nat} (h : permB zs n = true) (hk : k < zs.length) : ∃ t : Nat, nth zs k = t ∧ t < n ∧ nth zs k ∉ zs.take k := by
  unfold permB at h
  rw [Bool.and_eq_true] at h
  have := rangeAll_at h.1 hk
  unfold permAt at this
  rw [Bool.and_eq_true] at this
  obtain ⟨h1, h2⟩ := inB_le this.1
  exact ⟨(nth zs k).toNat, by omega, by omega, by simpa using this.2⟩
theorem perm_len {zs : List Int} {n : Nat} (h : permB zs n = true) : zs.length = n := by
  unfold permB at h; rw [Bool.and_eq_true] at h; simpa using h.2

end Go.Proofs.YtbbdhcfbdndhlaaDoor
