/-
  Trees of views in memory. No condition on any program.
-/
import Derived.Test.YtlfdhhmccjkogaaVtP
import Derived.Test.YtlfdhhmccjkogaaFrame0
namespace Go.Proofs.Ytlfdhhmccjkogaa
open Go.RowKit
set_option linter.unusedVariables false

def nthN (bs : List Nat) (j : Nat) : Nat := bs.getD j 0
mutual
/-- block b holds the tree; all its blocks lie from lo on and below hi -/
def TreeAt (w : World) (ty : TypeId) (lo hi : Nat) : VT → Nat → Prop
  | .node d i ps ts k, b => ∃ vp vq bs, lo ≤ b ∧ b < hi ∧ BoxN w b #[.int .i64 d, .int .i64 i, vp, vq, .int .i64 k] ty ∧ IntS w lo hi vp ps ∧
      Sl w lo hi 1 vq ts.length (fun j => .pointer (some ⟨nthN bs j, 0, none⟩)) ∧ TreesAt w ty lo hi ts bs
def TreesAt (w : World) (ty : TypeId) (lo hi : Nat) : List VT → List Nat → Prop
  | [], _ => True
  | t :: ts, [] => False
  | t :: ts, b :: bs => TreeAt w ty lo hi t b ∧ TreesAt w ty lo hi ts bs
end
def nthT (ts : List VT) (j : Nat) : VT := ts.getD j (.node 0 0 [] [] 0)
theorem nthT_mem {ts : List VT} {j : Nat} (h : j < ts.length) : nthT ts j ∈ ts := by
  have : nthT ts j = ts[j] := by simp [nthT, h]
  rw [this]; exact List.getElem_mem h
theorem TreesAt_iff {w : World} {ty : TypeId} {lo hi : Nat} : ∀ {ts : List VT} {bs : List Nat}, ts.length ≤ bs.length → (TreesAt w ty lo hi ts bs ↔ ∀ j, j < ts.length → TreeAt w ty lo hi (nthT ts j) (nthN bs j))
  | [], bs, _ => by simp [TreesAt]
  | t :: ts, [], h => by simp at h
  | t :: ts, b :: bs, h => by
    rw [TreesAt, TreesAt_iff (ts := ts) (bs := bs) (by simpa using h)]
    constructor
    · rintro ⟨h1, h2⟩ j hj
      cases j with
      | zero => exact h1
      | succ j => exact h2 j (by simpa using hj)
    · intro h
      exact ⟨h 0 (by simp), fun j hj => h (j + 1) (by simpa using hj)⟩
theorem TreesAt_len {w : World} {ty : TypeId} {lo hi : Nat} : ∀ {ts : List VT} {bs : List Nat}, TreesAt w ty lo hi ts bs → ts.length ≤ bs.length
  | [], bs, _ => Nat.zero_le _
  | t :: ts, [], h => by rw [TreesAt] at h; exact h.elim
  | t :: ts, b :: bs, h => by rw [TreesAt] at h; have := TreesAt_len h.2; simpa using this
theorem VT.size_mem {t : VT} {d i : Nat} {ps : List Int} {ts : List VT} {k : Nat} (h : t ∈ ts) : SizeOf.sizeOf t < SizeOf.sizeOf (VT.node d i ps ts k) := by
  have := List.sizeOf_lt_of_mem h
  simp only [VT.node.sizeOf_spec]
  omega
theorem VT.ind {Q : VT → Prop} (h : ∀ d i ps ts k, (∀ t ∈ ts, Q t) → Q (.node d i ps ts k)) (t : VT) : Q t := by
  suffices key : ∀ n (t : VT), SizeOf.sizeOf t < n → Q t from key (SizeOf.sizeOf t + 1) t (by omega)
  intro n
  induction n with
  | zero => intro t h; omega
  | succ n ih =>
    intro t ht
    cases t with
    | node d i ps ts k =>
      refine h d i ps ts k fun u hu => ih u ?_
      have := VT.size_mem (d := d) (i := i) (ps := ps) (k := k) hu
      omega
theorem TreeAt.keep {w w' : World} {ty : TypeId} {lo hi lo' hi' : Nat} (hk : ∀ k, lo ≤ k → k < hi → w'.heap[k]? = w.heap[k]?) (h1 : lo' ≤ lo) (h2 : hi ≤ hi') : ∀ (t : VT) (b : Nat), TreeAt w ty lo hi t b → TreeAt w' ty lo' hi' t b := by
  intro t
  refine VT.ind (Q := fun t => ∀ b, TreeAt w ty lo hi t b → TreeAt w' ty lo' hi' t b) ?_ t
  intro d i ps ts k ih b h
  rw [TreeAt] at h ⊢
  obtain ⟨vp, vq, bs, a1, a2, a3, a4, a5, a6⟩ := h
  refine ⟨vp, vq, bs, by omega, by omega, (hk b a1 a2).trans a3, (a4.keep hk).mono h1 h2, (a5.keep hk).mono h1 h2, ?_⟩
  have hl := TreesAt_len a6
  rw [TreesAt_iff hl] at a6 ⊢
  intro j hj
  exact ih _ (nthT_mem hj) _ (a6 j hj)
theorem TreeAt.kept {w w' : World} {ty : TypeId} {lo hi : Nat} {row : Option Nat} {t : VT} {b : Nat} (h : TreeAt w ty lo hi t b) (hg : w.grownBy w' row) (hB : hi ≤ w.heap.size) (hr : ∀ g, row = some g → g < lo ∨ hi ≤ g) : TreeAt w' ty lo hi t b :=
  TreeAt.keep (fun k h1 h2 => hg.block k (by omega) (fun e => by have := hr k e.symm; omega)) (Nat.le_refl _) (Nat.le_refl _) t b h
theorem TreeAt.mono {w : World} {ty : TypeId} {lo hi lo' hi' : Nat} {t : VT} {b : Nat} (h : TreeAt w ty lo hi t b) (h1 : lo' ≤ lo) (h2 : hi ≤ hi') : TreeAt w ty lo' hi' t b := TreeAt.keep (fun _ _ _ => rfl) h1 h2 t b h
/-- a tree's block, its slices and its parts -/
theorem TreeAt.opened {w : World} {ty : TypeId} {lo hi : Nat} {t : VT} {b : Nat} (h : TreeAt w ty lo hi t b) : ∃ vp vq bs, lo ≤ b ∧ b < hi ∧ BoxN w b #[.int .i64 t.degree, .int .i64 t.input, vp, vq, .int .i64 t.depth] ty ∧ IntS w lo hi vp t.ports ∧
      Sl w lo hi 1 vq t.parts.length (fun j => .pointer (some ⟨nthN bs j, 0, none⟩)) ∧ ∀ j, j < t.parts.length → TreeAt w ty lo hi (nthT t.parts j) (nthN bs j) := by
  cases t with
  | node d i ps ts k =>
    rw [TreeAt] at h
    obtain ⟨vp, vq, bs, a1, a2, a3, a4, a5, a6⟩ := h
    exact ⟨vp, vq, bs, a1, a2, a3, a4, a5, (TreesAt_iff (TreesAt_len a6)).1 a6⟩
theorem TreeAt.mk {w : World} {ty : TypeId} {lo hi d i k : Nat} {ps : List Int} {ts : List VT} {b : Nat} {vp vq : Value} (bs : List Nat) (h1 : lo ≤ b) (h2 : b < hi) (h3 : BoxN w b #[.int .i64 d, .int .i64 i, vp, vq, .int .i64 k] ty) (h4 : IntS w lo hi vp ps)
    (h5 : Sl w lo hi 1 vq ts.length (fun j => .pointer (some ⟨nthN bs j, 0, none⟩))) (hl : ts.length ≤ bs.length) (h6 : ∀ j, j < ts.length → TreeAt w ty lo hi (nthT ts j) (nthN bs j)) : TreeAt w ty lo hi (.node d i ps ts k) b := by
  rw [TreeAt]
  exact ⟨vp, vq, bs, h1, h2, h3, h4, h5, (TreesAt_iff hl).2 h6⟩

end Go.Proofs.Ytlfdhhmccjkogaa
