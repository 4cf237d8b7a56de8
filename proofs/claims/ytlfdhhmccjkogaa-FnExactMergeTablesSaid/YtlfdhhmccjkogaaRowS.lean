/-
  Words for memory: slices of pairs of a text and a number (rows of a table), tables. No condition on any program.
-/
import Derived.Test.YtlfdhhmccjkogaaMem
import Derived.Test.YtlfdhhmccjkogaaSS
import Derived.Test.YtlfdhhmccjkogaaOpen
namespace Go.Proofs.Ytlfdhhmccjkogaa
open Go.RowKit
set_option linter.unusedVariables false

/-- element i of a list of rows -/
def nthR (l : List (ByteArray × Int)) (i : Nat) : ByteArray × Int := l.getD i (ByteArray.empty, 0)
theorem nthR_eq {l : List (ByteArray × Int)} {i : Nat} (h : i < l.length) : nthR l i = l[i] := by simp [nthR, h]
theorem nthR_mem {l : List (ByteArray × Int)} {i : Nat} (h : i < l.length) : nthR l i ∈ l := by rw [nthR_eq h]; exact List.getElem_mem h
theorem ext_nthR {a b : List (ByteArray × Int)} (hl : a.length = b.length) (h : ∀ i, i < a.length → nthR a i = nthR b i) : a = b := by
  apply List.ext_getElem hl
  intro i h1 h2
  have := h i h1
  rwa [nthR_eq h1, nthR_eq h2] at this
/-- the cells of a row of rows -/
def rowCell (es : List (ByteArray × Int)) (j : Nat) : Value := if j % 2 = 0 then .string (nthR es (j / 2)).1 else .int .i64 (nthR es (j / 2)).2
theorem rowCell_fst (es : List (ByteArray × Int)) (k : Nat) : rowCell es (k * 2) = .string (nthR es k).1 := by
  unfold rowCell; rw [if_pos (by omega), show k * 2 / 2 = k by omega]
theorem rowCell_snd (es : List (ByteArray × Int)) (k : Nat) : rowCell es (k * 2 + 1) = .int .i64 (nthR es k).2 := by
  unfold rowCell; rw [if_neg (by omega), show (k * 2 + 1) / 2 = k by omega]
/-- what make leaves -/
def zeroCell (j : Nat) : Value := if j % 2 = 0 then .string ByteArray.empty else .int .i64 0
theorem make_rows {P : Program} (t e : TypeId) (ht : P.underlying t = some (.slice e)) (hinfo : (P.info? e).map (fun i => (i.zero, i.size, i.bytes)) = some (some (.agg #[.string ByteArray.empty, .int .i64 0]), 2, 24))
    (n : Nat) (hn : n ≤ 1099511627776) (w : World) :
    (Instr.makeSlice t (.int .i64 (n : Int)) (.int .i64 (n : Int))).run P w = .ok (.slice (some ⟨w.heap.size, 0, none⟩) n n) (w.alloc (.cells (madeCells #[.string ByteArray.empty, .int .i64 0] (n * 2)) e)) := by
  obtain ⟨i, hi, hzz⟩ := Option.map_eq_some_iff.1 hinfo
  simp only [Prod.mk.injEq] at hzz
  obtain ⟨hz, hsz, hb⟩ := hzz
  have hr := run_make (P := P) w t e i _ ht hi hz .i64 .i64 n n (by omega) (by omega) (by rw [hb]; omega) (by omega)
  simp only [Int.toNat_natCast, hsz] at hr
  exact hr
theorem rowIs_rows (w : World) (n : Nat) (t : TypeId) : (w.alloc (.cells (madeCells #[.string ByteArray.empty, .int .i64 0] (n * 2)) t)).rowIs w.heap.size t (n * 2) zeroCell := by
  refine ⟨_, (World.rowIs_made w (.int .i64 0) 0 t).lt |> fun _ => heap_alloc_new w _, size_madeCells _ _, fun i hi => ?_⟩
  have h2 : i % 2 = 0 ∨ i % 2 = 1 := by omega
  rcases h2 with h2 | h2 <;> simp [madeCells, zeroCell, hi, h2]
/-- v reads as the list of rows es -/
def RowS (w : World) (lo hi : Nat) (v : Value) (es : List (ByteArray × Int)) : Prop := Sl w lo hi 2 v es.length (rowCell es)
section
variable {w w' : World} {lo hi lo' hi' : Nat} {v : Value} {es : List (ByteArray × Int)}
theorem RowS.form (h : RowS w lo hi v es) : ∃ A c, v = .slice A es.length c ∧ es.length ≤ c ∧ c ≤ maxLen ∧
    (0 < es.length → ∃ b off, A = some ⟨b, off, none⟩ ∧ lo ≤ b ∧ b < hi ∧ ∀ k, k < es.length → w.cell? ⟨b, off + k * 2, none⟩ = some (.string (nthR es k).1) ∧ w.cell? ⟨b, off + k * 2 + 1, none⟩ = some (.int .i64 (nthR es k).2)) := by
  obtain ⟨A, c, e, h1, h2, h3⟩ := h
  refine ⟨A, c, e, h1, h2, fun hn => ?_⟩
  obtain ⟨b, off, e2, h4, h5, h6⟩ := h3 hn
  refine ⟨b, off, e2, h4, h5, fun k hk => ⟨?_, ?_⟩⟩
  · rw [← rowCell_fst]; exact (h6 (k * 2) (by omega)).1
  · rw [← rowCell_snd, Nat.add_assoc]; exact (h6 (k * 2 + 1) (by omega)).1
theorem RowS.mono (h : RowS w lo hi v es) (h1 : lo' ≤ lo) (h2 : hi ≤ hi') : RowS w lo' hi' v es := Sl.mono h h1 h2
theorem RowS.below {B : Nat} (h : RowS w lo hi v es) (hb : Below B w w') (hB : hi ≤ B) : RowS w' lo hi v es := Sl.below h hb hB
theorem RowS.keep (h : RowS w lo hi v es) (hk : ∀ k, lo ≤ k → k < hi → w'.heap[k]? = w.heap[k]?) : RowS w' lo hi v es := Sl.keep h hk
theorem RowS.turned {l2 h2 : Nat} (h : RowS w lo hi v es) (hb : Turned l2 h2 w w') (hB : hi ≤ w.heap.size) (hd : hi ≤ l2 ∨ h2 ≤ lo) : RowS w' lo hi v es := Sl.turned h hb hB hd
theorem RowS.setCell (h : RowS w lo hi v es) {p : Addr} (hp : p.block < lo ∨ hi ≤ p.block) (u : Value) : RowS (w.setCell p u) lo hi v es := Sl.setCell h hp u
theorem RowS.nil (w : World) (lo hi : Nat) : RowS w lo hi (.slice none 0 0) [] := Sl.nil _ _ _ _ _
theorem RowS.shape (h : RowS w lo hi v es) : ∃ A c, v = .slice A es.length c := let ⟨A, c, e, _⟩ := h; ⟨A, c, e⟩
end
/-- a table as data -/
structure TabD where
  depth : Int
  rows : List (ByteArray × Int)
/-- v is a table in memory -/
def Tab (w : World) (lo hi : Nat) (v : Value) (T : TabD) : Prop := ∃ A c, v = .agg #[.int .i64 T.depth, .slice A T.rows.length c] ∧ RowS w lo hi (.slice A T.rows.length c) T.rows
theorem Tab.of {w : World} {lo hi : Nat} {vr : Value} {T : TabD} (h : RowS w lo hi vr T.rows) : Tab w lo hi (.agg #[.int .i64 T.depth, vr]) T := by
  obtain ⟨A, c, rfl⟩ := h.shape
  exact ⟨A, c, rfl, h⟩
theorem Tab.below {B : Nat} {w w' : World} {lo hi : Nat} {v : Value} {T : TabD} (h : Tab w lo hi v T) (hb : Below B w w') (hB : hi ≤ B) : Tab w' lo hi v T := by
  obtain ⟨A, c, rfl, h⟩ := h
  exact ⟨A, c, rfl, h.below hb hB⟩
theorem Tab.mono {w : World} {lo hi lo' hi' : Nat} {v : Value} {T : TabD} (h : Tab w lo hi v T) (h1 : lo' ≤ lo) (h2 : hi ≤ hi') : Tab w lo' hi' v T := by
  obtain ⟨A, c, rfl, h⟩ := h
  exact ⟨A, c, rfl, h.mono h1 h2⟩
theorem Tab.turned {l2 h2 : Nat} {w w' : World} {lo hi : Nat} {v : Value} {T : TabD} (h : Tab w lo hi v T) (hb : Turned l2 h2 w w') (hB : hi ≤ w.heap.size) (hd : hi ≤ l2 ∨ h2 ≤ lo) : Tab w' lo hi v T := by
  obtain ⟨A, c, rfl, h⟩ := h
  exact ⟨A, c, rfl, h.turned hb hB hd⟩
/-- all its numbers fit, its texts are no longer than any machine's -/
def rowsOk (rs : List (ByteArray × Int)) : Prop := ∀ r ∈ rs, r.1.size ≤ maxLen ∧ I64 r.2
def TabD.Ok (T : TabD) : Prop := I64 T.depth ∧ rowsOk T.rows
/-- how long the first k texts are, taken together -/
def sumB (rs : List (ByteArray × Int)) (k : Nat) : Nat := ((rs.take k).map fun r => r.1.size).sum
theorem sumB_zero (rs : List (ByteArray × Int)) : sumB rs 0 = 0 := by simp [sumB]
theorem sumB_succ (rs : List (ByteArray × Int)) (k : Nat) (h : k < rs.length) : sumB rs (k + 1) = sumB rs k + (nthR rs k).1.size := by
  unfold sumB
  rw [List.take_succ_eq_append_getElem h, List.map_append, List.sum_append, nthR_eq h]
  simp
theorem sumB_mono (rs : List (ByteArray × Int)) {k m : Nat} (h : k ≤ m) (hm : m ≤ rs.length) : sumB rs k ≤ sumB rs m := by
  induction m with
  | zero => obtain rfl : k = 0 := by omega
            exact Nat.le_refl _
  | succ m ih =>
    by_cases e : k = m + 1
    · subst e; exact Nat.le_refl _
    · have := ih (by omega) (by omega)
      have := sumB_succ rs m (by omega)
      omega
def szR (rs : List (ByteArray × Int)) : Nat := rs.length + sumB rs rs.length
def TabD.sz (T : TabD) : Nat := szR T.rows
theorem len_le_szR (rs : List (ByteArray × Int)) {k : Nat} (h : k < rs.length) : (nthR rs k).1.size ≤ szR rs := by
  have h1 := sumB_succ rs k h
  have h2 := sumB_mono rs (show k + 1 ≤ rs.length by omega) (Nat.le_refl _)
  unfold szR; omega

end Go.Proofs.Ytlfdhhmccjkogaa
