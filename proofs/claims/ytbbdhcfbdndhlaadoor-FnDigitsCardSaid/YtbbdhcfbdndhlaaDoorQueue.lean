/-
  A queue of numbers that the call owns: it is cut at its head and appended to at its end. No condition on any program.
-/
import Derived.Test.YtbbdhcfbdndhlaaDoorOwn
import Derived.ArgAppend
namespace Go.Proofs.YtbbdhcfbdndhlaaDoor
open Go.RowKit

theorem nth_set (zs : List Int) (j i : Nat) (z : Int) (hj : j < zs.length) : nth (zs.set j z) i = if i = j then z else nth zs i := by
  unfold nth
  simp only [List.getD_eq_getElem?_getD, List.getElem?_set]
  by_cases e : j = i
  · subst e; simp [hj]
  · rw [if_neg e, if_neg (fun h => e h.symm)]
theorem nth_drop (zs : List Int) (a i : Nat) : nth (zs.drop a) i = nth zs (a + i) := by simp [nth]
theorem nth_replicate (n : Nat) (x : Int) {i : Nat} (h : i < n) : nth (List.replicate n x) i = x := by rw [nth_eq (by simpa using h)]; simp
/-- a store into a row of numbers -/
theorem IntS.set {w : World} {lo hi b off n c : Nat} {zs : List Int} (h : IntS w lo hi (.slice (some ⟨b, off, none⟩) n c) zs) {j : Nat} (hj : j < zs.length) (z : Int) :
    IntS (w.setCell ⟨b, off + j, none⟩ (.int .i64 z)) lo hi (.slice (some ⟨b, off, none⟩) n c) (zs.set j z) := by
  obtain ⟨A, c', e, _⟩ := h.form
  injection e with e1 e2 e3
  subst e2
  have := Sl.set h (j := j) (by omega) (.int .i64 z)
  unfold IntS
  rw [List.length_set]
  exact this.congr fun i hi => by
    rw [nth_set _ _ _ _ hj]
    by_cases e : i = j <;> simp [e]
theorem IntS.at_ {w : World} {lo hi b off n c : Nat} {zs : List Int} (h : IntS w lo hi (.slice (some ⟨b, off, none⟩) n c) zs) {j : Nat} (hj : j < zs.length) :
    w.cell? ⟨b, off + j, none⟩ = some (.int .i64 (nth zs j)) ∧ w.frozen? ⟨b, off + j, none⟩ = false := by
  obtain ⟨A, c', e, _⟩ := h.form
  injection e with e1 e2 e3
  subst e2
  exact Sl.at_ h (by omega)

theorem IntS.set0 {w : World} {lo hi b n c : Nat} {zs : List Int} (h : IntS w lo hi (.slice (some ⟨b, 0, none⟩) n c) zs) {j : Nat} (hj : j < zs.length) (z : Int) :
    IntS (w.setCell ⟨b, j, none⟩ (.int .i64 z)) lo hi (.slice (some ⟨b, 0, none⟩) n c) (zs.set j z) := by
  have := h.set hj z
  rwa [Nat.zero_add] at this
theorem IntS.at0 {w : World} {lo hi b n c : Nat} {zs : List Int} (h : IntS w lo hi (.slice (some ⟨b, 0, none⟩) n c) zs) {j : Nat} (hj : j < zs.length) :
    w.cell? ⟨b, j, none⟩ = some (.int .i64 (nth zs j)) ∧ w.frozen? ⟨b, j, none⟩ = false := by
  have := h.at_ hj
  rwa [Nat.zero_add] at this

/-- rows elsewhere stay where one row grows -/
theorem IntS.far {w w' : World} {lo hi : Nat} {v : Value} {zs : List Int} {row : Option Nat} (h : IntS w lo hi v zs) (hg : w.grownBy w' row) (hB : hi ≤ w.heap.size) (hr : ∀ g, row = some g → g < lo ∨ hi ≤ g) : IntS w' lo hi v zs :=
  Sl.keep h fun k h1 h2 => hg.block k (by omega) (fun e => by have := hr k e.symm; omega)

/-- v is a queue that reads as zs; all cells up to its capacity are there and can be written; it lies in a block from base on -/
def OwnQ (w : World) (base : Nat) (v : Value) (zs : List Int) : Prop :=
  ∃ g off c, v = .slice (some ⟨g, off, none⟩) zs.length c ∧ zs.length ≤ c ∧ c ≤ maxLen ∧ base ≤ g ∧ g < w.heap.size ∧
    (∀ j, j < zs.length → w.cell? ⟨g, off + j, none⟩ = some (.int .i64 (nth zs j))) ∧ ∀ j, j < c → (w.cell? ⟨g, off + j, none⟩).isSome = true ∧ w.frozen? ⟨g, off + j, none⟩ = false

section
variable {w w' : World} {base : Nat} {v : Value} {zs : List Int}
theorem OwnQ.keep (h : OwnQ w base v zs) (hk : ∀ k, base ≤ k → k < w.heap.size → w'.heap[k]? = w.heap[k]?) (hs : w.heap.size ≤ w'.heap.size) : OwnQ w' base v zs := by
  obtain ⟨g, off, c, rfl, h1, h2, h3, h4, h5, h6⟩ := h
  have e := hk g h3 h4
  refine ⟨g, off, c, rfl, h1, h2, h3, by omega, fun j hj => (World.cell?_of_block (a := ⟨g, off + j, none⟩) e).trans (h5 j hj), fun j hj => ?_⟩
  rw [World.cell?_of_block (w := w) (w' := w') (a := ⟨g, off + j, none⟩) e, World.frozen?_of_block (w := w) (w' := w') (a := ⟨g, off + j, none⟩) e]
  exact h6 j hj
theorem OwnQ.alloc (h : OwnQ w base v zs) (o : Obj) : OwnQ (w.alloc o) base v zs := h.keep (fun k _ hk => Below.heap_alloc _ _ _ hk) (by simp)
theorem OwnQ.below {B : Nat} (h : OwnQ w base v zs) (hb : Below B w w') (hB : w.heap.size ≤ B) : OwnQ w' base v zs := h.keep (fun k _ hk => hb.block k (by omega)) hb.size
theorem OwnQ.setCell (h : OwnQ w base v zs) {p : Addr} (hp : p.block < base) (u : Value) : OwnQ (w.setCell p u) base v zs := h.keep (fun k hk _ => Below.heap_setCell _ _ _ _ (by omega)) (by simp [World.setCell])
theorem OwnQ.drewN (h : OwnQ w base v zs) (k : Nat) : OwnQ (w.drewN k) base v zs := h
theorem OwnQ.drew (h : OwnQ w base v zs) : OwnQ w.drew base v zs := h
theorem OwnQ.ints (h : OwnQ w base v zs) : IntS w base w.heap.size v zs := by
  obtain ⟨g, off, c, rfl, h1, h2, h3, h4, h5, h6⟩ := h
  refine ⟨_, c, rfl, h1, h2, fun _ => ⟨g, off, rfl, h3, h4, fun j hj => ⟨h5 j (by omega), (h6 j (by omega)).2⟩⟩⟩
theorem OwnQ.one (w : World) (x : Int) (t : TypeId) {g : Nat} (hg : w.heap.size = g) (hb : base ≤ g) : OwnQ (w.alloc (.cells #[.int .i64 x] t)) base (.slice (some ⟨g, 0, none⟩) 1 1) [x] := by
  subst hg
  have h1 : (w.alloc (.cells #[.int .i64 x] t)).cell? ⟨w.heap.size, 0, none⟩ = some (.int .i64 x) := by rw [World.cell?_alloc_at _ _ _ _ rfl]; rfl
  refine ⟨w.heap.size, 0, 1, rfl, Nat.le_refl _, by unfold maxLen; omega, hb, by simp, fun j hj => ?_, fun j hj => ?_⟩
  · obtain rfl : j = 0 := by simp at hj; omega
    exact h1
  · obtain rfl : j = 0 := by omega
    exact ⟨by rw [h1]; rfl, World.frozen?_alloc_at _ _ _ _ rfl⟩
theorem OwnQ.lt (h : OwnQ w base v zs) : ∀ k, v.ownBlock = some k → base ≤ k ∧ k < w.heap.size := by
  obtain ⟨g, off, c, rfl, h1, h2, h3, h4, h5, h6⟩ := h
  intro k hk
  obtain rfl : g = k := by simpa [Value.ownBlock] using hk
  exact ⟨h3, h4⟩
/-- the head is cut off -/
theorem OwnQ.tail {g off n c : Nat} {x : Int} (h : OwnQ w base (.slice (some ⟨g, off, none⟩) n c) (x :: zs)) : OwnQ w base (.slice (if c = 1 then some ⟨g, off, none⟩ else some ⟨g, off + 1, none⟩) (n - 1) (c - 1)) zs := by
  obtain ⟨g', off', c', e, h1, h2, h3, h4, h5, h6⟩ := h
  injection e with e1 e2 e3
  injection e1 with e1
  injection e1 with e4 e5
  subst e2 e3 e4 e5
  simp only [List.length_cons] at *
  by_cases hc : c = 1
  · rw [if_pos hc]
    refine ⟨g, off, c - 1, by simp, by omega, by omega, h3, h4, fun j hj => absurd hj (by omega), fun j hj => absurd hj (by omega)⟩
  · rw [if_neg hc]
    refine ⟨g, off + 1, c - 1, by simp, by omega, by omega, h3, h4, fun j hj => ?_, fun j hj => ?_⟩
    · have := h5 (j + 1) (by omega)
      rwa [nth_cons_succ, show off + (j + 1) = off + 1 + j by omega] at this
    · have := h6 (j + 1) (by omega)
      rwa [show off + (j + 1) = off + 1 + j by omega] at this
end

/-- append of one number onto a queue, the number just laid in a block of its own -/
theorem append_q {P : Program} {ops : Array Oper} {rest : List Oper} {o : Oper} {a : Act} {Q : Exit → Act → World → Prop} {t e : TypeId} {bytes : Nat}
    (ht : P.underlying t = some (.slice e)) (hinfo : (P.info? e).map (fun i => (i.zero, i.size, i.bytes)) = some (some (.int .i64 0), 1, bytes)) (hby : bytes ≤ 64)
    (w : World) (hgd : o.guard = none) {s : Operand} (x : Operand) (ho : o.op = .call { callee := .builtin .append, args := #[s, x], argTypes := #[t, t] })
    {base : Nat} {v : Value} {zs : List Int} (hown : OwnQ w base v zs) (z : Int) (te : TypeId) (hs : a.eval s = v) (hx : a.eval x = .slice (some ⟨w.heap.size, 0, none⟩) 1 1)
    (hlen : zs.length < 1099511627776)
    (h : ∀ v' w', OwnQ w' base v' (zs ++ [z]) → w.grownBy w' v.ownBlock → (∀ k, v'.ownBlock = some k → v.ownBlock = some k ∨ w.heap.size ≤ k) → wpList P ops Q rest (a.put o.dst v') w') :
    wpList P ops Q (o :: rest) a (w.alloc (.cells #[.int .i64 z] te)) := by
  obtain ⟨i, hi, hzz⟩ := Option.map_eq_some_iff.1 hinfo
  simp only [Prod.mk.injEq] at hzz
  obtain ⟨hz, hsz, hb⟩ := hzz
  have hown2 := hown.alloc (.cells #[.int .i64 z] te)
  obtain ⟨g, off, c, rfl, h1, h2, h3, h4, h5, h6⟩ := hown2
  have hgw : g < w.heap.size := by
    obtain ⟨g', off', c', e, _, _, _, q, _⟩ := hown
    injection e with e1 _ _
    injection e1 with e1
    injection e1 with e1 _
    omega
  have hnew : (w.alloc (.cells #[.int .i64 z] te)).cell? ⟨w.heap.size, 0, none⟩ = some (.int .i64 z) := by rw [World.cell?_alloc_at _ _ _ _ rfl]; rfl
  refine wpList_append_arg (w.alloc (.cells #[.int .i64 z] te)) hgd s x t ho e i (.int .i64 0) 1 bytes ht hi hz hsz hb rfl (by omega) g off zs.length c (zs.map (Value.int .i64)) hs (by simp) ?_ ⟨w.heap.size, 0, none⟩ 1 1 [.int .i64 z] hx rfl ?_ ?_ ?_ ?_ ?_ ?_ ?_
  · intro j u hj
    have hjl : j < zs.length := by have := (List.getElem?_eq_some_iff.1 hj).1; simpa using this
    rw [List.getElem?_map, nth_get? hjl] at hj
    rw [h5 j hjl]
    exact hj
  · intro j u hj
    match j, hj with
    | 0, hj =>
      simp only [List.getElem?_cons_zero, Option.some.injEq] at hj
      subst hj
      exact hnew
  · intro u hu
    simp only [List.mem_singleton] at hu
    subst hu
    rfl
  · intro hr j hj
    obtain rfl : j = 0 := by simp at hj; omega
    have := h6 zs.length (by omega)
    simpa using this
  · unfold maxLen; omega
  · have : (zs.length + 1) * bytes ≤ 1099511627776 * 64 := Nat.mul_le_mul (by omega) hby
    omega
  · intro hr
    simp only [Nat.mul_one]
    refine h _ _ ⟨g, off, c, by simp, by simpa using hr, h2, h3, ?_, fun j hj => ?_, fun j hj => ?_⟩ ?_ (fun k hk => .inl hk)
    · simp [World.setCells, World.setCell]; omega
    · simp only [World.setCells]
      by_cases ej : j = zs.length
      · subst ej
        rw [nth_append_at]
        obtain ⟨u, hu⟩ := Option.isSome_iff_exists.1 (h6 zs.length (by omega)).1
        exact World.cell?_setCell_same _ _ _ hu
      · rw [World.cell?_setCell_other _ _ _ _ (by intro e; injection e with _ e _; omega), nth_append_left (by simp at hj; omega)]
        exact h5 j (by simp at hj; omega)
    · simp only [World.setCells]
      rw [World.frozen?_setCell]
      refine ⟨?_, (h6 j hj).2⟩
      by_cases ej : j = zs.length
      · subst ej
        obtain ⟨u, hu⟩ := Option.isSome_iff_exists.1 (h6 zs.length (by omega)).1
        rw [World.cell?_setCell_same _ _ _ hu]; rfl
      · rw [World.cell?_setCell_other _ _ _ _ (by intro e; injection e with _ e _; omega)]
        exact (h6 j hj).1
    · refine ⟨rfl, rfl, rfl, by simp [World.setCells, World.setCell], fun k hk hne => ?_⟩
      simp only [World.setCells]
      rw [Below.heap_setCell _ _ _ _ (by rintro rfl; exact hne rfl)]
      exact Below.heap_alloc _ _ _ hk
  · intro hr v' w' ho' hg'
    refine h v' w' ?_ ⟨hg'.os, hg'.tape, hg'.output, Nat.le_trans (by simp) hg'.size, fun k hk _ => (hg'.block k (by simp; omega) (by simp)).trans (Below.heap_alloc _ _ _ hk)⟩ (fun k hk => .inr (by have := (ho'.lt k hk).1; simp at this; omega))
    rcases ho'.2 with ⟨_, hn⟩ | ⟨g2, cap, cur, rfl, hg, hh, hn, hm, hs2, ht2⟩
    · omega
    · have hlt := (Array.getElem?_eq_some_iff.1 hh).1
      have hcells : ∀ j, j < cap → ∃ u, w'.cell? ⟨g2, j, none⟩ = some u := fun j hj => by
        rw [cell_of_row w' g2 j cur e (0, 0) hh]
        exact ⟨cur[j]'(by omega), by simp [show j < cur.size by omega]⟩
      refine ⟨g2, 0, cap, by simp, by simpa using hn, hm, ?_, hlt, fun j hj => ?_, fun j hj => ?_⟩
      · simp at hg; omega
      · rw [Nat.zero_add, cell_of_row w' g2 j cur e (0, 0) hh]
        have hj2 : j < zs.length + 1 := by simpa using hj
        have hx : (zs.map (Value.int .i64) ++ [.int .i64 z])[j]? = some (.int .i64 (nth (zs ++ [z]) j)) := by
          rw [show zs.map (Value.int .i64) ++ [.int .i64 z] = (zs ++ [z]).map (Value.int .i64) by simp, List.getElem?_map, nth_get? hj]; rfl
        rw [← ht2, List.getElem?_take_of_lt (by omega)] at hx
        simpa using hx
      · rw [Nat.zero_add]
        obtain ⟨u, hu⟩ := hcells j hj
        exact ⟨by rw [hu]; rfl, by simp [World.frozen?, hh]⟩

end Go.Proofs.YtbbdhcfbdndhlaaDoor
