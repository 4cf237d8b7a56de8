/-
  Rows of text and number that a call owns and appends to. No condition on any program.
-/
import Derived.Test.YtlfdhhmccjkogaaRowS
import Derived.Test.YtlfdhhmccjkogaaOwn
import Derived.Maps.AppendAt
import Derived.Maps.OwnOps
import Derived.Laws.AppendOwnNone
import Derived.Laws.OwnMore
namespace Go.Proofs.Ytlfdhhmccjkogaa
open Go.RowKit
set_option linter.unusedVariables false

/-- append onto a row of the call's own, the new elements' cells known -/
theorem append_rowN {P : Program} {ops : Array Oper} {rest : List Oper} {o : Oper} {a : Act} {Q : Exit → Act → World → Prop} {t e : TypeId} {z : Value} {sz bytes : Nat}
    (ht : P.underlying t = some (.slice e)) (hinfo : (P.info? e).map (fun i => (i.zero, i.size, i.bytes)) = some (some z, sz, bytes)) (hz1 : z.cells.size = sz) (hsz : 0 < sz) (hby : bytes ≤ 64)
    (w : World) (hgd : o.guard = none) {s : Operand} (x : Operand) (ho : o.op = .call { callee := .builtin .append, args := #[s, x], argTypes := #[t, t] })
    {base : Nat} {v : Value} {n : Nat} {xs : List Value} (hown : w.ownsRow base e sz v n xs) (hs : a.eval s = v) {ad : Addr} {m c : Nat} (news : List Value) (hx : a.eval x = .slice (some ad) m c)
    (hl : news.length = m * sz) (hnews : ∀ j u, news[j]? = some u → w.cell? (ad.add j) = some u) (h1 : ∀ u ∈ news, u.oneCell' = true)
    (hlen : n + m ≤ 1099511627776) (hbase : base ≤ w.heap.size)
    (h : ∀ v' w', w'.ownsRow base e sz v' (n + m) (xs ++ news) → w.grownBy w' v.ownBlock → (v'.ownBlock = v.ownBlock ∨ v'.ownBlock = some w.heap.size) → wpList P ops Q rest (a.put o.dst v') w') :
    wpList P ops Q (o :: rest) a w := by
  obtain ⟨i, hi, hzz⟩ := Option.map_eq_some_iff.1 hinfo
  simp only [Prod.mk.injEq] at hzz
  obtain ⟨hz, hsz2, hb⟩ := hzz
  refine wpList_append_own_at w hgd s x t ho base e i z sz bytes ht hi hz hsz2 hb hz1 hsz v n xs hs hown ad m c news hx hl hnews h1 (by unfold maxLen; omega) ?_ hbase ?_
  · have : (n + m) * bytes ≤ 1099511627776 * 64 := Nat.mul_le_mul hlen hby
    omega
  · intro v' w' a1 a2 _ a4
    exact h v' w' a1 a2 a4
/-- the cells of rows -/
def flatR : List (ByteArray × Int) → List Value
  | [] => []
  | p :: l => .string p.1 :: .int .i64 p.2 :: flatR l
theorem flatR_length : ∀ l : List (ByteArray × Int), (flatR l).length = l.length * 2
  | [] => rfl
  | p :: l => by simp only [flatR, List.length_cons]; rw [flatR_length l]; omega
theorem flatR_app : ∀ (l m : List (ByteArray × Int)), flatR (l ++ m) = flatR l ++ flatR m
  | [], m => rfl
  | x :: l, m => by show _ :: _ :: flatR (l ++ m) = _; rw [flatR_app l m]; rfl
theorem flatR_get : ∀ (l : List (ByteArray × Int)) (j : Nat), j < l.length * 2 → (flatR l)[j]? = some (rowCell l j)
  | [], j, h => absurd h (by simp)
  | p :: l, 0, h => rfl
  | p :: l, 1, h => rfl
  | p :: l, j + 2, h => by
    have := flatR_get l j (by simp only [List.length_cons] at h; omega)
    show (flatR l)[j]? = _
    rw [this]
    unfold rowCell
    rw [show (j + 2) % 2 = j % 2 by omega, show (j + 2) / 2 = j / 2 + 1 by omega]
    rfl
theorem flatR_one : ∀ (l : List (ByteArray × Int)) (u : Value), u ∈ flatR l → u.oneCell' = true
  | [], u, h => by cases h
  | p :: l, u, h => by
    simp only [flatR, List.mem_cons] at h
    rcases h with rfl | rfl | h
    · rfl
    · rfl
    · exact flatR_one l u h
/-- a row of rows that the call owns -/
def OwnR (w : World) (base : Nat) (e : TypeId) (v : Value) (l : List (ByteArray × Int)) : Prop := w.ownsRow base e 2 v l.length (flatR l)
section
variable {w w' : World} {lo hi base : Nat} {v : Value} {l : List (ByteArray × Int)} {e : TypeId} {row : Option Nat}
theorem OwnR.nil (w : World) (base : Nat) (e : TypeId) : OwnR w base e (.slice none 0 0) [] := World.ownsRow_nil w base e 2
theorem OwnR.emptyB (w : World) (base : Nat) (e : TypeId) {g : Nat} (hg : w.heap.size = g) (hb : base ≤ g) : OwnR (w.alloc (.cells #[] e)) base e (.slice (some ⟨g, 0, none⟩) 0 0) [] := by
  subst hg
  refine ⟨by simp [flatR], .inr ⟨w.heap.size, 0, #[], by simp, hb, heap_alloc_new w _, by simp, by simp, by simp, by simp [flatR]⟩⟩
theorem OwnR.lt (h : OwnR w base e v l) : ∀ k, v.ownBlock = some k → base ≤ k ∧ k < w.heap.size := World.ownsRow.lt h
theorem OwnR.alloc (h : OwnR w base e v l) (o : Obj) : OwnR (w.alloc o) base e v l := World.ownsRow.alloc h o
theorem OwnR.kept {row : Option Nat} (h : OwnR w base e v l) (hg : w.grownBy w' row) (hne : v.ownBlock = none ∨ v.ownBlock ≠ row) : OwnR w' base e v l := World.ownsRow.kept h hg hne
theorem OwnR.still (h : OwnR w base e v l) (hg : w.grownBy w' none) : OwnR w' base e v l := h.kept hg (by
  cases hv : v.ownBlock with
  | none => exact .inl rfl
  | some g => right; simp)
theorem OwnR.rows (h : OwnR w base e v l) : RowS w base w.heap.size v l := Sl.of_own h fun j hj => flatR_get l j hj
theorem OwnR.len (h : OwnR w base e v l) : ∃ A c, v = .slice A l.length c ∧ l.length ≤ c ∧ c ≤ maxLen := by
  obtain ⟨A, c, e, h1, h2, _⟩ := h.rows.form
  exact ⟨A, c, e, h1, h2⟩
end
theorem run_append_nothing {P : Program} {w : World} (base : Nat) (t ty e : TypeId) (i : TypeInfo) (size : Nat) (ht : P.underlying t = some (.slice e)) (hi : P.info? e = some i)
    (v : Value) (n : Nat) (xs : List Value) (hown : w.ownsRow base e size v n xs) (A : Option Addr) (c : Nat) :
    (Builtin.append_ #[t, t] ty #[v, .slice A 0 c]).run P w = .ok v w := by
  rcases hown.2 with ⟨rfl, rfl⟩ | ⟨g, cap, cur, rfl, _, _, hnc, _⟩
  · cases A <;> simp [Builtin.append_, run_underlying ht, sizeOf, typeInfo, hi, Builtin.lenOf, Builtin.firstCells, loadCells, loadCellsFrom]
  · cases A <;> simp [Builtin.append_, run_underlying ht, sizeOf, typeInfo, hi, Builtin.lenOf, Builtin.firstCells, hnc, storeCells, loadCells, loadCellsFrom]
/-- append of a slice of rows -/
theorem append_rows {P : Program} {ops : Array Oper} {rest : List Oper} {o : Oper} {a : Act} {Q : Exit → Act → World → Prop} {t e : TypeId} {z : Value} {bytes : Nat}
    (ht : P.underlying t = some (.slice e)) (hinfo : (P.info? e).map (fun i => (i.zero, i.size, i.bytes)) = some (some z, 2, bytes)) (hz1 : z.cells.size = 2) (hby : bytes ≤ 64)
    (w : World) (hgd : o.guard = none) {s : Operand} (x : Operand) (ho : o.op = .call { callee := .builtin .append, args := #[s, x], argTypes := #[t, t] })
    {base : Nat} {v : Value} {l : List (ByteArray × Int)} (hown : OwnR w base e v l) (hs : a.eval s = v) {lo hi : Nat} {A : Option Addr} {m c : Nat} {ys : List (ByteArray × Int)} (hy : RowS w lo hi (.slice A m c) ys) (hx : a.eval x = .slice A m c)
    (hlen : l.length + ys.length ≤ 1099511627776) (hbase : base ≤ w.heap.size)
    (h : ∀ v' w', OwnR w' base e v' (l ++ ys) → w.grownBy w' v.ownBlock → (v'.ownBlock = v.ownBlock ∨ v'.ownBlock = some w.heap.size) → wpList P ops Q rest (a.put o.dst v') w') :
    wpList P ops Q (o :: rest) a w := by
  obtain ⟨A', c', e1, h1, h2, h3⟩ := hy.form
  injection e1 with e2 e3 e4
  subst e2 e3 e4
  by_cases h0 : ys = []
  · subst h0
    obtain ⟨i, hi, hzz⟩ := Option.map_eq_some_iff.1 hinfo
    refine wpList_plain hgd fun K hK => ?_
    have hrun := run_append_nothing (P := P) (w := w) base t o.type e i 2 ht hi v l.length (flatR l) hown A c
    simp only [List.length_nil] at hx
    unfold Oper.wp
    simp [execOp, ho, resolve, invoke, builtin, hs, hx, hrun, Result.andThen]
    exact hK _ _ (h v w (by rw [List.append_nil]; exact hown) (World.grownBy.refl _ _) (.inl rfl))
  · obtain ⟨b, off, rfl, hb1, hb2, hc⟩ := h3 (List.length_pos_iff.2 h0)
    refine append_rowN ht hinfo hz1 (by omega) hby w hgd x ho hown hs (flatR ys) hx (flatR_length ys) ?_ (flatR_one ys) hlen hbase fun v' w' a1 a2 a3 => h v' w' ?_ a2 a3
    · intro j u hj
      have hj2 : j < ys.length * 2 := by
        have := (List.getElem?_eq_some_iff.1 hj).1
        rw [flatR_length] at this; omega
      rw [flatR_get ys j hj2] at hj
      injection hj with hj
      subst hj
      rw [show (⟨b, off, none⟩ : Addr).add j = ⟨b, off + j, none⟩ from Go.WideShapes.add_plain b off j]
      have hk := hc (j / 2) (by omega)
      unfold rowCell
      split
      · rename_i hm
        have := hk.1
        rwa [show off + j / 2 * 2 = off + j by omega] at this
      · rename_i hm
        have := hk.2
        rwa [show off + j / 2 * 2 + 1 = off + j by omega] at this
    · unfold OwnR
      rw [flatR_app, List.length_append]
      exact a1
/-- append of one row, just laid in a block of its own -/
theorem append_rw1 {P : Program} {ops : Array Oper} {rest : List Oper} {o : Oper} {a : Act} {Q : Exit → Act → World → Prop} {t e : TypeId} {z : Value} {bytes : Nat}
    (ht : P.underlying t = some (.slice e)) (hinfo : (P.info? e).map (fun i => (i.zero, i.size, i.bytes)) = some (some z, 2, bytes)) (hz1 : z.cells.size = 2) (hby : bytes ≤ 64)
    (w : World) (hgd : o.guard = none) {s : Operand} (x : Operand) (ho : o.op = .call { callee := .builtin .append, args := #[s, x], argTypes := #[t, t] })
    {base : Nat} {v : Value} {l : List (ByteArray × Int)} (hown : OwnR w base e v l) (p : ByteArray × Int) (te : TypeId) (hs : a.eval s = v) (hx : a.eval x = .slice (some ⟨w.heap.size, 0, none⟩) 1 1)
    (hlen : l.length < 1099511627776) (hbase : base ≤ w.heap.size)
    (h : ∀ v' w', OwnR w' base e v' (l ++ [p]) → w.grownBy w' v.ownBlock → (v'.ownBlock = v.ownBlock ∨ v'.ownBlock = some (w.heap.size + 1)) → wpList P ops Q rest (a.put o.dst v') w') :
    wpList P ops Q (o :: rest) a (w.alloc (.cells #[.string p.1, .int .i64 p.2] te)) := by
  refine append_rowN ht hinfo hz1 (by omega) hby _ hgd x ho (hown.alloc _) hs [.string p.1, .int .i64 p.2] hx rfl ?_ ?_ (by omega) (by simp; omega) fun v' w' a1 a2 a3 => h v' w' ?_ ?_ ?_
  · intro j u hj
    rw [show (⟨w.heap.size, 0, none⟩ : Addr).add j = ⟨w.heap.size, j, none⟩ by simp [Addr.add, eq_comm], World.cell?_alloc_at _ _ _ _ rfl]
    simpa using hj
  · intro u hu
    simp only [List.mem_cons, List.not_mem_nil, or_false] at hu
    rcases hu with rfl | rfl <;> rfl
  · unfold OwnR
    rw [flatR_app, List.length_append]
    exact a1
  · exact ⟨a2.os, a2.tape, a2.output, Nat.le_trans (by simp) a2.size, fun k hk hne => (a2.block k (by simp; omega) hne).trans (Below.heap_alloc _ _ _ hk)⟩
  · simpa using a3

end Go.Proofs.Ytlfdhhmccjkogaa
