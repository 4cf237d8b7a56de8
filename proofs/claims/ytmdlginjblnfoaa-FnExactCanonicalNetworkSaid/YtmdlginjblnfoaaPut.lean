/-
  Appends of whole slices of numbers onto rows of a call's own; the reference's l1Put: a number put into an increasing list.
-/
import Derived.Test.YtmdlginjblnfoaaBasics
import Derived.Laws.AppendOwnNone
namespace Go.Proofs.Ytmdlginjblnfoaa
open Go.ChangeShapes Go.WideShapes Go.ChangeAt Go.RowKit
set_option linter.unusedVariables false

theorem OwnI.lower {w : World} {base b' : Nat} {e : TypeId} {v : Value} {zs : List Int} (h : OwnI w base e v zs) (hb : b' ≤ base) : OwnI w b' e v zs := by
  obtain ⟨h1, h2⟩ := h
  refine ⟨h1, ?_⟩
  rcases h2 with h2 | ⟨g, cap, cur, e1, hg, r⟩
  · exact .inl h2
  · exact .inr ⟨g, cap, cur, e1, by omega, r⟩
theorem OwnI.empty (w : World) (base : Nat) (e : TypeId) {g : Nat} (hg : w.heap.size = g) (hb : base ≤ g) : OwnI (w.alloc (.cells #[] e)) base e (.slice (some ⟨g, 0, none⟩) 0 0) [] := by
  subst hg
  refine ⟨by simp, .inr ⟨w.heap.size, 0, #[], by simp, hb, heap_alloc_new w _, by simp, by simp, by simp, by simp⟩⟩
/-- append of a slice of numbers that is known cell by cell -/
theorem append_ints {P : Program} {ops : Array Oper} {rest : List Oper} {o : Oper} {a : Act} {Q : Exit → Act → World → Prop} {t e : TypeId} {bytes : Nat}
    (ht : P.underlying t = some (.slice e)) (hinfo : (P.info? e).map (fun i => (i.zero, i.size, i.bytes)) = some (some (.int .i64 0), 1, bytes)) (hby : bytes ≤ 64)
    (w : World) (hgd : o.guard = none) {s : Operand} (x : Operand) (ho : o.op = .call { callee := .builtin .append, args := #[s, x], argTypes := #[t, t] })
    {base : Nat} {v : Value} {zs : List Int} (hown : OwnI w base e v zs) (hs : a.eval s = v) {g off m c : Nat} (ys : List Int) (hm : ys.length = m) (hx : a.eval x = .slice (some ⟨g, off, none⟩) m c)
    (hcell : ∀ j, j < m → w.cell? ⟨g, off + j, none⟩ = some (.int .i64 (nth ys j))) (hlen : zs.length + m ≤ 1099511627776) (hbase : base ≤ w.heap.size)
    (h : ∀ v' w', OwnI w' base e v' (zs ++ ys) → w.grownBy w' v.ownBlock → wpList P ops Q rest (a.put o.dst v') w') :
    wpList P ops Q (o :: rest) a w := by
  refine append_row ht hinfo rfl (by omega) hby w hgd x ho hown hs (ys.map (Value.int .i64)) hx (by simp [hm]) ?_ ?_ (by simpa using hlen) hbase fun v' w' a1 a2 _ => h v' w' ?_ a2
  · intro j u hj
    have hjl : j < ys.length := by have := (List.getElem?_eq_some_iff.1 hj).1; simpa using this
    rw [List.getElem?_map, nth_get? hjl] at hj
    rw [show (⟨g, off, none⟩ : Addr).add j = ⟨g, off + j, none⟩ from Go.WideShapes.add_plain g off j, hcell j (by omega)]
    exact hj
  · intro u hu
    obtain ⟨z, _, rfl⟩ := List.mem_map.1 hu
    rfl
  · unfold OwnI Own
    rw [List.map_append]
    simpa [hm] using a1
/-- how many numbers at the head of a list are less -/
def putK (zs : List Int) (x : Int) : Nat := (zs.takeWhile fun y => decide (y < x)).length
theorem putK_le (zs : List Int) (x : Int) : putK zs x ≤ zs.length := (List.takeWhile_prefix _).length_le
theorem putK_is {zs : List Int} {x : Int} {k : Nat} (hk : k ≤ zs.length) (h1 : ∀ j, j < k → nth zs j < x) (h2 : k < zs.length → ¬ nth zs k < x) : putK zs x = k := by
  unfold putK
  induction zs generalizing k with
  | nil => simp at hk; simp [hk]
  | cons z zs ih =>
    cases k with
    | zero =>
      have := h2 (by simp)
      rw [nth_cons_zero] at this
      simp [this]
    | succ k =>
      have h0 := h1 0 (by omega)
      rw [nth_cons_zero] at h0
      rw [List.takeWhile_cons, if_pos (by simpa using h0), List.length_cons, ih (k := k) (by simpa using hk) (fun j hj => by have := h1 (j + 1) (by omega); rwa [nth_cons_succ] at this) (fun hl => by have := h2 (by simpa using hl); rwa [nth_cons_succ] at this)]
def putL (zs : List Int) (x : Int) : List Int := if putK zs x < zs.length ∧ nth zs (putK zs x) = x then zs else zs.take (putK zs x) ++ [x] ++ zs.drop (putK zs x)
theorem putL_len (zs : List Int) (x : Int) : (putL zs x).length ≤ zs.length + 1 := by
  unfold putL; split
  · omega
  · have := putK_le zs x; simp; omega

end Go.Proofs.Ytmdlginjblnfoaa
