/-
  Rows that a call owns and appends to, one cell an element; the law of an append of one element at the operation. No condition on any program; used by the walks of this seat.
-/
import Derived.Test.YtbbdhcfbdndhlaaDoorMem
import Derived.Maps.AppendAt
import Derived.Maps.OwnSet
import Derived.Maps.OwnOps
import Derived.Maps.Views
import Derived.OwnWalk
import Derived.Laws.NewBlocks
namespace Go.Proofs.YtbbdhcfbdndhlaaDoor
open Go.RowKit

/-- v is a slice whose row the call owns, from block base on; it holds the one-cell values xs -/
def Own (w : World) (base : Nat) (e : TypeId) (v : Value) (xs : List Value) : Prop := w.ownsRow base e 1 v xs.length xs

theorem Own.nil (w : World) (base : Nat) (e : TypeId) : Own w base e (.slice none 0 0) [] := World.ownsRow_nil w base e 1
section
variable {w w' : World} {base : Nat} {e : TypeId} {v : Value} {xs : List Value}
theorem Own.kept {row : Option Nat} (h : Own w base e v xs) (hg : w.grownBy w' row) (hne : v.ownBlock = none ∨ v.ownBlock ≠ row) : Own w' base e v xs := World.ownsRow.kept h hg hne
theorem Own.alloc (h : Own w base e v xs) (o : Obj) : Own (w.alloc o) base e v xs := World.ownsRow.alloc h o
theorem Own.lt (h : Own w base e v xs) : ∀ k, v.ownBlock = some k → base ≤ k ∧ k < w.heap.size := World.ownsRow.lt h
theorem Own.form (h : Own w base e v xs) : ∃ A c, v = .slice A xs.length c ∧ xs.length ≤ c ∧ c ≤ maxLen ∧
    (0 < xs.length → ∃ b, A = some ⟨b, 0, none⟩ ∧ base ≤ b ∧ b < w.heap.size ∧ ∀ j u, xs[j]? = some u → w.cell? ⟨b, j, none⟩ = some u ∧ w.frozen? ⟨b, j, none⟩ = false) := by
  obtain ⟨h1, h2⟩ := h
  rcases h2 with ⟨rfl, hn⟩ | ⟨g, cap, cur, rfl, hg, hh, hn, hm, hs, ht⟩
  · rw [hn]
    exact ⟨_, _, rfl, Nat.le_refl _, by simp, fun h => absurd h (by omega)⟩
  · refine ⟨_, _, rfl, hn, hm, fun hpos => ⟨g, rfl, hg, (Array.getElem?_eq_some_iff.1 hh).1, fun j u hu => ?_⟩⟩
    have hj : j < xs.length := (List.getElem?_eq_some_iff.1 hu).1
    refine ⟨?_, by simp [World.frozen?, hh]⟩
    rw [cell_of_row w g j cur e (0, 0) hh]
    rw [← ht, List.getElem?_take_of_lt (by omega)] at hu
    simpa using hu
theorem Own.block (h : Own w base e v xs) : v.ownBlock = none ∨ ∃ g, v.ownBlock = some g ∧ base ≤ g ∧ g < w.heap.size := by
  cases hv : v.ownBlock with
  | none => exact .inl rfl
  | some g => exact .inr ⟨g, rfl, h.lt g hv⟩
end

/-- append of one element onto a row of the call's own, the element just laid in a block of its own -/
theorem append1 {P : Program} {ops : Array Oper} {rest : List Oper} {o : Oper} {a : Act} {Q : Exit → Act → World → Prop} {t e : TypeId} {z : Value} {bytes : Nat}
    (ht : P.underlying t = some (.slice e)) (hinfo : (P.info? e).map (fun i => (i.zero, i.size, i.bytes)) = some (some z, 1, bytes)) (hz1 : z.cells.size = 1) (hby : bytes ≤ 64)
    (w : World) (hgd : o.guard = none) {s : Operand} (x : Operand) (ho : o.op = .call { callee := .builtin .append, args := #[s, x], argTypes := #[t, t] })
    {base : Nat} {v : Value} {xs : List Value} (hown : Own w base e v xs) (u : Value) (te : TypeId) (hs : a.eval s = v) (hx : a.eval x = .slice (some ⟨w.heap.size, 0, none⟩) 1 1)
    (hu : u.oneCell' = true) (hlen : xs.length < 1099511627776) (hbase : base ≤ w.heap.size)
    (h : ∀ v' w', Own w' base e v' (xs ++ [u]) → w.grownBy w' v.ownBlock → (v'.ownBlock = v.ownBlock ∨ v'.ownBlock = some (w.heap.size + 1)) → wpList P ops Q rest (a.put o.dst v') w') :
    wpList P ops Q (o :: rest) a (w.alloc (.cells #[u] te)) := by
  obtain ⟨i, hi, hzz⟩ := Option.map_eq_some_iff.1 hinfo
  simp only [Prod.mk.injEq] at hzz
  obtain ⟨hz, hsz, hb⟩ := hzz
  refine wpList_append_own_at (w.alloc (.cells #[u] te)) hgd s x t ho base e i z 1 bytes ht hi hz hsz hb hz1 (by omega) v xs.length xs hs (World.ownsRow.alloc hown _) ⟨w.heap.size, 0, none⟩ 1 1 [u] hx rfl ?_ ?_ ?_ ?_ ?_ ?_
  · intro j u' hj
    match j, hj with
    | 0, hj =>
      simp only [List.getElem?_cons_zero, Option.some.injEq] at hj
      subst hj
      rw [show (⟨w.heap.size, 0, none⟩ : Addr).add 0 = ⟨w.heap.size, 0, none⟩ from rfl, World.cell?_alloc_at _ _ _ _ rfl]
      rfl
  · intro u' hu'
    simp only [List.mem_singleton] at hu'
    subst hu'
    exact hu
  · unfold maxLen; omega
  · have : (xs.length + 1) * bytes ≤ 1099511627776 * 64 := Nat.mul_le_mul (by omega) hby
    omega
  · simp; omega
  · intro v' w' h1 h2 _ h4
    refine h v' w' (by simpa [Own] using h1) ?_ (by simpa using h4)
    exact ⟨h2.os, h2.tape, h2.output, Nat.le_trans (by simp) h2.size, fun k hk hne => (h2.block k (by simp; omega) hne).trans (Below.heap_alloc _ _ _ hk)⟩

/-- rows of integers -/
def OwnI (w : World) (base : Nat) (e : TypeId) (v : Value) (zs : List Int) : Prop := Own w base e v (zs.map (Value.int .i64))
section
variable {w w' : World} {base : Nat} {e : TypeId} {v : Value} {zs : List Int}
theorem OwnI.nil (w : World) (base : Nat) (e : TypeId) : OwnI w base e (.slice none 0 0) [] := Own.nil w base e
theorem OwnI.kept {row : Option Nat} (h : OwnI w base e v zs) (hg : w.grownBy w' row) (hne : v.ownBlock = none ∨ v.ownBlock ≠ row) : OwnI w' base e v zs := Own.kept h hg hne
theorem OwnI.block (h : OwnI w base e v zs) : v.ownBlock = none ∨ ∃ g, v.ownBlock = some g ∧ base ≤ g ∧ g < w.heap.size := Own.block h
theorem OwnI.ints (h : OwnI w base e v zs) : IntS w base w.heap.size v zs := IntS.of_own (by simpa [OwnI, Own] using h)
theorem OwnI.lt (h : OwnI w base e v zs) : ∀ k, v.ownBlock = some k → base ≤ k ∧ k < w.heap.size := World.ownsRow.lt h
theorem OwnI.drewN (h : OwnI w base e v zs) (k : Nat) : OwnI (w.drewN k) base e v zs := h
end

theorem append_int {P : Program} {ops : Array Oper} {rest : List Oper} {o : Oper} {a : Act} {Q : Exit → Act → World → Prop} {t e : TypeId} {bytes : Nat}
    (ht : P.underlying t = some (.slice e)) (hinfo : (P.info? e).map (fun i => (i.zero, i.size, i.bytes)) = some (some (.int .i64 0), 1, bytes)) (hby : bytes ≤ 64)
    (w : World) (hgd : o.guard = none) {s : Operand} (x : Operand) (ho : o.op = .call { callee := .builtin .append, args := #[s, x], argTypes := #[t, t] })
    {base : Nat} {v : Value} {zs : List Int} (hown : OwnI w base e v zs) (z : Int) (te : TypeId) (hs : a.eval s = v) (hx : a.eval x = .slice (some ⟨w.heap.size, 0, none⟩) 1 1)
    (hlen : zs.length < 1099511627776) (hbase : base ≤ w.heap.size)
    (h : ∀ v' w', OwnI w' base e v' (zs ++ [z]) → w.grownBy w' v.ownBlock → (v'.ownBlock = v.ownBlock ∨ v'.ownBlock = some (w.heap.size + 1)) → wpList P ops Q rest (a.put o.dst v') w') :
    wpList P ops Q (o :: rest) a (w.alloc (.cells #[.int .i64 z] te)) :=
  append1 ht hinfo rfl hby w hgd x ho hown (.int .i64 z) te hs hx rfl (by simpa using hlen) hbase fun v' w' h1 h2 h3 => h v' w' (by unfold OwnI; simpa using h1) h2 h3

/-- two slices whose rows do not share a block -/
def Apart (v1 v2 : Value) : Prop := v1.ownBlock = none ∨ v2.ownBlock = none ∨ v1.ownBlock ≠ v2.ownBlock
theorem Apart.symm {v1 v2 : Value} (h : Apart v1 v2) : Apart v2 v1 := by
  rcases h with h | h | h
  · exact .inr (.inl h)
  · exact .inl h
  · exact .inr (.inr fun e => h e.symm)
theorem Apart.nil_left (v : Value) : Apart (.slice none 0 0) v := .inl rfl
theorem Apart.nil_right (v : Value) : Apart v (.slice none 0 0) := .inr (.inl rfl)
theorem Apart.keeps {v1 v2 : Value} (h : Apart v1 v2) : v1.ownBlock = none ∨ v1.ownBlock ≠ v2.ownBlock := by
  rcases h with h | h | h
  · exact .inl h
  · cases hv : v1.ownBlock with
    | none => exact .inl rfl
    | some g => right; rw [h]; simp
  · exact .inr h
/-- the second row has grown: its block is the old one or a new one -/
theorem Apart.grow {w : World} {base : Nat} {e : TypeId} {v1 v2 v2' : Value} {xs : List Value} (h : Apart v1 v2) (ho : Own w base e v1 xs) {g : Nat} (hg : w.heap.size ≤ g) (hat : v2'.ownBlock = v2.ownBlock ∨ v2'.ownBlock = some g) : Apart v1 v2' := by
  rcases hat with e | e
  · unfold Apart; rw [e]; exact h
  · right; right; rw [e]; intro h3; have := (ho.lt _ h3).2; omega

/-- a map whose reading answers as the function f does, with n keys -/
structure LMap (D : DataW Unit) (f : Lit → Option Int) (n : Nat) : Prop where
  tidy : Maps.Tidy D
  size : Maps.size D = n
  has : ∀ k, WideAt.IsKeyLit k → Maps.has D k = (f k).isSome
  at_ : ∀ k, WideAt.IsKeyLit k → D.atKey k (.lit (.int .i64 0)) = .lit (.int .i64 ((f k).getD 0))

theorem LMap.empty : LMap (.map []) (fun _ => none) 0 := ⟨Maps.tidy_empty, rfl, fun _ _ => rfl, fun _ _ => rfl⟩
theorem LMap.put {D : DataW Unit} {f g : Lit → Option Int} {n m : Nat} (h : LMap D f n) {k : Lit} (hk : WideAt.IsKeyLit k) (v : Int) (h1 : g k = some v) (h2 : ∀ x, x ≠ k → g x = f x) (hm : m = if (f k).isSome then n else n + 1) :
    LMap (D.put k (.lit (.int .i64 v))) g m := by
  subst hm
  refine ⟨h.tidy.put hk _, ?_, fun x hx => ?_, fun x hx => ?_⟩
  · rw [Maps.size_put h.tidy, h.has k hk, h.size]
  · by_cases e : x = k
    · subst e; rw [Maps.has_put_same h.tidy.isMap hk, h1]; rfl
    · rw [Maps.has_put_other e, h.has x hx, h2 x e]
  · by_cases e : x = k
    · subst e; rw [Maps.atKey_put_same h.tidy.isMap hk, h1]; rfl
    · rw [Maps.atKey_put_other e, h.at_ x hx, h2 x e]
theorem LMap.congr {D : DataW Unit} {f g : Lit → Option Int} {n m : Nat} (h : LMap D f n) (e : ∀ k, f k = g k) (hn : n = m) : LMap D g m := by
  obtain rfl : f = g := funext e
  subst hn
  exact h

end Go.Proofs.YtbbdhcfbdndhlaaDoor
