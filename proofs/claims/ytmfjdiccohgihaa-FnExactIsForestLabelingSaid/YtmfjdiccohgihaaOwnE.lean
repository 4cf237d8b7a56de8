/-
  Rows of ends that a call owns and appends to. No condition on any program.
-/
import Derived.Test.YtmfjdiccohgihaaTrS
import Derived.Test.YtmfjdiccohgihaaOwnES
namespace Go.Proofs.Ytmfjdiccohgihaa
open Go.RowKit
set_option linter.unusedVariables false

/-- the cells of ends -/
def flatP : List Po → List Value
  | [] => []
  | p :: l => .int .i64 (p.1 : Int) :: .int .i64 (p.2 : Int) :: flatP l
theorem flatP_length : ∀ l : List Po, (flatP l).length = l.length * 2
  | [] => rfl
  | p :: l => by simp only [flatP, List.length_cons]; rw [flatP_length l]; omega
theorem flatP_snoc : ∀ (l : List Po) (p : Po), flatP (l ++ [p]) = flatP l ++ [.int .i64 (p.1 : Int), .int .i64 (p.2 : Int)]
  | [], p => rfl
  | x :: l, p => by show _ :: _ :: flatP (l ++ [p]) = _; rw [flatP_snoc l p]; rfl
theorem flatP_get : ∀ (l : List Po) (j : Nat), j < l.length * 2 → (flatP l)[j]? = some (endCell (castL l) j)
  | [], j, h => absurd h (by simp)
  | p :: l, 0, h => rfl
  | p :: l, 1, h => rfl
  | p :: l, j + 2, h => by
    have := flatP_get l j (by simp only [List.length_cons] at h; omega)
    show (flatP l)[j]? = _
    rw [this]
    unfold endCell
    rw [show (j + 2) % 2 = j % 2 by omega, show (j + 2) / 2 = j / 2 + 1 by omega]
    rfl
/-- a row of ends that the call owns -/
def OwnE (w : World) (base : Nat) (e : TypeId) (v : Value) (l : List Po) : Prop := w.ownsRow base e 2 v l.length (flatP l)
section
variable {w w' : World} {lo hi base : Nat} {v : Value} {l : List Po} {e : TypeId} {row : Option Nat}
theorem OwnE.nil (w : World) (base : Nat) (e : TypeId) : OwnE w base e (.slice none 0 0) [] := World.ownsRow_nil w base e 2
theorem OwnE.lt (h : OwnE w base e v l) : ∀ k, v.ownBlock = some k → base ≤ k ∧ k < w.heap.size := World.ownsRow.lt h
theorem OwnE.alloc (h : OwnE w base e v l) (o : Obj) : OwnE (w.alloc o) base e v l := World.ownsRow.alloc h o
theorem OwnE.kept {row : Option Nat} (h : OwnE w base e v l) (hg : w.grownBy w' row) (hne : v.ownBlock = none ∨ v.ownBlock ≠ row) : OwnE w' base e v l := World.ownsRow.kept h hg hne
theorem OwnE.still (h : OwnE w base e v l) (hg : w.grownBy w' none) : OwnE w' base e v l := h.kept hg (by
  cases hv : v.ownBlock with
  | none => exact .inl rfl
  | some g => right; simp)
theorem OwnE.far (h : OwnE w base e v l) (hg : w.grownBy w' row) (hr : ∀ g, row = some g → v.ownBlock ≠ some g) : OwnE w' base e v l := h.kept hg (by
  cases hv : v.ownBlock with
  | none => exact .inl rfl
  | some g => right; intro e; exact hr g e.symm hv)
theorem OwnE.ends (h : OwnE w base e v l) : EndS w base w.heap.size v (castL l) := by
  have h1 : w.ownsRow base e 2 v (castL l).length (flatP l) := by rw [castL_length]; exact h
  exact Sl.of_own h1 fun j hj => flatP_get l j (by rw [castL_length] at hj; omega)
theorem OwnE.len (h : OwnE w base e v l) : ∃ A c, v = .slice A l.length c ∧ l.length ≤ c ∧ c ≤ 9223372036854775807 := by
  obtain ⟨A, c, e, h1, h2⟩ := h.ends.dims
  rw [castL_length] at e h1
  exact ⟨A, c, e, h1, h2⟩
end
def lenV : Value → Nat
  | .slice _ n _ => n
  | _ => 0
theorem OwnE.lenV {w : World} {base : Nat} {e : TypeId} {v : Value} {l : List Po} (h : OwnE w base e v l) : lenV v = l.length := by
  obtain ⟨A, c, rfl, _⟩ := h.len
  rfl
/-- append of one end, just laid in a block of its own -/
theorem append_end {P : Program} {ops : Array Oper} {rest : List Oper} {o : Oper} {a : Act} {Q : Exit → Act → World → Prop} {t e : TypeId} {z : Value} {bytes : Nat}
    (ht : P.underlying t = some (.slice e)) (hinfo : (P.info? e).map (fun i => (i.zero, i.size, i.bytes)) = some (some z, 2, bytes)) (hz1 : z.cells.size = 2) (hby : bytes ≤ 64)
    (w : World) (hgd : o.guard = none) {s : Operand} (x : Operand) (ho : o.op = .call { callee := .builtin .append, args := #[s, x], argTypes := #[t, t] })
    {base : Nat} {v : Value} {l : List Po} (hown : OwnE w base e v l) (p : Po) (te : TypeId) (hs : a.eval s = v) (hx : a.eval x = .slice (some ⟨w.heap.size, 0, none⟩) 1 1)
    (hlen : l.length < 1099511627776) (hbase : base ≤ w.heap.size)
    (h : ∀ v' w', OwnE w' base e v' (l ++ [p]) → w.grownBy w' v.ownBlock → (v'.ownBlock = v.ownBlock ∨ v'.ownBlock = some (w.heap.size + 1)) → wpList P ops Q rest (a.put o.dst v') w') :
    wpList P ops Q (o :: rest) a (w.alloc (.cells #[.int .i64 (p.1 : Int), .int .i64 (p.2 : Int)] te)) := by
  refine append_row ht hinfo hz1 (by omega) hby _ hgd x ho (hown.alloc _) hs [.int .i64 (p.1 : Int), .int .i64 (p.2 : Int)] hx rfl ?_ ?_ (by omega) (by simp; omega) fun v' w' a1 a2 a3 => h v' w' ?_ ?_ ?_
  · intro j u hj
    rw [show (⟨w.heap.size, 0, none⟩ : Addr).add j = ⟨w.heap.size, j, none⟩ by simp [Addr.add, eq_comm], World.cell?_alloc_at _ _ _ _ rfl]
    simpa using hj
  · intro u hu
    simp only [List.mem_cons, List.not_mem_nil, or_false] at hu
    rcases hu with rfl | rfl <;> rfl
  · unfold OwnE
    rw [flatP_snoc, List.length_append]
    exact a1
  · exact ⟨a2.os, a2.tape, a2.output, Nat.le_trans (by simp) a2.size, fun k hk hne => (a2.block k (by simp; omega) hne).trans (Below.heap_alloc _ _ _ hk)⟩
  · simpa using a3

end Go.Proofs.Ytmfjdiccohgihaa
