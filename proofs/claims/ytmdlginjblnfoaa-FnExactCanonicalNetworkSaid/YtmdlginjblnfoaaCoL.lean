/-
  Components: lemmas for the walk; the contract that is wanted of slices.SortFunc.
-/
import Derived.Test.YtmdlginjblnfoaaCoM
import Derived.Test.YtmdlginjblnfoaaCmL
import Derived.Test.YtmdlginjblnfoaaCde2
import Derived.Test.YtmdlginjblnfoaaPerm
namespace Go.Proofs.Ytmdlginjblnfoaa
open Go.ChangeShapes Go.WideShapes Go.ChangeAt Go.RowKit
set_option linter.unusedVariables false

theorem CoS.weak {enc : CmpV → List Value} {k : Nat} {w : World} {base top base' : Nat} {e : TypeId} {v : Value} {xs : List CmpV} (h : CoS enc k w base top e v xs) (hb : base' ≤ base) : CoS enc k w base' top e v xs := by
  refine ⟨?_, Nat.le_trans hb h.low, h.high, h.own, fun x hx => let ⟨lo, hi, a1, a2⟩ := h.el x hx; ⟨lo, hi, Nat.le_trans hb a1, a2⟩⟩
  obtain ⟨h1, h2⟩ := h.row
  refine ⟨h1, ?_⟩
  rcases h2 with h2 | ⟨g, cap, cur, e1, hg, hh, hn, hm, hs, ht⟩
  · exact .inl h2
  · exact .inr ⟨g, cap, cur, e1, Nat.le_trans hb hg, hh, hn, hm, hs, ht⟩
theorem ElOk.still {w w' : World} {lo hi : Nat} {x : CmpV} (h : ElOk w lo hi x) (hg : w.grownBy w' none) (hB : hi ≤ w.heap.size) : ElOk w' lo hi x := h.far hg hB (no_row _ _)
theorem cmpL_neg {a b : List Int} (h : ltL a b = true) : cmpL a b = -1 := by unfold cmpL; rw [if_pos h]
theorem cmpL_zero (a : List Int) : cmpL a a = 0 := by unfold cmpL; rw [ltL_irr, if_neg (by decide), if_pos rfl]
theorem cmpL_pos {a b : List Int} (h : ¬ ltL a b = true) (hne : a ≠ b) : cmpL a b = 1 := by unfold cmpL; rw [if_neg h, if_neg hne]
theorem nodes_mem {N : NetD} (hg : N.good = true) {v : Nat} (hv : v < N.ends.length) {j : Nat} (hj : j < (nodesOf N v).length) : ∃ t : Nat, nth (nodesOf N v) j = t ∧ t < N.ends.length := by
  have h := nth_mem hj
  unfold nodesOf at h
  rw [(sortI_perm _).mem_iff] at h
  exact (walk_ok (good_nodes hg) hv).node _ h
theorem nodes_len {N : NetD} (hg : N.good = true) {v : Nat} (hv : v < N.ends.length) : (nodesOf N v).length ≤ N.ends.length := by
  unfold nodesOf; rw [sortI_length]; exact (walk_ok (good_nodes hg) hv).len
/-- what a component in the making is like -/
theorem compTo_walk {N : NetD} (hg : N.good = true) {v : Nat} (hv : v < N.ends.length) : ∀ k, k ≤ (nodesOf N v).length → ((compTo N v k).cnt = 0 ∧ (compTo N v k).code = [] ∧ (compTo N v k).walk = []) ∨ (0 < (compTo N v k).cnt ∧ 0 < (compTo N v k).walk.length ∧ (compTo N v k).cnt ≤ k ∧ (compTo N v k).code.length ≤ 600 ∧ (compTo N v k).walk.length ≤ 40)
  | 0, _ => .inl ⟨rfl, rfl, rfl⟩
  | k + 1, h => by
    have ih := compTo_walk hg hv k (by omega)
    obtain ⟨t, et, ht⟩ := nodes_mem hg hv (show k < (nodesOf N v).length by omega)
    have hok := walk_ok (good_nodes hg) ht
    have hp := walk_pos (good_nodes hg) ht
    have hlen := hok.len
    have hn := (good_n hg).2
    rw [compTo_succ N v (by omega), et]
    right
    unfold cmpStep
    rw [Int.toNat_natCast]
    split
    · refine ⟨by show 0 < 1; omega, List.length_pos_of_mem hp, by show 1 ≤ k + 1; omega, ?_, by show (walkN N t).length ≤ 40; omega⟩
      have := codeTo_len hg hok _ (Nat.le_refl _)
      show (codeTo N (walkN N t) (walkN N t).length).length ≤ 600
      omega
    · rename_i h1
      have h0 : (compTo N v k).cnt ≠ 0 := fun e => h1 (.inl e)
      rcases ih with ih | ⟨i1, i2, i3, i4, i5⟩
      · exact absurd ih.1 h0
      · split
        · exact ⟨by show 0 < _ + 1; omega, i2, by show _ + 1 ≤ k + 1; omega, i4, i5⟩
        · exact ⟨i1, i2, by omega, i4, i5⟩
theorem stC_node {N : NetD} (hg : N.good = true) : ∀ k, k ≤ N.ends.length → (stC N k).1.length ≤ k
  | 0, _ => Nat.le_refl _
  | k + 1, h => by
    have ih := stC_node hg k (by omega)
    simp only [stC]
    split
    · omega
    · rw [List.length_append]; simp; omega
theorem infoCo : (Try.prog.info? 66).map (fun i => (i.zero, i.size, i.bytes)) = some (some (.agg #[.slice none 0 0, .slice none 0 0, .int .i64 0, .int .i64 0]), 4, 64) := by kernel_rfl
/-- append of one component, just laid in a block of its own -/
theorem append_co {P : Program} {ops : Array Oper} {rest : List Oper} {o : Oper} {a : Act} {Q : Exit → Act → World → Prop} {t e : TypeId} {z : Value} {bytes : Nat}
    (ht : P.underlying t = some (.slice e)) (hinfo : (P.info? e).map (fun i => (i.zero, i.size, i.bytes)) = some (some z, 4, bytes)) (hz1 : z.cells.size = 4) (hby : bytes ≤ 64)
    (w : World) (hgd : o.guard = none) {s : Operand} (x : Operand) (ho : o.op = .call { callee := .builtin .append, args := #[s, x], argTypes := #[t, t] })
    {base top : Nat} {v : Value} {xs : List CmpV} (hown : CoS encI 4 w base top e v xs) (y : CmpV) {lo hi : Nat} (hy : ElOk w lo hi y) (h1 : top ≤ lo) (h2 : hi ≤ w.heap.size) (hlh : lo ≤ hi) (hc1 : y.vc.oneCell' = true) (hc2 : y.vw.oneCell' = true) (te : TypeId) (hs : a.eval s = v) (hx : a.eval x = .slice (some ⟨w.heap.size, 0, none⟩) 1 1)
    (hlen : xs.length < 1099511627000)
    (h : ∀ v' w', CoS encI 4 w' base w'.heap.size e v' (xs ++ [y]) → w.grownBy w' v.ownBlock → wpList P ops Q rest (a.put o.dst v') w') :
    wpList P ops Q (o :: rest) a (w.alloc (.cells #[y.vc, y.vw, .int .i64 (y.c.least : Nat), .int .i64 (y.c.cnt : Nat)] te)) := by
  have hlow := hown.low
  have hhigh := hown.high
  refine append_row (m := 1) ht hinfo hz1 (by omega) hby _ hgd x ho (World.ownsRow.alloc hown.row _) hs (encI y) hx rfl ?_ ?_ (by omega) (by simp; omega) fun v' w' a1 a2 a3 => ?_
  · intro j u hj
    rw [show (⟨w.heap.size, 0, none⟩ : Addr).add j = ⟨w.heap.size, j, none⟩ by simp [Addr.add, eq_comm], World.cell?_alloc_at _ _ _ _ rfl]
    simpa [encI] using hj
  · intro u hu
    simp only [encI, List.mem_cons, List.not_mem_nil, or_false] at hu
    rcases hu with rfl | rfl | rfl | rfl
    · exact hc1
    · exact hc2
    · rfl
    · rfl
  · have hg : w.grownBy w' v.ownBlock := ⟨a2.os, a2.tape, a2.output, Nat.le_trans (by simp) a2.size, fun k hk hne => (a2.block k (by simp; omega) hne).trans (Below.heap_alloc _ _ _ hk)⟩
    exact h v' w' (hown.push hg a1 (a3.imp id fun e => ⟨_, e, by simp⟩) hy h1 h2 hlh) hg
/-- the sort's contract, as it is wanted here -/
def SortC (P : Program) (f g : Nat) (e : TypeId) : Prop :=
  ∀ (W : World) (base top : Nat) (v : Value) (xs : List CmpV), CoS encI 4 W base top e v xs → (xs.map CmpV.c).Pairwise (fun a b => a.least < b.least) → xs.length ≤ 40 → (∀ x ∈ xs, x.c.code.length ≤ 600) →
    Calls P f #[v, .func (.func g) #[] #[]] W fun e' w' => e' = .returned (.tuple #[]) ∧ (∃ ys : List CmpV, ys.map CmpV.c = insAll (xs.map CmpV.c) ∧ CoS encI 4 w' base w'.heap.size e v ys) ∧ W.grownBy w' v.ownBlock

end Go.Proofs.Ytmdlginjblnfoaa
