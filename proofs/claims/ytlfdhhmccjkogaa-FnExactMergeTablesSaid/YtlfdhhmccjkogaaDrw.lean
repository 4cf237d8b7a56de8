/-
  A run draws on: its world's count of draws does not fall; appends of two numbers with that said. No condition on any program.
-/
import Derived.Test.YtlfdhhmccjkogaaOwn
import Derived.Test.YtlfdhhmccjkogaaSS
import Derived.Maps.AppendAt
import Derived.Maps.OwnOps
namespace Go.Proofs.Ytlfdhhmccjkogaa
open Go.RowKit
set_option linter.unusedVariables false

theorem viewStore_drawn {p : Program} {w w' : World} {a : Addr} {u : TypeId} {k : Addr} {v : Value} {b : Bool} {l : List Addr} (h : w.viewStore p a u k v b = .ok (w', l)) : w'.drawn = w.drawn := by
  unfold World.viewStore at h
  simp only [bind, Except.bind, pure, Except.pure] at h
  repeat' (split at h)
  all_goals (first | cases h | skip)
  all_goals rfl
theorem farStore_drawn {p : Program} {w w' : World} {a : Addr} {v : Value} {b : Bool} {l : List Addr} (h : w.farStore p a v b = .ok (w', l)) : w'.drawn = w.drawn := by
  unfold World.farStore at h
  split at h
  · split at h
    · rename_i r hr
      cases h
      exact viewStore_drawn hr
    · cases h
  · cases h
theorem ask_drawn {α : Type} (x : Ask α) : ∀ w : World, w.drawn ≤ (w.ask x).2.drawn := by
  induction x with
  | done a => intro w; exact Nat.le_refl _
  | ask what range k ih =>
    intro w
    unfold World.ask
    dsimp only
    split
    · exact ih _ w
    · exact Nat.le_trans (Nat.le_succ _) (ih _ { w with drawn := w.drawn + 1 })
theorem sys_drawn (w : World) (c : Sys) : w.drawn ≤ (w.sys c).2.drawn := by
  unfold World.sys
  have := ask_drawn (Kernel.perform c w.os) w
  split
  · exact Nat.le_refl _
  · rename_i h
    rw [h] at this
    exact this
theorem run_drawn {α : Type} (p : Program) (m : Sem α) : ∀ (w w' : World) (a : α), m.run p w = .ok a w' → w.drawn ≤ w'.drawn := by
  induction m with
  | pure a => intro w w' b h; simp [Sem.run] at h; rw [h.2]; exact Nat.le_refl _
  | load m a k ih =>
    intro w w' b h
    unfold Sem.run at h
    split at h
    · exact ih _ w w' b h
    · split at h
      · exact ih _ w w' b h
      · cases h
  | store m a v k ih =>
    intro w w' b h
    cases v <;> simp only [Sem.run] at h
    all_goals first | (cases h; done) | skip
    all_goals
      split at h
      · split at h
        · cases h
        · exact ih (w.setCell a _) w' b h
      · split at h
        · rename_i w1 l hf
          rw [← farStore_drawn hf]
          exact ih w1 w' b h
        · cases h
  | new o k ih => intro w w' b h; unfold Sem.run at h; exact ih _ { w with heap := w.heap.push o } w' b h
  | shape r k ih => intro w w' b h; unfold Sem.run at h; exact ih _ w w' b h
  | freeze a n k ih =>
    intro w w' b h; unfold Sem.run at h
    have := ih (w.freeze a n) w' b h
    have e : (w.freeze a n).drawn = w.drawn := by unfold World.freeze; split <;> rfl
    rwa [e] at this
  | frozen a k ih => intro w w' b h; unfold Sem.run at h; exact ih _ w w' b h
  | getObj r k ih =>
    intro w w' b h; unfold Sem.run at h
    split at h
    · cases h
    · exact ih _ w w' b h
    · cases h
  | setObj r o k ih =>
    intro w w' b h; unfold Sem.run at h
    split at h
    · cases h
    · exact ih { w with heap := w.heap.setIfInBounds r o } w' b h
    · cases h
  | choose q k ih =>
    intro w w' b h; unfold Sem.run at h
    split at h
    · exact ih _ w w' b h
    · exact Nat.le_trans (Nat.le_succ _) (ih _ { w with drawn := w.drawn + 1 } w' b h)
  | sys c k ih => intro w w' b h; unfold Sem.run at h; exact Nat.le_trans (sys_drawn w c) (ih _ _ w' b h)
  | program k ih => intro w w' b h; unfold Sem.run at h; exact ih _ w w' b h
  | mark m k ih => intro w w' b h; unfold Sem.run at h; exact ih w w' b h
  | halt x => intro w w' b h; simp [Sem.run] at h

/-- old blocks stay, and the draws do not fall -/
structure BD (B : Nat) (w w' : World) : Prop where
  below : Below B w w'
  drawn : w.drawn ≤ w'.drawn
theorem BD.refl (B : Nat) (w : World) : BD B w w := ⟨Below.refl _ _, Nat.le_refl _⟩
theorem BD.trans {B : Nat} {a b c : World} (h : BD B a b) (k : BD B b c) : BD B a c := ⟨h.below.trans k.below, Nat.le_trans h.drawn k.drawn⟩

/-- append onto a row of the call's own, the new elements' cells known; the draws do not fall -/
theorem append_rowD {P : Program} {ops : Array Oper} {rest : List Oper} {o : Oper} {a : Act} {Q : Exit → Act → World → Prop} {t e : TypeId} {z : Value} {sz bytes : Nat}
    (ht : P.underlying t = some (.slice e)) (hinfo : (P.info? e).map (fun i => (i.zero, i.size, i.bytes)) = some (some z, sz, bytes)) (hz1 : z.cells.size = sz) (hsz : 0 < sz) (hby : bytes ≤ 64)
    (w : World) (hgd : o.guard = none) {s : Operand} (x : Operand) (ho : o.op = .call { callee := .builtin .append, args := #[s, x], argTypes := #[t, t] })
    {base : Nat} {v : Value} {n : Nat} {xs : List Value} (hown : w.ownsRow base e sz v n xs) (hs : a.eval s = v) {ad : Addr} {m c : Nat} (news : List Value) (hx : a.eval x = .slice (some ad) m c)
    (hl : news.length = m * sz) (hnews : ∀ j u, news[j]? = some u → w.cell? (ad.add j) = some u) (h1 : ∀ u ∈ news, u.oneCell' = true)
    (hlen : n + m ≤ 1099511627776) (hbase : base ≤ w.heap.size)
    (h : ∀ v' w', w'.ownsRow base e sz v' (n + m) (xs ++ news) → w.grownBy w' v.ownBlock → (v'.ownBlock = v.ownBlock ∨ v'.ownBlock = some w.heap.size) → w.drawn ≤ w'.drawn → wpList P ops Q rest (a.put o.dst v') w') :
    wpList P ops Q (o :: rest) a w := by
  obtain ⟨i, hi, hzz⟩ := Option.map_eq_some_iff.1 hinfo
  simp only [Prod.mk.injEq] at hzz
  obtain ⟨hz, hsz2, hb⟩ := hzz
  refine wpList_plain hgd fun K hK => ?_
  obtain ⟨v', w', hr, a1, a2, _, a4⟩ := run_append_own_at (P := P) w base t o.type e i z sz bytes ht hi hz hsz2 hb hz1 hsz v n xs hown ad m c news hl hnews h1 (by unfold maxLen; omega) (by
    have : (n + m) * bytes ≤ 1099511627776 * 64 := Nat.mul_le_mul hlen hby
    omega) hbase
  unfold Oper.wp execOp
  simp only [ho, resolve, invoke, builtin, Sem.run_bind, Sem.run_pure, Result.andThen_ok, List.map_toArray, List.map_cons, List.map_nil, hs, hx, hr]
  exact hK _ _ (h v' w' a1 a2 a4 (run_drawn _ _ _ _ _ hr))
/-- append of two numbers, just laid in a block of their own -/
theorem append_twoD {P : Program} {ops : Array Oper} {rest : List Oper} {o : Oper} {a : Act} {Q : Exit → Act → World → Prop} {t e : TypeId} {bytes : Nat}
    (ht : P.underlying t = some (.slice e)) (hinfo : (P.info? e).map (fun i => (i.zero, i.size, i.bytes)) = some (some (.int .i64 0), 1, bytes)) (hby : bytes ≤ 64)
    (w : World) (hgd : o.guard = none) {s : Operand} (x : Operand) (ho : o.op = .call { callee := .builtin .append, args := #[s, x], argTypes := #[t, t] })
    {base : Nat} {v : Value} {zs : List Int} (hown : OwnI w base e v zs) (y z : Int) (te : TypeId) (hs : a.eval s = v) (hx : a.eval x = .slice (some ⟨w.heap.size, 0, none⟩) 2 2)
    (hlen : zs.length < 1099511627774) (hbase : base ≤ w.heap.size)
    (h : ∀ v' w', OwnI w' base e v' (zs ++ [y, z]) → w.grownBy w' v.ownBlock → (v'.ownBlock = v.ownBlock ∨ v'.ownBlock = some (w.heap.size + 1)) → w.drawn ≤ w'.drawn → wpList P ops Q rest (a.put o.dst v') w') :
    wpList P ops Q (o :: rest) a (w.alloc (.cells #[.int .i64 y, .int .i64 z] te)) := by
  refine append_rowD ht hinfo rfl (by omega) hby _ hgd x ho (World.ownsRow.alloc hown _) hs [.int .i64 y, .int .i64 z] hx rfl ?_ ?_ (by simp; omega) (by simp; omega) fun v' w' a1 a2 a3 a4 => h v' w' ?_ ?_ ?_ ?_
  · intro j u hj
    rw [show (⟨w.heap.size, 0, none⟩ : Addr).add j = ⟨w.heap.size, j, none⟩ by simp [Addr.add, eq_comm], World.cell?_alloc_at _ _ _ _ rfl]
    simpa using hj
  · intro u hu
    simp only [List.mem_cons, List.not_mem_nil, or_false] at hu
    rcases hu with rfl | rfl <;> rfl
  · unfold OwnI Own
    simpa using a1
  · exact ⟨a2.os, a2.tape, a2.output, Nat.le_trans (by simp) a2.size, fun k hk hne => (a2.block k (by simp; omega) hne).trans (Below.heap_alloc _ _ _ hk)⟩
  · simpa using a3
  · exact a4

end Go.Proofs.Ytlfdhhmccjkogaa
