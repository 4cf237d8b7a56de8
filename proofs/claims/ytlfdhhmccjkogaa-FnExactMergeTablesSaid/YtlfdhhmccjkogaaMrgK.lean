/-
  Contracts: slices.Clone, Grow and Concat at rows of a table; an append of rows as a step of a region.
-/
import Derived.Test.YtlfdhhmccjkogaaOwnR
import Derived.Test.YtlfdhhmccjkogaaTabLaw
import Derived.Test.YtlfdhhmccjkogaaFrame0
import Derived.Deep.AppendLies
import Derived.Lib.AppendZeros
import Derived.Lib.SliceRun
namespace Go.Proofs.Ytlfdhhmccjkogaa
open Go.ChangeShapes Go.WideShapes Go.ChangeAt Go.RowKit
set_option linter.unusedVariables false

theorem RowS.empty (w : World) (lo hi : Nat) (A : Option Addr) (c : Nat) (hc : c ≤ maxLen) : RowS w lo hi (.slice A 0 c) [] := ⟨A, c, rfl, Nat.zero_le _, hc, fun h => absurd h (by simp)⟩
theorem RowS.far {w w' : World} {lo hi : Nat} {v : Value} {es : List (ByteArray × Int)} {row : Option Nat} (h : RowS w lo hi v es) (hg : w.grownBy w' row) (hB : hi ≤ w.heap.size) (hr : ∀ g, row = some g → g < lo ∨ hi ≤ g) : RowS w' lo hi v es :=
  h.keep fun k h1 h2 => hg.block k (by omega) (fun e => by have := hr k e.symm; omega)
theorem below_row {w w1 w2 : World} {v : Value} {L : List (ByteArray × Int)} {n : Nat} (hb : Below w.heap.size w w1) (h : RowS w1 w.heap.size w1.heap.size v L) (hn : L.length = n) (hg : w1.grownBy w2 (rowOf n v)) : Below w.heap.size w w2 := by
  subst hn
  have ht := Turned.of_row h hg
  exact ⟨ht.os.trans hb.os, ht.tape.trans hb.tape, ht.output.trans hb.output, Nat.le_trans hb.size ht.size, fun k hk => (ht.block k (by have := hb.size; omega) (by omega)).trans (hb.block k hk)⟩

set_option maxHeartbeats 1000000 in
set_option maxRecDepth 100000 in
theorem cloneR_any (v : Value) (S : List (ByteArray × Int)) (lo hi : Nat) (w : World) (h : RowS w lo hi v S) (hh : hi ≤ w.heap.size) (hn : S.length ≤ 1000000) :
    Calls Try.prog 29 #[v] w fun e w' => ∃ r, e = .returned r ∧ RowS w' w.heap.size w'.heap.size r S ∧ Below w.heap.size w w' := by
  have F1 := Lib.hid h
  obtain ⟨A, c, rfl, hc, hm, hcells⟩ := h.form
  clear h
  have qn : ∀ (w : World) (a : Option Addr) (n c n' c' : Nat), (binOp .eql 26 (.slice a n c) (.slice none n' c')).run Try.prog w = .ok (.bool a.isNone) w := fun w a n c n' c' => Lib.run_eql_slice_nil w _ _ a n c n' c' Try.underlying26
  cases A with
  | none =>
    have h0 : S.length = 0 := by
      rcases Nat.eq_zero_or_pos S.length with h0 | h0
      · exact h0
      · obtain ⟨b, off, e, _⟩ := hcells h0; cases e
    obtain rfl := List.eq_nil_of_length_eq_zero h0
    clear hcells
    go_enter Try.func29, Try.ntmps29
    go_wp2_with fail
    go_ret
    exact ⟨_, rfl, RowS.nil _ _ _, Below.refl _ _⟩
  | some a =>
    clear hcells
    obtain ⟨n, HN⟩ : ∃ n, Hid (S.length = n) := ⟨_, Lib.hid rfl⟩
    rw [HN.out] at hc hn F1 ⊢
    have HE := Lib.hid (OwnR.emptyB (w := w) (base := w.heap.size) (38) rfl (Nat.le_refl _))
    have HF := Lib.hid (show RowS (w.alloc (.cells #[] 38)) lo hi (.slice (some a) n c) S from Sl.alloc F1.out hh _)
    go_enter Try.func29, Try.ntmps29
    go_wp2_with (at_builtin; refine append_rows (s := .tmp 5) Try.underlying26 Try.info38 (by decide) (by decide) (w.alloc (.cells #[] 38)) rfl (.tmp 6) rfl HE.out rfl HF.out rfl (by rw [HN.out]; simp; omega) (by simp) ?_; intro v' w' ho' hg' _; have HO := Lib.hid ho')
    go_ret
    refine ⟨_, rfl, ?_, (below_a1 w _).grown hg' (by simp) fun g hg => by have := HE.out.lt g hg; omega⟩
    have := HO.out.rows
    rwa [List.nil_append] at this

theorem zeroCells_size (u : Array Value) (n : Nat) : (Builtin.zeroCells u n).size = n * u.size := by simp [Builtin.zeroCells]

set_option maxHeartbeats 1000000 in
set_option maxRecDepth 100000 in
theorem growR_any (z : Int) (n : Nat) (hz : z = n) (w : World) (hn : n ≤ 2097152) :
    Calls Try.prog 36 #[.slice none 0 0, .int .i64 z] w fun e w' => ∃ r, e = .returned r ∧ OwnR w' w.heap.size 38 r [] ∧ Below w.heap.size w w' := by
  subst hz
  by_cases h0 : n = 0
  · subst h0
    go_enter Try.func36, Try.ntmps36
    go_wp2_with fail
    go_ret
    exact ⟨_, rfl, OwnR.nil _ _ _, Below.refl _ _⟩
  have hp : (0 : Int) < n := by omega
  have hp2 : ¬ ((n : Int) < 0) := by omega
  obtain ⟨i0, hi0, hzz0⟩ := Option.map_eq_some_iff.1 Try.info38
  simp only [Prod.mk.injEq] at hzz0
  obtain ⟨hz0, hs0, hb0⟩ := hzz0
  have hrun := fun ty => Lib.run_append_nil_zeros (P := Try.prog) w 26 3 ty 38 i0 _ .i64 _ Try.underlying26 Try.underlying3 hi0 hz0 n (by omega) (by omega) (by omega) (by rw [hb0]; omega)
  obtain ⟨cp, HC⟩ : ∃ c, Hid (grownCap w n 0 38 = c) := ⟨_, Lib.hid rfl⟩
  have hc1 := grownCap_ge w n 0 38
  have hc2 := grownCap_le_maxLen w n 0 38 (by unfold maxLen; omega)
  rw [HC.out] at hc1 hc2
  unfold maxLen at hc2
  simp only [HC.out] at hrun
  have HR := Lib.hid hrun
  clear hrun
  go_enter Try.func36, Try.ntmps36
  go_wp2_with (at_builtin; refine Lib.wpList_append_run _ rfl _ _ _ _ rfl _ _ rfl rfl _ _ (HR.out _) ?_)
  go_ret
  refine ⟨_, rfl, ?_, ((Below.refl _ _).drew).alloc (Nat.le_refl _) _⟩
  refine ⟨by simp [flatR], .inr ⟨w.heap.size, cp, _, rfl, Nat.le_refl _, heap_alloc_new w.drew _, Nat.zero_le _, by unfold maxLen; omega, ?_, by simp [flatR]⟩⟩
  rw [Array.size_append, zeroCells_size, zeroCells_size]
  show n * 2 + (cp - n) * 2 = cp * 2
  omega

set_option maxHeartbeats 2000000 in
set_option maxRecDepth 100000 in
theorem concatR_any (g : Nat) (v1 v2 : Value) (A B : List (ByteArray × Int)) (l1 h1 l2 h2 : Nat) (w : World) (c0 : w.cell? ⟨g, 0, none⟩ = some v1) (c1 : w.cell? ⟨g, 1, none⟩ = some v2) (hg : g < w.heap.size)
    (r1 : RowS w l1 h1 v1 A) (hh1 : h1 ≤ w.heap.size) (r2 : RowS w l2 h2 v2 B) (hh2 : h2 ≤ w.heap.size) (hA : A.length ≤ 500000) (hB : B.length ≤ 500000) :
    Calls Try.prog 18 #[.slice (some ⟨g, 0, none⟩) 2 2] w fun e w' => ∃ r, e = .returned r ∧ RowS w' w.heap.size w'.heap.size r (A ++ B) ∧ Below w.heap.size w w' := by
  have F1 := Lib.hid r1
  have F2 := Lib.hid r2
  obtain ⟨A1, k1, rfl, hc1, hm1, _⟩ := r1.form
  obtain ⟨A2, k2, rfl, hc2, hm2, _⟩ := r2.form
  clear r1 r2
  unfold maxLen at hm1 hm2
  obtain ⟨n, HN⟩ : ∃ n, Hid (A.length = n) := ⟨_, Lib.hid rfl⟩
  obtain ⟨m, HM⟩ : ∃ n, Hid (B.length = n) := ⟨_, Lib.hid rfl⟩
  rw [HN.out] at hc1 hA F1 c0
  rw [HM.out] at hc2 hB F2 c1
  have hp1 : ¬ ((n : Int) < 0) := by omega
  have hp2 : ¬ ((n : Int) + m < 0) := by omega
  go_enter Try.func18, Try.ntmps18
  go_wp2_with fail
  refine wp_loop_rounds 3 ?_
  rw [rounds_succ]
  go_wp2_with fail
  try rw [rounds_succ]
  go_wp2_with fail
  try rw [rounds_succ]
  go_wp2_with (go_at_call 36; refine (growR_any _ (n + m) (by go_num) _ (by omega)).mono ?_; rintro e w1 ⟨v0, rfl, ho, hb1⟩; have HO := Lib.hid ho; have hs1 := hb1.size; have d0 := (hb1.cell (p := ⟨g, 0, none⟩) hg).trans c0; have d1 := (hb1.cell (p := ⟨g, 1, none⟩) hg).trans c1; clear ho)
  have G1 := Lib.hid (F1.out.below hb1 hh1)
  refine wp_loop_rounds 3 ?_
  rw [rounds_succ]
  go_wp2_with (at_builtin; refine append_rows (s := .tmp 31) Try.underlying26 Try.info38 (by decide) (by decide) w1 rfl (.tmp 32) rfl HO.out rfl G1.out rfl (by rw [HN.out]; simp; omega) hs1 ?_; intro v2 w2 ho2 hg2 _; have HO2 := Lib.hid ho2; have hb2 := hb1.grown hg2 hs1 (fun g hg => (HO.out.lt g hg).1); have hs2 := hb2.size; have e1 := (hb2.cell (p := ⟨g, 1, none⟩) hg).trans c1; have G2 := Lib.hid (F2.out.below hb2 hh2); clear ho2)
  try rw [rounds_succ]
  go_wp2_with (at_builtin; refine append_rows (s := .tmp 31) Try.underlying26 Try.info38 (by decide) (by decide) w2 rfl (.tmp 32) rfl HO2.out rfl G2.out rfl (by rw [List.length_append, HN.out, HM.out]; simp; omega) hs2 ?_; intro v3 w3 ho3 hg3 _; have HO3 := Lib.hid ho3; have hb3 := hb2.grown hg3 hs2 (fun g hg => (HO2.out.lt g hg).1); clear ho3)
  try rw [rounds_succ]
  go_wp2_with fail
  go_ret
  refine ⟨_, rfl, ?_, hb3⟩
  have := HO3.out.rows
  rwa [List.nil_append] at this

/-- append of a slice of rows, as a step -/
theorem step_append_rows {P : Program} {o : Oper} {a : Act} {K : Act → World → Prop} {Q : Exit → Act → World → Prop} {t e : TypeId} {z : Value} {bytes : Nat} {w : World}
    (ht : P.underlying t = some (.slice e)) (hinfo : (P.info? e).map (fun i => (i.zero, i.size, i.bytes)) = some (some z, 2, bytes)) (hz1 : z.cells.size = 2) (hby : bytes ≤ 64)
    (s x : Operand) (ho : o.op = .call { callee := .builtin .append, args := #[s, x], argTypes := #[t, t] })
    {base : Nat} {v : Value} {l : List (ByteArray × Int)} (hown : OwnR w base e v l) (hs : a.eval s = v) {lo hi : Nat} {A : Option Addr} {m c : Nat} {ys : List (ByteArray × Int)} (hy : RowS w lo hi (.slice A m c) ys) (hx : a.eval x = .slice A m c)
    (hlen : l.length + ys.length ≤ 1099511627776) (hbase : base ≤ w.heap.size)
    (h : ∀ v' w', OwnR w' base e v' (l ++ ys) → w.grownBy w' v.ownBlock → (v'.ownBlock = v.ownBlock ∨ v'.ownBlock = some w.heap.size) → K (a.put o.dst v') w') :
    Oper.wp P o a w K Q := by
  obtain ⟨i, hi, hzz⟩ := Option.map_eq_some_iff.1 hinfo
  obtain ⟨A', c', e1, h1, h2, h3⟩ := hy.form
  injection e1 with e2 e3 e4
  subst e2 e3 e4
  by_cases h0 : ys = []
  · subst h0
    have hrun := run_append_nothing (P := P) (w := w) base t o.type e i 2 ht hi v l.length (flatR l) hown A c
    simp only [List.length_nil] at hx
    unfold Oper.wp
    simp [execOp, ho, resolve, invoke, builtin, hs, hx, hrun, Result.andThen]
    exact h v w (by rw [List.append_nil]; exact hown) (World.grownBy.refl _ _) (.inl rfl)
  · simp only [Prod.mk.injEq] at hzz
    obtain ⟨hz, hsz2, hb⟩ := hzz
    have hp := List.length_pos_iff.2 h0
    obtain ⟨b, off, rfl, hb1, hb2, hc⟩ := h3 hp
    refine wp_append_lies w s x t ho base e i z 2 bytes ht hi hz hsz2 hb hz1 (by omega) v l.length (flatR l) hs hown ⟨b, off, none⟩ ys.length c (flatR ys) hx (flatR_length ys) ?_ (flatR_one ys) hp (by unfold maxLen; omega) ?_ hbase w.heap.size rfl ?_
    · intro j u hj
      have hj2 : j < ys.length * 2 := by
        have := (List.getElem?_eq_some_iff.1 hj).1
        rw [flatR_length] at this; omega
      rw [flatR_get ys j hj2] at hj
      injection hj with hj
      subst hj
      rw [show (⟨b, off, none⟩ : Addr).add j = ⟨b, off + j, none⟩ from Go.WideShapes.add_plain b off j]
      have hk := hc (j / 2) (by omega)
      unfold rowCell
      split
      · have := hk.1
        rwa [show off + j / 2 * 2 = off + j by omega] at this
      · have := hk.2
        rwa [show off + j / 2 * 2 + 1 = off + j by omega] at this
    · have : (l.length + ys.length) * bytes ≤ 1099511627776 * 64 := Nat.mul_le_mul hlen hby
      omega
    · intro g cap w' a1 a2 a3 a4
      refine h _ w' ?_ a2 ?_
      · unfold OwnR
        rw [flatR_app, List.length_append]
        exact a1
      · rcases a3 with a3 | a3
        · exact .inl a3.symm
        · exact .inr (by subst a3; rfl)
/-- a slice's first rows, and the rest -/
theorem RowS.take {w : World} {lo hi n c b off k : Nat} {es : List (ByteArray × Int)} (h : RowS w lo hi (.slice (some ⟨b, off, none⟩) n c) es) (hk : k ≤ es.length) : RowS w lo hi (.slice (some ⟨b, off, none⟩) k c) (es.take k) := by
  obtain ⟨A, c', e, h1, h2, h3⟩ := h
  injection e with e1 e2 e3
  subst e1 e2 e3
  have hl : (es.take k).length = k := by rw [List.length_take]; omega
  refine ⟨_, c, by rw [hl], by omega, h2, fun hp => ?_⟩
  obtain ⟨b', off', e2, h4, h5, h6⟩ := h3 (by omega)
  refine ⟨b', off', e2, h4, h5, fun t ht => ?_⟩
  rw [hl] at ht
  have := h6 t (by omega)
  have e : nthR (es.take k) (t / 2) = nthR es (t / 2) := by simp [nthR, List.getElem?_take_of_lt (show t / 2 < k by omega)]
  unfold rowCell at this ⊢
  rw [e]; exact this
theorem RowS.drop {w : World} {lo hi n c b off k : Nat} {es : List (ByteArray × Int)} (h : RowS w lo hi (.slice (some ⟨b, off, none⟩) n c) es) (hk : k < es.length) : RowS w lo hi (.slice (some ⟨b, off + k * 2, none⟩) (n - k) (c - k)) (es.drop k) := by
  obtain ⟨A, c', e, h1, h2, h3⟩ := h
  injection e with e1 e2 e3
  subst e1 e2 e3
  obtain ⟨b', off', e2, h4, h5, h6⟩ := h3 (by omega)
  injection e2 with e2
  injection e2 with e2 e3
  subst e2 e3
  have hl : (es.drop k).length = es.length - k := List.length_drop
  refine ⟨_, c - k, by rw [hl], by omega, by omega, fun hp => ⟨b, off + k * 2, rfl, h4, h5, fun t ht => ?_⟩⟩
  rw [hl] at ht
  have := h6 (k * 2 + t) (by omega)
  have e : nthR (es.drop k) (t / 2) = nthR es (k + t / 2) := by simp [nthR]
  rw [show off + k * 2 + t = off + (k * 2 + t) by omega]
  unfold rowCell at this ⊢
  rw [e, show (k * 2 + t) % 2 = t % 2 by omega, show (k * 2 + t) / 2 = k + t / 2 by omega] at *
  exact this

end Go.Proofs.Ytlfdhhmccjkogaa
