/-
  Contract: slices.Compact at rows of a table.
-/
import Derived.Test.YtlfdhhmccjkogaaMrgO
import Derived.Test.YtlfdhhmccjkogaaOwnR
import Derived.Test.YtlfdhhmccjkogaaTabLaw
import Derived.Laws.StructEq
import Derived.Lib.SliceRun
namespace Go.Proofs.Ytlfdhhmccjkogaa
open Go.ChangeShapes Go.WideShapes Go.ChangeAt Go.RowKit
set_option linter.unusedVariables false

theorem grown_set2 {w w' : World} {b o1 o2 : Nat} {u1 u2 : Value} (h : w.grownBy w' (some b)) : w.grownBy ((w'.setCell ⟨b, o1, none⟩ u1).setCell ⟨b, o2, none⟩ u2) (some b) := grownBy_setCell (grownBy_setCell h rfl u1) rfl u2
theorem neq_row (a : ByteArray) (b : Int) (c : ByteArray) (d : Int) (w : World) : (binOp .neq 38 (.agg #[.string a, .int .i64 b]) (.agg #[.string c, .int .i64 d])).run Try.prog w = .ok (.bool (!decide ((a, b) = (c, d)))) w := by
  rw [run_neq_struct, run_equalIn_agg _ _ _ _ _ (by kernel_rfl) (by kernel_rfl)]
  simp only [Program.fieldsOf, Try.underlying38]
  by_cases h1 : a = c
  · by_cases h2 : b = d <;> simp [go_sem, h1, h2, Try.underlying3, Try.underlying9]
  · have h3 : ¬ a.toList = c.toList := fun e => h1 (toList_inj e)
    by_cases h2 : b = d <;> simp [go_sem, h1, h2, h3, Try.underlying3, Try.underlying9]
theorem eql_row (a : ByteArray) (b : Int) (c : ByteArray) (d : Int) (w : World) : (binOp .eql 38 (.agg #[.string a, .int .i64 b]) (.agg #[.string c, .int .i64 d])).run Try.prog w = .ok (.bool (decide ((a, b) = (c, d)))) w := by
  simp only [binOp, Op.equal]
  simp only [Sem.run_bind]
  rw [show Op.maxDepth = 9999 + 1 from rfl, run_equalIn_agg _ _ _ _ _ (by kernel_rfl) (by kernel_rfl)]
  simp only [Program.fieldsOf, Try.underlying38]
  by_cases h1 : a = c
  · by_cases h2 : b = d <;> simp [go_sem, h1, h2, Try.underlying3, Try.underlying9]
  · have h3 : ¬ a.toList = c.toList := fun e => h1 (toList_inj e)
    by_cases h2 : b = d <;> simp [go_sem, h1, h2, h3, Try.underlying3, Try.underlying9]
theorem RowS.at_ {w : World} {lo hi n c b off j : Nat} {es : List Rw} (h : RowS w lo hi (.slice (some ⟨b, off, none⟩) n c) es) (hj : j < es.length) :
    (w.cell? ⟨b, off + j * 2, none⟩ = some (.string (nthR es j).1) ∧ w.frozen? ⟨b, off + j * 2, none⟩ = false) ∧ w.cell? ⟨b, off + j * 2 + 1, none⟩ = some (.int .i64 (nthR es j).2) ∧ w.frozen? ⟨b, off + j * 2 + 1, none⟩ = false := by
  obtain ⟨A, c', e, h1, h2, h3⟩ := h
  obtain ⟨b', off', e2, h4, h5, h6⟩ := h3 (by omega)
  subst e2
  injection e with e _ _
  injection e with e
  injection e with e1 e2
  subst e1 e2
  have a1 := h6 (j * 2) (by omega)
  have a2 := h6 (j * 2 + 1) (by omega)
  rw [rowCell_fst] at a1
  rw [rowCell_snd, ← Nat.add_assoc] at a2
  exact ⟨a1, a2⟩
theorem nthR_set {es : List Rw} {j i : Nat} {r : Rw} (hj : j < es.length) : nthR (es.set j r) i = if i = j then r else nthR es i := by
  unfold nthR
  by_cases e : i = j
  · subst e; simp [hj]
  · rw [if_neg e]; simp [List.getElem?_set_ne (fun h => e h.symm)]
theorem RowS.setRow {w : World} {lo hi n c b off j : Nat} {es : List Rw} (h : RowS w lo hi (.slice (some ⟨b, off, none⟩) n c) es) (hj : j < es.length) (r : Rw) :
    RowS ((w.setCell ⟨b, off + j * 2, none⟩ (.string r.1)).setCell ⟨b, off + j * 2 + 1, none⟩ (.int .i64 r.2)) lo hi (.slice (some ⟨b, off, none⟩) n c) (es.set j r) := by
  obtain ⟨A, c', e, _⟩ := id h
  have hn : n = es.length := by injection e
  subst hn
  have h1 := Sl.set (j := j * 2) h (by omega) (.string r.1)
  have h2 := Sl.set (j := j * 2 + 1) h1 (by omega) (.int .i64 r.2)
  rw [← Nat.add_assoc] at h2
  unfold RowS
  rw [List.length_set]
  refine Sl.congr h2 fun t ht => ?_
  unfold rowCell
  rw [nthR_set hj]
  by_cases e1 : t = j * 2 + 1
  · subst e1
    rw [if_pos rfl, if_neg (by omega), if_pos (by omega)]
  · rw [if_neg e1]
    by_cases e2 : t = j * 2
    · subst e2
      rw [if_pos rfl, if_pos (by omega), if_pos (by omega)]
    · rw [if_neg e2, if_neg (show ¬ t / 2 = j by omega)]
/-- what clear stores -/
def zeroR (n : Nat) : List Value := (Builtin.zeroCells #[.string ByteArray.empty, .int .i64 0] n).toList
theorem zeroR_length (n : Nat) : (zeroR n).length = n * 2 := by simp [zeroR, Builtin.zeroCells]
theorem zeroR_one (n : Nat) : ∀ u ∈ zeroR n, u.oneCell' = true := fun u hu => by
  unfold zeroR Builtin.zeroCells at hu
  simp only [Array.toList_map, List.mem_map, Array.mem_toList_iff] at hu
  obtain ⟨i, _, rfl⟩ := hu
  rcases (by omega : i % 2 = 0 ∨ i % 2 = 1) with e | e
  · rw [show i % (#[Value.string ByteArray.empty, .int .i64 0] : Array Value).size = 0 from e]; rfl
  · rw [show i % (#[Value.string ByteArray.empty, .int .i64 0] : Array Value).size = 1 from e]; rfl
theorem run_clear_rows (w : World) (ty : TypeId) (b o n c : Nat) (hn : 0 < n)
    (hc : ∀ j, j < n * 2 → (w.cell? ⟨b, o + j, none⟩).isSome = true) (hf : ∀ j, j < n * 2 → w.frozen? ⟨b, o + j, none⟩ = false) :
    (Builtin.clear_ #[26] ty #[.slice (some ⟨b, o, none⟩) n c]).run Try.prog w = .ok (.tuple #[]) (w.setCells b o (zeroR n)) := by
  have hst := Go.run_storeCells_cells (P := Try.prog) b o (zeroR n) 0 w (by simpa [zeroR_length] using hc) (by simpa [zeroR_length] using hf) (zeroR_one n)
  simp only [Nat.add_zero] at hst
  obtain ⟨m, rfl⟩ : ∃ m, n = m + 1 := ⟨n - 1, by omega⟩
  have hzc : (Builtin.zeroCells (Value.agg #[.string { data := #[] }, .int .i64 0]).cells (m + 1)).toList = zeroR (m + 1) := rfl
  simp [Builtin.clear_, run_underlying Try.underlying26, Try.zeroValue38]
  rw [hzc, hst]
  rfl
theorem grownCells {w : World} {row : Option Nat} {b : Nat} (hr : row = some b) : ∀ (vs : List Value) (o : Nat) (W : World), w.grownBy W row → w.grownBy (W.setCells b o vs) row
  | [], _, _, h => h
  | v :: l, o, W, h => by
    refine grownCells hr l (o + 1) (W.setCell ⟨b, o, none⟩ v) ?_
    subst hr
    refine ⟨h.os, h.tape, h.output, by rw [size_setCell]; exact h.size, fun k hk hne => ?_⟩
    rw [Below.heap_setCell _ _ _ _ (fun e => hne (by rw [e]))]
    exact h.block k hk hne

/-- within the walk: the first i places hold one of each run of the first m rows, from m - 1 on the rows are as they were -/
structure CMid (S : List Rw) (m i : Nat) (D : List Rw) : Prop where
  len : D.length = S.length
  pos : i = (cUp S m).length
  lt : i + 1 ≤ m
  head : D.take i = cUp S m
  high : ∀ j, m - 1 ≤ j → j < S.length → nthR D j = nthR S j
theorem cUp_pre {S : List Rw} : ∀ {k : Nat}, k ≤ S.length → (∀ t, 0 < t → t < k → nthR S t ≠ nthR S (t - 1)) → cUp S k = S.take k
  | 0, _, _ => rfl
  | k + 1, h, hne => by
    unfold cUp
    rw [cUp_pre (by omega) (fun t h1 h2 => hne t h1 (by omega))]
    rw [if_pos (by
      rcases Nat.eq_zero_or_pos k with h0 | h0
      · exact .inl h0
      · exact .inr (hne k h0 (by omega)))]
    rw [List.take_succ_eq_append_getElem h, nthR_eq h]
theorem CMid.start {S : List Rw} {k : Nat} (hk : k < S.length) (h0 : 0 < k) (hne : ∀ t, 0 < t → t < k → nthR S t ≠ nthR S (t - 1)) (he : nthR S k = nthR S (k - 1)) : CMid S (k + 1) k S := by
  have h1 : cUp S (k + 1) = S.take k := by
    rw [cUp, if_neg (by rintro (h | h); omega; exact h he), cUp_pre (by omega) hne]
  exact ⟨rfl, by rw [h1, List.length_take]; omega, Nat.le_refl _, h1.symm, fun _ _ _ => rfl⟩
theorem CMid.same {S D : List Rw} {m i : Nat} (h : CMid S m i D) (h0 : 0 < m) (he : nthR S m = nthR S (m - 1)) : CMid S (m + 1) i D := by
  have h1 : cUp S (m + 1) = cUp S m := by rw [cUp, if_neg (by rintro (h | h); omega; exact h he)]
  exact ⟨h.len, by rw [h1]; exact h.pos, by have := h.lt; omega, by rw [h1]; exact h.head, fun j h2 h3 => h.high j (by omega) h3⟩
theorem CMid.put {S D : List Rw} {m i : Nat} (h : CMid S m i D) (h0 : 0 < m) (hm : m < S.length) (he : nthR S m ≠ nthR S (m - 1)) : CMid S (m + 1) (i + 1) (D.set i (nthR S m)) := by
  have h1 : cUp S (m + 1) = cUp S m ++ [nthR S m] := by rw [cUp, if_pos (.inr he)]
  have hl := h.lt
  have hle := h.len
  refine ⟨by rw [List.length_set]; exact h.len, by rw [h1, List.length_append, ← h.pos]; rfl, by omega, ?_, fun j h2 h3 => ?_⟩
  · rw [h1, ← h.head]
    have hi : i < (D.set i (nthR S m)).length := by rw [List.length_set]; omega
    rw [List.take_succ_eq_append_getElem hi, List.getElem_set_self, List.take_set_of_le (Nat.le_refl _)]
  · rw [nthR_set (by omega), if_neg (by omega)]
    exact h.high j (by omega) h3

set_option maxHeartbeats 4000000 in
set_option maxRecDepth 100000 in
theorem compactR_any (v : Value) (S : List Rw) (lo hi : Nat) (w : World) (h : RowS w lo hi v S) (hhi : hi ≤ w.heap.size) (hn : S.length ≤ 1000000) :
    Calls Try.prog 35 #[v] w fun e w' => ∃ r, e = .returned r ∧ RowS w' lo hi r (cUp S S.length) ∧ w.grownBy w' (rowOf S.length v) := by
  have F1 := Lib.hid h
  obtain ⟨A, c, rfl, hc, hm, hcells⟩ := h.form
  unfold maxLen at hm
  clear h
  by_cases h2 : S.length < 2
  · have hl2 : ((S.length : Int) < 2) := by omega
    clear hcells
    go_enter Try.func35, Try.ntmps35
    go_wp2_with fail
    go_ret
    refine ⟨_, rfl, ?_, World.grownBy.refl _ _⟩
    rw [cUp_pre (Nat.le_refl _) (fun t h1 h2 => absurd h2 (by omega)), List.take_length]
    exact F1.out
  have hl2 : ¬ ((S.length : Int) < 2) := by omega
  obtain ⟨b, off, rfl, hb1, hb2, _⟩ := hcells (by omega)
  have HROW := Lib.hid (show rowOf S.length (.slice (some ⟨b, off, none⟩) S.length c) = some b by unfold rowOf; rw [if_neg (by omega)]; rfl)
  clear hcells
  obtain ⟨n, HN⟩ : ∃ n, Hid (S.length = n) := ⟨_, Lib.hid rfl⟩
  rw [HN.out] at hc hn h2 hl2 HROW F1 ⊢
  go_enter Try.func35, Try.ntmps35
  go_wp2_with fail
  go_loopw [3] (fun iv wr => ∃ k : Nat, 0 < k ∧ k ≤ n ∧ iv = .int .i64 k ∧ Hid (∀ t, 0 < t → t < k → nthR S t ≠ nthR S (t - 1)) ∧ Hid (w.grownBy wr none) ∧ Hid (RowS wr lo hi (.slice (some ⟨b, off, none⟩) n c) S)) (fun iv _ => n - (intOf iv).toNat)
  case atStart => exact ⟨1, by omega, by omega, rfl, Lib.hid (fun t h1 h2 => absurd h2 (by omega)), Lib.hid (World.grownBy.refl _ _), F1⟩
  case round =>
    clear F1
    obtain ⟨k, hk0, hk, rfl, HK, HG, F1⟩ := hrel
    by_cases hlt : k < n
    case neg =>
      obtain rfl : k = n := by omega
      go_wp2_with fail
      go_ret
      refine ⟨_, rfl, ?_, grown_any HG.out⟩
      rw [← HN.out, cUp_pre (Nat.le_refl _) (by rw [HN.out]; exact HK.out), List.take_length, HN.out]
      exact F1.out
    have hki : (k : Int) < n := by omega
    obtain ⟨⟨x1, _⟩, x2, _⟩ := F1.out.at_ (j := k) (by rw [HN.out]; omega)
    obtain ⟨⟨y1, _⟩, y2, _⟩ := F1.out.at_ (j := k - 1) (by rw [HN.out]; omega)
    obtain ⟨k1, HK1⟩ : ∃ k1, Hid (k - 1 = k1) := ⟨_, Lib.hid rfl⟩
    have hk1 : (k : Int) - 1 = (k1 : Int) := by rw [← HK1.out]; omega
    have hk1l : k1 < n := by rw [← HK1.out]; omega
    rw [HK1.out] at y1 y2
    obtain ⟨⟨s1, o1⟩, H1⟩ : ∃ q, Hid (nthR S k = q) := ⟨_, Lib.hid rfl⟩
    obtain ⟨⟨s2, o2⟩, H2⟩ : ∃ q, Hid (nthR S k1 = q) := ⟨_, Lib.hid rfl⟩
    rw [H1.out] at x1 x2
    rw [H2.out] at y1 y2
    dsimp only at x1 x2 y1 y2
    have heq := eql_row s1 o1 s2 o2
    by_cases he : (s1, o1) = (s2, o2)
    case neg =>
      rw [decide_eq_false he] at heq
      have HE := Lib.hid he; clear he
      go_wp2_with fail
      go_quiet (fail)
      go_wp2_with fail
      go_roundw
      case rel => exact ⟨k + 1, by omega, by omega, by go_num, Lib.hid (fun t h1 h2 => by
        by_cases e : t = k
        · subst e; rw [HK1.out, H1.out, H2.out]; exact HE.out
        · exact HK.out t h1 (by omega)), Lib.hid (HG.out.trans (grown_drewN _ _)), Lib.hid (Sl.drewN F1.out _)⟩
      case measure => simp [intOf]; omega
    rw [decide_eq_true he] at heq
    have HE := Lib.hid (show nthR S k = nthR S (k - 1) by rw [HK1.out, H1.out, H2.out]; exact he); clear he
    have HM0 := Lib.hid (CMid.start (S := S) (by rw [HN.out]; exact hlt) hk0 HK.out HE.out)
    go_wp2_with fail
    go_quiet (fail)
    go_wp2_with fail
    obtain ⟨wo, rfl⟩ : ∃ wo : World, wo = wr := ⟨_, rfl⟩
    have HG0 := Lib.hid (show w.grownBy (wo.drewN nq) (some b) from grown_any (HG.out.trans (grown_drewN _ _)))
    have F2 := Lib.hid (show RowS (wo.drewN nq) lo hi (.slice (some ⟨b, off, none⟩) n c) S from Sl.drewN F1.out _)
    clear x1 x2 y1 y2 heq HE HG F1 HK
    go_loopw [3, 5] (fun iv jv wi => ∃ (j i : Nat) (D : List Rw), 0 < j ∧ k + j ≤ n ∧ iv = .int .i64 i ∧ jv = .int .i64 j ∧ Hid (CMid S (k + j) i D) ∧ Hid (w.grownBy wi (some b)) ∧ Hid (RowS wi lo hi (.slice (some ⟨b, off, none⟩) n c) D)) (fun _ jv _ => n - (intOf jv).toNat)
    case atStart => exact ⟨1, k, S, by omega, by omega, rfl, by go_num, HM0, HG0, F2⟩
    case round =>
      clear HM0 HG0 F2
      obtain ⟨j, i, D, hj0, hj, rfl, rfl, HM, HG, F1⟩ := hrel
      have hDl := HM.out.len
      rw [HN.out] at hDl
      have him := HM.out.lt
      by_cases hlj : k + j < n
      case neg =>
        have hnj : k + j = n := by omega
        have hjk : ¬ ((j : Int) < ((n - k : Nat) : Int)) := by omega
        have hin : (i : Int) ≤ n := by omega
        have FD : Sl wr lo hi 2 (.slice (some ⟨b, off, none⟩) n c) n (rowCell D) := by have := F1.out; unfold RowS at this; rw [hDl] at this; exact this
        have hcl : ∀ ty, (Builtin.clear_ #[26] ty #[.slice (some ⟨b, off + i * 2, none⟩) (n - i) (c - i)]).run Try.prog wr = .ok (.tuple #[]) (wr.setCells b (off + i * 2) (zeroR (n - i))) := fun ty =>
          run_clear_rows wr ty b (off + i * 2) (n - i) (c - i) (by omega) (fun t ht => by
            rw [show off + i * 2 + t = off + (i * 2 + t) by omega, (FD.at_ (j := i * 2 + t) (by omega)).1]; rfl) (fun t ht => by
            rw [show off + i * 2 + t = off + (i * 2 + t) by omega]; exact (FD.at_ (j := i * 2 + t) (by omega)).2)
        go_wp2_with fail
        go_ret
        have htl : (D.take i).length = i := by rw [List.length_take]; omega
        have hcn : cUp S n = D.take i := by rw [← hnj]; exact HM.out.head.symm
        refine ⟨.slice (some ⟨b, off, none⟩) i c, rfl, ?_, ?_⟩
        · rw [hcn]
          refine ⟨some ⟨b, off, none⟩, c, by rw [htl], by rw [htl]; omega, by unfold maxLen; omega, fun _ => ⟨b, off, rfl, hb1, hb2, fun t ht => ?_⟩⟩
          rw [htl] at ht
          have hat := FD.at_ (j := t) (by omega)
          refine ⟨?_, ?_⟩
          · rw [World.cell?_setCells_out b _ _ _ ⟨b, off + t, none⟩ (fun _ _ => .inl (by show off + t < off + i * 2; omega)), hat.1]
            have : nthR (D.take i) (t / 2) = nthR D (t / 2) := by simp [nthR, List.getElem?_take_of_lt (show t / 2 < i by omega)]
            unfold rowCell
            rw [this]
          · rw [World.frozen?_setCells]; exact hat.2
        · rw [HROW.out]
          exact grownCells rfl _ _ _ HG.out
      have hjk : (j : Int) < ((n - k : Nat) : Int) := by omega
      obtain ⟨⟨x1, _⟩, x2, _⟩ := F1.out.at_ (j := k + j) (by omega)
      obtain ⟨⟨y1, _⟩, y2, _⟩ := F1.out.at_ (j := k + (j - 1)) (by omega)
      rw [HM.out.high (k + j) (by omega) (by rw [HN.out]; omega), show off + (k + j) * 2 = off + k * 2 + j * 2 by omega] at x1 x2
      rw [HM.out.high (k + (j - 1)) (by omega) (by rw [HN.out]; omega), show off + (k + (j - 1)) * 2 = off + k * 2 + (j - 1) * 2 by omega] at y1 y2
      obtain ⟨j1, HJ1⟩ : ∃ j1, Hid (j - 1 = j1) := ⟨_, Lib.hid rfl⟩
      have hj1 : (j : Int) - 1 = (j1 : Int) := by rw [← HJ1.out]; omega
      have hj1l : j1 < n - k := by rw [← HJ1.out]; omega
      rw [HJ1.out] at y1 y2
      obtain ⟨⟨s3, o3⟩, H3⟩ : ∃ q, Hid (nthR S (k + j) = q) := ⟨_, Lib.hid rfl⟩
      obtain ⟨⟨s4, o4⟩, H4⟩ : ∃ q, Hid (nthR S (k + j1) = q) := ⟨_, Lib.hid rfl⟩
      rw [H3.out] at x1 x2
      rw [H4.out] at y1 y2
      dsimp only at x1 x2 y1 y2
      have hneq := neq_row s3 o3 s4 o4
      have HP := Lib.hid (show k + j - 1 = k + j1 by rw [← HJ1.out]; omega)
      by_cases he : (s3, o3) = (s4, o4)
      case pos =>
        rw [decide_eq_true he] at hneq
        have HE := Lib.hid (show nthR S (k + j) = nthR S (k + j - 1) by rw [HP.out, H3.out, H4.out]; exact he); clear he
        go_wp2_with fail
        go_quiet (fail)
        go_wp2_with fail
        go_roundw
        case rel => exact ⟨j + 1, i, D, by omega, by omega, rfl, by go_num, Lib.hid (by rw [← Nat.add_assoc]; exact HM.out.same (by omega) HE.out), Lib.hid (HG.out.trans (grown_any (grown_drewN _ _))), Lib.hid (Sl.drewN F1.out _)⟩
        case measure => simp [intOf]; omega
      rw [decide_eq_false he] at hneq
      have HE := Lib.hid (show nthR S (k + j) ≠ nthR S (k + j - 1) by rw [HP.out, H3.out, H4.out]; exact he); clear he
      obtain ⟨⟨z1, z2⟩, z3, z4⟩ := F1.out.at_ (j := i) (by omega)
      have hii : (i : Int) < n := by omega
      go_wp2_with fail
      go_quiet (fail)
      go_wp2_with fail
      go_roundw
      case rel =>
        refine ⟨j + 1, i + 1, D.set i (s3, o3), by omega, by omega, by go_num, by go_num, Lib.hid (by rw [← Nat.add_assoc, ← H3.out]; exact HM.out.put (by omega) (by rw [HN.out]; omega) HE.out), Lib.hid ?_, Lib.hid (RowS.setRow (Sl.drewN F1.out _) (by omega) (s3, o3))⟩
        exact grown_set2 (HG.out.trans (grown_any (grown_drewN _ _)))
      case measure => simp [intOf]; omega

end Go.Proofs.Ytlfdhhmccjkogaa
