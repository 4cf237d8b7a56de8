/-
  Contracts: strings.Builder's WriteString, the text of a small number, the text of a table.
-/
import Derived.Test.YtlignkgfclenkaaDoorTx
import Derived.Test.YtlignkgfclenkaaDoorTz
import Derived.Test.YtlignkgfclenkaaDoorTab2
import Derived.Test.YtlignkgfclenkaaDoorShelf
import Derived.Lib.AppendStr
import Derived.Lib.ItoaNum
namespace Go.Proofs.YtlignkgfclenkaaDoor
open Go.ChangeShapes Go.WideShapes Go.ChangeAt Go.RowKit
set_option linter.unusedVariables false

set_option maxHeartbeats 2000000 in
set_option maxRecDepth 100000 in
theorem WriteString_any (B b : Nat) (bs : List Value) (s : ByteArray) (w : World) (h : Bld w B b bs) (hlen : bs.length + s.size ≤ 1048576) (hn : 0 < s.size) (hBw : B ≤ w.heap.size) :
    Calls Tryd.prog 31 #[.pointer (some ⟨b, 0, none⟩), .string s] w fun e w' => (∃ r, e = .returned r) ∧ Bld1 w' B b (bs ++ Lib.strCells s) ∧ Below B w w' := by
  obtain ⟨i0, hi, hz0⟩ := Option.map_eq_some_iff.1 Tryd.infoB
  simp only [Prod.mk.injEq] at hz0
  obtain ⟨hz0, hz1, hz2⟩ := hz0
  obtain ⟨m, HM⟩ : ∃ m, Hid (s.size = m) := ⟨_, Lib.hid rfl⟩
  rw [HM.out] at hlen hn
  go_enter Tryd.func31, Tryd.ntmps31
  go_wp2_with (go_at_call 56; refine (copyCheck_any B b bs _ h).mono ?_)
  rintro e w1 ⟨rfl, h1, hb1⟩
  obtain ⟨hB, v, hbk, hown, hne⟩ := h1
  have c0 : w1.cell? ⟨b, 0, none⟩ = some (.pointer (some ⟨b, 0, none⟩)) := by rw [Lib.cell_of_heap hbk]; rfl
  have c1 : w1.cell? ⟨b, 1, none⟩ = some v := by rw [Lib.cell_of_heap hbk]; rfl
  have hs1 := hb1.size
  go_wp2_with (at_builtin; refine Lib.wpList_append_own_string _ rfl _ _ 34 9 rfl B 5 i0 Tryd.underlying34 Tryd.underlying9 hi hz0 hz1 hz2 _ _ _ rfl hown s rfl ?c3 ?c4 ?c5 ?_)
  case c3 => unfold maxLen; rw [HM.out]; omega
  case c4 => rw [HM.out]; omega
  case c5 => omega
  intro v' w2 hown' hgrow _
  rw [HM.out] at hown'
  have hlt : b < w1.heap.size := (Array.getElem?_eq_some_iff.1 hbk).1
  have hb2 : w2.heap[b]? = some (.cells #[.pointer (some ⟨b, 0, none⟩), v] 57 (0, 0)) := by
    rw [hgrow.block b (by omega) (fun e => hne e.symm)]
    exact hbk
  have d0 : w2.cell? ⟨b, 0, none⟩ = some (.pointer (some ⟨b, 0, none⟩)) := by rw [Lib.cell_of_heap hb2]; rfl
  have d1 : w2.cell? ⟨b, 1, none⟩ = some v := by rw [Lib.cell_of_heap hb2]; rfl
  have f1 : w2.frozen? ⟨b, 1, none⟩ = false := Lib.frozen_of_heap hb2 1
  obtain ⟨g, cap, rfl⟩ : ∃ g cap, v' = .slice (some ⟨g, 0, none⟩) (bs.length + m) cap := by
    rcases hown'.2 with ⟨_, h0⟩ | ⟨g, cap, cur, hv, _⟩
    · omega
    · exact ⟨g, cap, hv⟩
  go_wp2
  go_ret2
  refine ⟨⟨_, rfl⟩, ?_, ?_⟩
  · exact Lib.BuilderAt.put (T := 57) (e := 5) hB hb2 (bs' := bs ++ Lib.strCells s) (by rw [List.length_append, Lib.strCells_length, HM.out]; exact hown') (by decide)
  · exact (hb1.grown hgrow (by omega) (fun k hk => (hown.lt k hk).1)).setCell (p := ⟨b, 1, none⟩) hB _
theorem WriteL_any (B b : Nat) (l m : List UInt8) (w : World) (h : Bld w B b (Lib.byteCells l)) (hlen : l.length + m.length ≤ 1048576) (hn : 0 < m.length) (hBw : B ≤ w.heap.size) :
    Calls Tryd.prog 31 #[.pointer (some ⟨b, 0, none⟩), .string (strL m)] w fun e w' => (∃ r, e = .returned r) ∧ Bld1 w' B b (Lib.byteCells (l ++ m)) ∧ Below B w w' := by
  have hs : (strL m).size = m.length := by simp [strL, ByteArray.size]
  refine (WriteString_any B b _ (strL m) w h (by rw [Lib.byteCells_length, hs]; exact hlen) (by rw [hs]; exact hn) hBw).mono ?_
  rintro e w' ⟨h1, h2, h3⟩
  refine ⟨h1, ?_, h3⟩
  rw [Lib.byteCells_append]
  rw [Lib.strCells_eq] at h2
  simpa [strL] using h2
theorem add_str2 {P : Program} {a b c : List UInt8} {s r : ByteArray} (hs : s = strL a) (hr : r = strL b) (h : a.length + b.length ≤ 8388608) (hc : a ++ b = c) (w : World) : (Op.stringOp .add s r).run P w = .ok (.string (strL c)) w := by
  subst hc; subst hs; subst hr
  exact run_string_add_lists w a b (by omega) (by omega)
/-- a text's bytes -/
def byt (s : ByteArray) : List UInt8 := s.data.toList
theorem strL_byt (s : ByteArray) : s = strL (byt s) := by
  obtain ⟨d⟩ := s
  show _ = (⟨d.toList.toArray⟩ : ByteArray)
  rw [Array.toArray_toList]
theorem byt_len (s : ByteArray) : (byt s).length = s.size := by
  unfold byt
  rw [Array.length_toList]
  rfl
theorem dec_small {n : Nat} (h : n < 10) : Lib.decDigits n = [dig n] := by rw [Lib.decDigits, dif_pos h]; rfl
theorem dec_big {n : Nat} (h : ¬ n < 10) : Lib.decDigits n = Lib.decDigits (n / 10) ++ [dig (n % 10)] := by rw [Lib.decDigits, dif_neg h]; rfl
theorem dec_two {n : Nat} (h : ¬ n < 10) (h2 : n < 100) : Lib.decDigits n = [dig (n / 10), dig (n % 10)] := by rw [dec_big h, dec_small (by omega)]; rfl
theorem dec_len {n : Nat} (h2 : n < 100) : (Lib.decDigits n).length ≤ 2 ∧ 0 < (Lib.decDigits n).length := by
  by_cases h : n < 10
  · rw [dec_small h]; simp
  · rw [dec_two h h2]; simp
theorem ret_sbT {a b : ByteArray} {c d : Bool} (h : b = a) (h2 : d = c) : Ending.returned (.tuple #[.string a, .bool c]) = .returned (.tuple #[.string b, .bool d]) := by rw [h, h2]
/-- the text of a table -/
def rowL (r : ByteArray × Int) : List UInt8 := byt r.1 ++ 32 :: (Lib.decDigits r.2.toNat ++ [10])
def tabTo (T : TabD) : Nat → List UInt8
  | 0 => Lib.decDigits T.depth.toNat ++ [10]
  | k + 1 => tabTo T k ++ rowL (nthR T.rows k)
def tabS (T : TabD) : ByteArray := if tabGood T = true then strL (tabTo T T.rows.length) else ⟨#[]⟩
theorem tabS_no {T : TabD} (h : tabGood T = false) : tabS T = ⟨#[]⟩ := by unfold tabS; rw [h]; rfl
theorem tabS_yes {T : TabD} (h : tabGood T = true) : tabS T = strL (tabTo T T.rows.length) := by unfold tabS; rw [if_pos h]
theorem tabGood_parts {T : TabD} (h : tabGood T = true) : (0 ≤ T.depth ∧ T.depth ≤ 4) ∧ T.rows.length ≤ 60 ∧ ∀ j, j < T.rows.length → (nthR T.rows j).1.size ≤ 4000 ∧ 0 ≤ (nthR T.rows j).2 ∧ (nthR T.rows j).2 ≤ 99 := by
  unfold tabGood at h
  rw [Bool.and_eq_true, Bool.and_eq_true, List.all_eq_true] at h
  refine ⟨inB_iff.1 h.1.1, of_decide_eq_true h.1.2, fun j hj => ?_⟩
  have := h.2 j (List.mem_range.2 hj)
  unfold rowGood at this
  split at this
  · cases this
  · rename_i t ht
    rw [Bool.and_eq_true, Bool.and_eq_true] at this
    refine ⟨?_, inB_iff.1 this.1.2⟩
    unfold vread at ht
    split at ht
    · assumption
    · cases ht
theorem tabTo_len {T : TabD} (h : tabGood T = true) : ∀ k, k ≤ T.rows.length → (tabTo T k).length ≤ 3 + 4005 * k
  | 0, _ => by
    have := tabGood_parts h
    have := (dec_len (n := T.depth.toNat) (by omega)).1
    rw [tabTo, List.length_append, List.length_cons, List.length_nil]
    omega
  | k + 1, hk => by
    have h1 := tabTo_len h k (by omega)
    have h2 := (tabGood_parts h).2.2 k (by omega)
    have h3 := (dec_len (n := (nthR T.rows k).2.toNat) (by omega)).1
    rw [tabTo, List.length_append]
    unfold rowL
    rw [List.length_append, byt_len, List.length_cons, List.length_append, List.length_cons, List.length_nil]
    omega

set_option maxHeartbeats 4000000 in
set_option maxRecDepth 100000 in
theorem l1Num_any (n : Nat) (w : World) (hn : n < 100) : Calls Tryd.prog 53 #[.int .i64 (n : Nat)] w fun e w' => e = .returned (.string (strL (Lib.decDigits n))) ∧ Below w.heap.size w w' := by
  by_cases h10 : n < 10
  · rw [dec_small h10]
    exact l1Num_dig n w (by omega)
  have HD := Lib.hid (dec_two h10 hn)
  have h10' : decide ((n : Int) < 10) = false := decide_eq_false (by omega)
  have h10n : decide (n < 10) = false := decide_eq_false (by omega)
  obtain ⟨q, HQ⟩ : ∃ q, Hid (n / 10 = q) := ⟨_, Lib.hid rfl⟩
  obtain ⟨r, HR⟩ : ∃ q, Hid (n % 10 = q) := ⟨_, Lib.hid rfl⟩
  have hq9 : q ≤ 9 := by rw [← HQ.out]; omega
  have hr9 : r ≤ 9 := by rw [← HR.out]; omega
  rw [HQ.out, HR.out] at HD
  have hdr := dig_nat hr9
  have htd : Int.tdiv (n : Int) 10 = (q : Int) := by rw [← HQ.out]; exact Int.ofNat_tdiv n 10
  have htm : Int.tmod (n : Int) 10 = (r : Int) := by rw [← HR.out]; exact Int.ofNat_tmod n 10
  have hwq : IntKind.i64.wrap (q : Int) = (q : Int) := IntWalk.i64_in _ (by omega)
  have hwr : IntKind.i64.wrap (48 + (r : Int)) = 48 + (r : Int) := IntWalk.i64_in _ (by omega)
  have hw8 : IntKind.u8.wrap (48 + (r : Int)) = 48 + (r : Int) := by simp [IntKind.wrap, IntKind.signed, IntKind.bits]; omega
  have hconv : ∀ (W : World) (g : Nat), W.cell? ⟨g, 0, none⟩ = some (.int .u8 (48 + (r : Int))) → (convert 34 9 (.slice (some ⟨g, 0, none⟩) 1 1)).run Tryd.prog W = .ok (.string (strL [dig r])) W := fun W g hc =>
    run_convert_bytes_back _ 34 9 5 ⟨g, 0, none⟩ 1 [dig r] Tryd.underlying34 Tryd.underlying5 Tryd.underlying9 (fun j hj => by
      obtain rfl : j = 0 := by simp at hj; omega
      simp only [List.getElem_cons_zero, hdr]
      rw [show (⟨g, 0, none⟩ : Addr).add 0 = ⟨g, 0, none⟩ from rfl, hc]
      simp)
  have add9 := fun w => add_str2 (P := Tryd.prog) (a := [dig q]) (b := [dig r]) (c := [dig q, dig r]) rfl rfl (by simp) rfl w
  go_enter Tryd.func53, Tryd.ntmps53
  go_wp2_with fail
  refine wp_region_U (fun _ => True) [] (by kernel_rfl) ?_
  refine nameU ?_
  intro U HU
  have hbU : Below w.heap.size w U := by rw [HU.out]; exact (Below.refl _ _).drew
  clear HU
  refine anyU_take (i := 0) (v := .int .i64 n) rfl (by kernel_rfl) (by kernel_rfl) (by kernel_rfl) (fun _ _ _ h => h) ⟨by rfl, fun w' hS' => (by go_simp)⟩ trivial ?_
  simp only [List.getElem_toArray, List.getElem_cons_zero, Act.put, List.setIfInBounds_toArray, List.set_cons_zero, List.set_cons_succ]
  refine anyU_take (i := 1) (v := .int .i64 q) rfl (by kernel_rfl) (by kernel_rfl) (by kernel_rfl) (fun _ _ _ h => h) ⟨by rfl, fun w' hS' => (by go_simp)⟩ trivial ?_
  simp only [List.getElem_toArray, List.getElem_cons_succ, List.getElem_cons_zero, Act.put, List.setIfInBounds_toArray, List.set_cons_zero, List.set_cons_succ]
  refine anyU_take (i := 3) (v := .int .i64 n) rfl (by kernel_rfl) (by kernel_rfl) (by kernel_rfl) (fun _ _ _ h => h) ⟨by rfl, fun w' hS' => (by go_simp)⟩ trivial ?_
  simp only [List.getElem_toArray, List.getElem_cons_succ, List.getElem_cons_zero, Act.put, List.setIfInBounds_toArray, List.set_cons_zero, List.set_cons_succ]
  refine anyU_take (i := 4) (v := .int .i64 r) rfl (by kernel_rfl) (by kernel_rfl) (by kernel_rfl) (fun _ _ _ h => h) ⟨by rfl, fun w' hS' => (by go_simp)⟩ trivial ?_
  simp only [List.getElem_toArray, List.getElem_cons_succ, List.getElem_cons_zero, Act.put, List.setIfInBounds_toArray, List.set_cons_zero, List.set_cons_succ]
  refine anyU_take (i := 5) (v := .int .i64 (48 + (r : Int))) rfl (by kernel_rfl) (by kernel_rfl) (by kernel_rfl) (fun _ _ _ h => h) ⟨by rfl, fun w' hS' => (by go_simp)⟩ trivial ?_
  simp only [List.getElem_toArray, List.getElem_cons_succ, List.getElem_cons_zero, Act.put, List.setIfInBounds_toArray, List.set_cons_zero, List.set_cons_succ]
  refine anyU_take (i := 6) (v := .int .u8 (48 + (r : Int))) rfl (by kernel_rfl) (by kernel_rfl) (by kernel_rfl) (fun _ _ _ h => h) ⟨by rfl, fun w' hS' => (by go_simp)⟩ trivial ?_
  simp only [List.getElem_toArray, List.getElem_cons_succ, List.getElem_cons_zero, Act.put, List.setIfInBounds_toArray, List.set_cons_zero, List.set_cons_succ]
  refine anyU_ready (rs := [2, 7]) (by kernel_rfl) (by simp) ?_
  refine ReadyU.cons (i := 2) rfl (fun K hK => ?_) (ReadyU.cons (i := 7) rfl (fun K hK => ?_) ReadyU.nil)
  · skip
    simp only [List.getElem_toArray, List.getElem_cons_succ, List.getElem_cons_zero]
    refine ite_is (by rfl) ?_
    simp [go_sem]
    refine (l1Num_dig q U hq9).mono ?_
    rintro e U2 ⟨rfl, hb2⟩
    refine hK.out _ _ ⟨fun _ => trivial, ?_⟩
    clear hK K
    try simp only [List.getElem_toArray, List.getElem_cons_succ, List.getElem_cons_zero, Act.put, List.setIfInBounds_toArray, List.set_cons_zero, List.set_cons_succ]
    refine anyU_ready (rs := [7]) (by kernel_rfl) (by simp) ?_
    refine ReadyU.cons (i := 7) rfl (fun K hK => ?_) ReadyU.nil
    simp only [List.getElem_toArray, List.getElem_cons_succ, List.getElem_cons_zero]
    refine ite_is (by rfl) ?_
    simp [go_sem]
    refine hK.out _ _ ⟨fun _ => trivial, ?_⟩
    clear hK K
    try simp only [List.getElem_toArray, List.getElem_cons_succ, List.getElem_cons_zero, Act.put, List.setIfInBounds_toArray, List.set_cons_zero, List.set_cons_succ]
    refine nameU ?_
    intro U3 HU3
    have hc : U3.cell? ⟨U2.heap.size, 0, none⟩ = some (.int .u8 (48 + (r : Int))) := by rw [HU3.out]; simp
    have hb3 : Below U2.heap.size U2 U3 := by rw [HU3.out]; exact (Below.refl _ _).alloc (Nat.le_refl _) _
    refine anyU_ready (rs := [8]) (by kernel_rfl) (by simp) ?_
    refine ReadyU.cons (i := 8) rfl (fun K hK => ?_) ReadyU.nil
    simp only [List.getElem_toArray, List.getElem_cons_succ, List.getElem_cons_zero]
    refine ite_is (by rfl) ?_
    simp [go_sem, hconv _ _ hc]
    refine hK.out _ _ ⟨fun _ => trivial, ?_⟩
    clear hK K
    try simp only [List.getElem_toArray, List.getElem_cons_succ, List.getElem_cons_zero, Act.put, List.setIfInBounds_toArray, List.set_cons_zero, List.set_cons_succ]
    refine anyU_take (i := 9) (v := .string (strL [dig q, dig r])) rfl (by kernel_rfl) (by kernel_rfl) (by kernel_rfl) (fun _ _ _ h => h) ⟨by rfl, fun w' hS' => (by go_simp)⟩ trivial ?_
    simp only [List.getElem_toArray, List.getElem_cons_succ, List.getElem_cons_zero, Act.put, List.setIfInBounds_toArray, List.set_cons_zero, List.set_cons_succ]
    refine anyU_take (i := 10) (v := .string (strL [dig q, dig r])) rfl (by kernel_rfl) (by kernel_rfl) (by kernel_rfl) (fun _ _ _ h => h) ⟨by rfl, fun w' hS' => (by go_simp)⟩ trivial ?_
    simp only [List.getElem_toArray, List.getElem_cons_succ, List.getElem_cons_zero, Act.put, List.setIfInBounds_toArray, List.set_cons_zero, List.set_cons_succ]
    refine anyU_done (by kernel_rfl) ?_ _
    go_wp2_with fail
    go_ret
    exact ⟨ret_str (by rw [HD.out]), (hbU.trans (hb2.mono hbU.size)).trans (hb3.mono (by have := hbU.size; have := hb2.size; omega))⟩
  · skip
    simp only [List.getElem_toArray, List.getElem_cons_succ, List.getElem_cons_zero]
    refine ite_is (by rfl) ?_
    simp [go_sem]
    refine hK.out _ _ ⟨fun _ => trivial, ?_⟩
    clear hK K
    try simp only [List.getElem_toArray, List.getElem_cons_succ, List.getElem_cons_zero, Act.put, List.setIfInBounds_toArray, List.set_cons_zero, List.set_cons_succ]
    refine nameU ?_
    intro U3 HU3
    have hc : U3.cell? ⟨U.heap.size, 0, none⟩ = some (.int .u8 (48 + (r : Int))) := by rw [HU3.out]; simp
    have hb3 : Below U.heap.size U U3 := by rw [HU3.out]; exact (Below.refl _ _).alloc (Nat.le_refl _) _
    have hz3 : U.heap.size < U3.heap.size := by rw [HU3.out]; simp
    have hw3 := hbU.trans (hb3.mono hbU.size)
    refine anyU_ready (rs := [2, 8]) (by kernel_rfl) (by simp) ?_
    refine ReadyU.cons (i := 2) rfl (fun K hK => ?_) (ReadyU.cons (i := 8) rfl (fun K hK => ?_) ReadyU.nil)
    · skip
      simp only [List.getElem_toArray, List.getElem_cons_succ, List.getElem_cons_zero]
      refine ite_is (by rfl) ?_
      simp [go_sem]
      refine (l1Num_dig q U3 hq9).mono ?_
      rintro e U2 ⟨rfl, hb2⟩
      refine hK.out _ _ ⟨fun _ => trivial, ?_⟩
      clear hK K
      try simp only [List.getElem_toArray, List.getElem_cons_succ, List.getElem_cons_zero, Act.put, List.setIfInBounds_toArray, List.set_cons_zero, List.set_cons_succ]
      have hc2 := (hb2.cell (p := ⟨U.heap.size, 0, none⟩) hz3).trans hc
      refine anyU_ready (rs := [8]) (by kernel_rfl) (by simp) ?_
      refine ReadyU.cons (i := 8) rfl (fun K hK => ?_) ReadyU.nil
      simp only [List.getElem_toArray, List.getElem_cons_succ, List.getElem_cons_zero]
      refine ite_is (by rfl) ?_
      simp [go_sem, hconv _ _ hc2]
      refine hK.out _ _ ⟨fun _ => trivial, ?_⟩
      clear hK K
      try simp only [List.getElem_toArray, List.getElem_cons_succ, List.getElem_cons_zero, Act.put, List.setIfInBounds_toArray, List.set_cons_zero, List.set_cons_succ]
      refine anyU_take (i := 9) (v := .string (strL [dig q, dig r])) rfl (by kernel_rfl) (by kernel_rfl) (by kernel_rfl) (fun _ _ _ h => h) ⟨by rfl, fun w' hS' => (by go_simp)⟩ trivial ?_
      simp only [List.getElem_toArray, List.getElem_cons_succ, List.getElem_cons_zero, Act.put, List.setIfInBounds_toArray, List.set_cons_zero, List.set_cons_succ]
      refine anyU_take (i := 10) (v := .string (strL [dig q, dig r])) rfl (by kernel_rfl) (by kernel_rfl) (by kernel_rfl) (fun _ _ _ h => h) ⟨by rfl, fun w' hS' => (by go_simp)⟩ trivial ?_
      simp only [List.getElem_toArray, List.getElem_cons_succ, List.getElem_cons_zero, Act.put, List.setIfInBounds_toArray, List.set_cons_zero, List.set_cons_succ]
      refine anyU_done (by kernel_rfl) ?_ _
      go_wp2_with fail
      go_ret
      exact ⟨ret_str (by rw [HD.out]), hw3.trans (hb2.mono hw3.size)⟩
    · skip
      simp only [List.getElem_toArray, List.getElem_cons_succ, List.getElem_cons_zero]
      refine ite_is (by rfl) ?_
      simp [go_sem, hconv _ _ hc]
      refine hK.out _ _ ⟨fun _ => trivial, ?_⟩
      clear hK K
      try simp only [List.getElem_toArray, List.getElem_cons_succ, List.getElem_cons_zero, Act.put, List.setIfInBounds_toArray, List.set_cons_zero, List.set_cons_succ]
      refine anyU_ready (rs := [2]) (by kernel_rfl) (by simp) ?_
      refine ReadyU.cons (i := 2) rfl (fun K hK => ?_) ReadyU.nil
      simp only [List.getElem_toArray, List.getElem_cons_succ, List.getElem_cons_zero]
      refine ite_is (by rfl) ?_
      simp [go_sem]
      refine (l1Num_dig q U3 hq9).mono ?_
      rintro e U2 ⟨rfl, hb2⟩
      refine hK.out _ _ ⟨fun _ => trivial, ?_⟩
      clear hK K
      try simp only [List.getElem_toArray, List.getElem_cons_succ, List.getElem_cons_zero, Act.put, List.setIfInBounds_toArray, List.set_cons_zero, List.set_cons_succ]
      refine anyU_take (i := 9) (v := .string (strL [dig q, dig r])) rfl (by kernel_rfl) (by kernel_rfl) (by kernel_rfl) (fun _ _ _ h => h) ⟨by rfl, fun w' hS' => (by go_simp)⟩ trivial ?_
      simp only [List.getElem_toArray, List.getElem_cons_succ, List.getElem_cons_zero, Act.put, List.setIfInBounds_toArray, List.set_cons_zero, List.set_cons_succ]
      refine anyU_take (i := 10) (v := .string (strL [dig q, dig r])) rfl (by kernel_rfl) (by kernel_rfl) (by kernel_rfl) (fun _ _ _ h => h) ⟨by rfl, fun w' hS' => (by go_simp)⟩ trivial ?_
      simp only [List.getElem_toArray, List.getElem_cons_succ, List.getElem_cons_zero, Act.put, List.setIfInBounds_toArray, List.set_cons_zero, List.set_cons_succ]
      refine anyU_done (by kernel_rfl) ?_ _
      go_wp2_with fail
      go_ret
      exact ⟨ret_str (by rw [HD.out]), hw3.trans (hb2.mono hw3.size)⟩

set_option maxHeartbeats 4000000 in
set_option maxRecDepth 100000 in
theorem TableText_impl (v : Value) (T : TabD) (lo hi : Nat) (w : World) (h : Tab w lo hi v T) (hhi : hi ≤ w.heap.size) (hz : T.sz ≤ 1048576) (ok : T.Ok) :
    Calls Tryd.prog 8 #[v] w (fun e w' => e = .returned (.tuple #[.string (tabS T), .bool (tabGood T)]) ∧ Below w.heap.size w w') := by
  clear ok hz
  obtain ⟨A, c, rfl, hr⟩ := h
  have HR := Lib.hid hr
  clear hr
  obtain ⟨dd, HDD⟩ : ∃ d, Hid (T.depth = d) := ⟨_, Lib.hid rfl⟩
  obtain ⟨n, HN⟩ : ∃ d, Hid (T.rows.length = d) := ⟨_, Lib.hid rfl⟩
  go_enter Tryd.func8, Tryd.ntmps8
  go_upto_region 1 with fail
  refine nameC ?_
  intro W HW
  have hbW : Below w.heap.size w W := by rw [HW.out]; exact below_a1 _ _
  have hsW : w.heap.size + 1 ≤ W.heap.size := by rw [HW.out]; simp
  have bx : BoxN W w.heap.size #[.int .i64 T.depth, .slice A T.rows.length c] 30 := by rw [HW.out]; exact BoxN.new _ _ _
  clear HW
  have HRW := Lib.hid (HR.out.below hbW hhi)
  have b0 : W.cell? ⟨w.heap.size, 0, none⟩ = some (.int .i64 T.depth) := bx.cell 0 (by simp)
  have b1 : W.cell? ⟨w.heap.size, 1, none⟩ = some (.slice A T.rows.length c) := bx.cell 1 (by simp)
  go_wp2_with fail
  clear b0 b1
  refine (isTable_any _ T lo hi W ⟨A, c, rfl, HRW.out⟩ (by omega)).mono ?_
  rintro e W1 ⟨rfl, hb1⟩
  have hs1 := hb1.size
  have hbW1 := hbW.trans (hb1.mono (by omega))
  have HBW1 := Lib.hid hbW1
  have BX := Lib.hid (bx.below hb1 (by omega))
  have HR1 := Lib.hid (HRW.out.below hb1 (by omega))
  clear hb1 hbW1 bx HRW HR hbW
  cases hg : tabGood T with
  | false =>
    have HG := Lib.hid hg
    go_wp2_with fail
    go_ret2
    exact ⟨ret_sbT (tabS_no HG.out) HG.out, HBW1.out⟩
  | true =>
  have HG := Lib.hid hg
  obtain ⟨hd, hn60, hrows⟩ := tabGood_parts hg
  have HTL := Lib.hid (tabTo_len hg)
  clear hg
  have HROW := Lib.hid hrows; clear hrows
  obtain ⟨A', c', he, hc1, hc2, hcell⟩ := HR1.out.form
  obtain ⟨rfl, rfl⟩ : A = A' ∧ c = c' := by injection he with h1 _ h2; exact ⟨h1, h2⟩
  have HC := Lib.hid hcell
  clear hcell he
  unfold maxLen at hc2
  rw [HN.out] at hc1 hn60 BX
  rw [HDD.out] at hd BX
  obtain ⟨d, rfl⟩ : ∃ d : Nat, dd = d := ⟨dd.toNat, by omega⟩
  have hdl := dec_len (n := d) (by omega)
  have HT0 := Lib.hid (show tabTo T 0 = Lib.decDigits d ++ [10] by rw [tabTo, HDD.out, Int.toNat_natCast])
  have add1 := fun w => add_str2 (P := Tryd.prog) (a := Lib.decDigits d) (b := [10]) (c := Lib.decDigits d ++ [10]) (s := ⟨(Lib.decDigits d).toArray⟩) (r := ⟨#[10]⟩) rfl rfl (by simp only [List.length_cons, List.length_nil]; omega) rfl w
  go_upto_region 4 with fail
  refine nameC ?_
  intro W2 HW2
  have hb2 : Below W1.heap.size W1 W2 := by rw [HW2.out]; exact below_a1 _ _
  have hs2 : W1.heap.size + 1 ≤ W2.heap.size := by rw [HW2.out]; simp
  have HBL := Lib.hid (show Bld W2 W1.heap.size W1.heap.size (Lib.byteCells []) by rw [HW2.out]; exact Lib.fresh_isBuilder _ _ W1)
  have bx2 := BX.out.below hb2 (by have := BX.out.lt; omega)
  have HBX2 := Lib.hid bx2
  have HB2 := Lib.hid hb2
  have b0 : W2.cell? ⟨w.heap.size, 0, none⟩ = some (.int .i64 d) := bx2.cell 0 (by simp)
  clear HW2 bx2 hb2
  have HWR := Lib.hid (fun (W : World) (hb : W = W2) => hb)
  go_upto_region 5 with (first | (go_at_call 32; refine (Tryd.strconv_Itoa_small d (by omega) _).mono ?_; rintro e w' ⟨rfl, rfl⟩) | (go_at_call 31; refine (WriteL_any W1.heap.size W1.heap.size [] (Lib.decDigits d ++ [10]) _ HBL.out (by simp only [List.length_append, List.length_cons, List.length_nil]; omega) (by simp) (by omega)).mono ?_; rintro e W3 ⟨⟨rr, rfl⟩, hb3, hbe3⟩))
  clear b0 add1
  have HB3 := Lib.hid (show Bld1 W3 W1.heap.size W1.heap.size (Lib.byteCells (tabTo T 0)) by rw [HT0.out]; exact hb3)
  have HBE3 := Lib.hid (HB2.out.trans hbe3)
  clear hb3 hbe3 HBL HB2 HWR
  have b1 : W3.cell? ⟨w.heap.size, 1, none⟩ = some (.slice A n c) := (BX.out.below HBE3.out (by omega)).cell 1 (by simp)
  go_wp2_with fail
  clear b1
  go_loopw [18] (fun i' wr => ∃ k : Nat, k ≤ n ∧ i' = .int .i64 k ∧ Hid (Bld1 wr W1.heap.size W1.heap.size (Lib.byteCells (tabTo T k))) ∧ Hid (Below W1.heap.size W1 wr)) (fun i' _ => n - (intOf i').toNat)
  case atStart => exact ⟨0, Nat.zero_le _, rfl, HB3, HBE3⟩
  case round =>
    clear HB3 HBE3
    obtain ⟨k, hk, rfl, HB, HBE⟩ := hrel
    have hsr := HBE.out.size
    by_cases hlt : k < n
    case neg =>
      obtain rfl : k = n := by omega
      go_wp2_with fail
      refine (Tryd.Builder_String_any W1.heap.size W1.heap.size _ wr (.inr HB.out) hsr).mono ?_
      rintro e w3 ⟨rfl, hbe⟩
      go_wp2_with fail
      go_ret2
      exact ⟨ret_sbT (by rw [tabS_yes HG.out, HN.out]; rfl) HG.out, HBW1.out.trans ((HBE.out.trans hbe).mono HBW1.out.size)⟩
    obtain ⟨b, off, rfl, hb1, hb2, hcs⟩ := HC.out (by rw [HN.out]; omega)
    obtain ⟨r1, r2, r3⟩ := HROW.out k (by rw [HN.out]; exact hlt)
    have HNX := Lib.hid (show tabTo T (k + 1) = tabTo T k ++ rowL (nthR T.rows k) from rfl)
    have hlen := HTL.out k (by rw [HN.out]; omega)
    obtain ⟨x1, x2⟩ := hcs k (by rw [HN.out]; exact hlt)
    have p1 := (HBE.out.cell (p := ⟨b, off + k * 2, none⟩) (by show b < _; omega)).trans x1
    have p2 := (HBE.out.cell (p := ⟨b, off + k * 2 + 1, none⟩) (by show b < _; omega)).trans x2
    clear x1 x2 hcs
    obtain ⟨s, HS⟩ : ∃ s, Hid ((nthR T.rows k).1 = s) := ⟨_, Lib.hid rfl⟩
    obtain ⟨oo, HO⟩ : ∃ o, Hid ((nthR T.rows k).2 = o) := ⟨_, Lib.hid rfl⟩
    rw [HS.out] at p1 r1
    rw [HO.out] at p2 r2 r3
    obtain ⟨o, rfl⟩ : ∃ d : Nat, oo = d := ⟨oo.toNat, by omega⟩
    have HRL := Lib.hid (show rowL (nthR T.rows k) = byt s ++ 32 :: (Lib.decDigits o ++ [10]) by unfold rowL; rw [HS.out, HO.out, Int.toNat_natCast])
    have hol := dec_len (n := o) (by omega)
    go_upto_region 8 with fail
    clear p1 p2
    refine nameC ?_
    intro V HV
    have hgV : wr.grownBy V none := by rw [HV.out]; exact grown_alloc _ _
    have hzV : wr.heap.size + 1 ≤ V.heap.size := by rw [HV.out]; simp
    have bv : BoxN V wr.heap.size #[.string s, .int .i64 o] 64 := by rw [HV.out]; exact BoxN.new _ _ _
    have HBV := Lib.hid (show Bld1 V W1.heap.size W1.heap.size (Lib.byteCells (tabTo T k)) by rw [HV.out]; exact BuilderAt_alloc HB.out _)
    have HBEV := Lib.hid (show Below W1.heap.size W1 V by rw [HV.out]; exact HBE.out.alloc hsr _)
    clear HV
    refine wp_region_U (fun w' => w'.cell? ⟨wr.heap.size, 0, none⟩ = some (.string s) ∧ w'.cell? ⟨wr.heap.size, 1, none⟩ = some (.int .i64 o)) [8] (by kernel_rfl) ?_
    refine nameU ?_
    intro U HU
    have hgU : V.grownBy U none := by rw [HU.out]; exact grown_drew _
    have hbU : Below W1.heap.size V U := by rw [HU.out]; exact (Below.refl _ _).drew
    have HBU := Lib.hid (show Bld1 U W1.heap.size W1.heap.size (Lib.byteCells (tabTo T k)) by rw [HU.out]; exact HBV.out)
    have hzU := hgU.size
    clear HU
    have hS : U.cell? ⟨wr.heap.size, 0, none⟩ = some (.string s) ∧ U.cell? ⟨wr.heap.size, 1, none⟩ = some (.int .i64 o) := ⟨(bv.still hgU).cell 0 (by simp), (bv.still hgU).cell 1 (by simp)⟩
    have hbl := byt_len s
    have hsb := strL_byt s
    have ad1 := fun w => add_str2 (P := Tryd.prog) (a := byt s) (b := [32]) (c := byt s ++ [32]) (s := s) (r := ⟨#[32]⟩) hsb rfl (by simp only [List.length_cons, List.length_nil]; omega) rfl w
    have ad2 := fun w => add_str2 (P := Tryd.prog) (a := byt s ++ [32]) (b := Lib.decDigits o) (c := byt s ++ 32 :: Lib.decDigits o) (s := strL (byt s ++ [32])) (r := ⟨(Lib.decDigits o).toArray⟩) rfl rfl (by simp only [List.length_append, List.length_cons, List.length_nil]; omega) (by simp) w
    have ad3 := fun w => add_str2 (P := Tryd.prog) (a := byt s ++ 32 :: Lib.decDigits o) (b := [10]) (c := byt s ++ 32 :: (Lib.decDigits o ++ [10])) (s := strL (byt s ++ 32 :: Lib.decDigits o)) (r := ⟨#[10]⟩) rfl rfl (by simp only [List.length_append, List.length_cons, List.length_nil]; omega) (by simp) w
    clear hsb
    refine anyU_take (i := 0) (v := .pointer (some ⟨wr.heap.size, 0, none⟩)) rfl (by kernel_rfl) (by kernel_rfl) (by kernel_rfl) (fun _ _ _ h => h) ⟨by rfl, fun w' hS' => (by obtain ⟨s1, s2⟩ := hS'; go_simp)⟩ hS ?_
    simp only [List.getElem_toArray, List.getElem_cons_zero, Act.put, List.setIfInBounds_toArray, List.set_cons_zero, List.set_cons_succ]
    refine anyU_take (i := 1) (v := .string s) rfl (by kernel_rfl) (by kernel_rfl) (by kernel_rfl) (fun _ _ _ h => h) ⟨by rfl, fun w' hS' => (by obtain ⟨s1, s2⟩ := hS'; go_simp)⟩ hS ?_
    simp only [List.getElem_toArray, List.getElem_cons_succ, List.getElem_cons_zero, Act.put, List.setIfInBounds_toArray, List.set_cons_zero, List.set_cons_succ]
    refine anyU_take (i := 2) (v := .string (strL (byt s ++ [32]))) rfl (by kernel_rfl) (by kernel_rfl) (by kernel_rfl) (fun _ _ _ h => h) ⟨by rfl, fun w' hS' => (by obtain ⟨s1, s2⟩ := hS'; go_simp)⟩ hS ?_
    simp only [List.getElem_toArray, List.getElem_cons_succ, List.getElem_cons_zero, Act.put, List.setIfInBounds_toArray, List.set_cons_zero, List.set_cons_succ]
    refine anyU_take (i := 3) (v := .pointer (some ⟨wr.heap.size, 1, none⟩)) rfl (by kernel_rfl) (by kernel_rfl) (by kernel_rfl) (fun _ _ _ h => h) ⟨by rfl, fun w' hS' => (by obtain ⟨s1, s2⟩ := hS'; go_simp)⟩ hS ?_
    simp only [List.getElem_toArray, List.getElem_cons_succ, List.getElem_cons_zero, Act.put, List.setIfInBounds_toArray, List.set_cons_zero, List.set_cons_succ]
    refine anyU_take (i := 4) (v := .int .i64 o) rfl (by kernel_rfl) (by kernel_rfl) (by kernel_rfl) (fun _ _ _ h => h) ⟨by rfl, fun w' hS' => (by obtain ⟨s1, s2⟩ := hS'; go_simp)⟩ hS ?_
    simp only [List.getElem_toArray, List.getElem_cons_succ, List.getElem_cons_zero, Act.put, List.setIfInBounds_toArray, List.set_cons_zero, List.set_cons_succ]
    refine anyU_ready (rs := [5]) (by kernel_rfl) (by simp) ?_
    refine ReadyU.cons (i := 5) rfl (fun K hK => ?_) ReadyU.nil
    simp only [List.getElem_toArray, List.getElem_cons_succ, List.getElem_cons_zero]
    refine ite_is (by rfl) ?_
    simp [go_sem]
    refine (Tryd.strconv_Itoa_small o (by omega) _).mono ?_
    rintro e w' ⟨rfl, rfl⟩
    refine hK.out _ _ ⟨fun _ => hS, ?_⟩
    clear hK K
    try simp only [List.getElem_toArray, List.getElem_cons_succ, List.getElem_cons_zero, Act.put, List.setIfInBounds_toArray, List.set_cons_zero, List.set_cons_succ]
    refine anyU_take (i := 6) (v := .string (strL (byt s ++ 32 :: Lib.decDigits o))) rfl (by kernel_rfl) (by kernel_rfl) (by kernel_rfl) (fun _ _ _ h => h) ⟨by rfl, fun w' hS' => (by obtain ⟨s1, s2⟩ := hS'; go_simp)⟩ hS ?_
    simp only [List.getElem_toArray, List.getElem_cons_succ, List.getElem_cons_zero, Act.put, List.setIfInBounds_toArray, List.set_cons_zero, List.set_cons_succ]
    refine anyU_take (i := 7) (v := .string (strL (byt s ++ 32 :: (Lib.decDigits o ++ [10])))) rfl (by kernel_rfl) (by kernel_rfl) (by kernel_rfl) (fun _ _ _ h => h) ⟨by rfl, fun w' hS' => (by obtain ⟨s1, s2⟩ := hS'; go_simp)⟩ hS ?_
    simp only [List.getElem_toArray, List.getElem_cons_succ, List.getElem_cons_zero, Act.put, List.setIfInBounds_toArray, List.set_cons_zero, List.set_cons_succ]
    refine anyU_ready (rs := [8]) (by kernel_rfl) (by simp) ?_
    refine ReadyU.cons (i := 8) rfl (fun K hK => ?_) ReadyU.nil
    simp only [List.getElem_toArray, List.getElem_cons_succ, List.getElem_cons_zero]
    refine ite_is (by rfl) ?_
    simp [go_sem]
    refine (WriteL_any W1.heap.size W1.heap.size (tabTo T k) (byt s ++ 32 :: (Lib.decDigits o ++ [10])) _ (.inr HBU.out) (by simp only [List.length_append, List.length_cons, List.length_nil]; omega) (by simp only [List.length_append, List.length_cons, List.length_nil]; omega) (by omega)).mono ?_
    rintro e W4 ⟨⟨rr, rfl⟩, hb4, hbe4⟩
    refine hK.out _ _ ⟨fun h => absurd h (by decide), ?_⟩
    clear hK K
    try simp only [List.getElem_toArray, List.getElem_cons_succ, List.getElem_cons_zero, Act.put, List.setIfInBounds_toArray, List.set_cons_zero, List.set_cons_succ]
    refine anyU_done (by kernel_rfl) ?_ _
    have HB4 := Lib.hid (show Bld1 W4 W1.heap.size W1.heap.size (Lib.byteCells (tabTo T (k + 1))) by rw [HNX.out, HRL.out]; exact hb4)
    have HBE4 := Lib.hid ((HBEV.out.trans hbU).trans hbe4)
    clear hb4 hbe4
    go_wp2_with fail
    go_roundw
    case rel => exact ⟨k + 1, by omega, by go_num, HB4, HBE4⟩
    case measure => simp [intOf]; omega

set_option maxHeartbeats 4000000 in
set_option maxRecDepth 100000 in
theorem taText_any (v : Value) (T : TabD) (lo hi : Nat) (w : World) (h : Tab w lo hi v T) (hhi : hi ≤ w.heap.size) (hg : tabGood T = true) :
    Calls Tryd.prog 28 #[v] w (fun e w' => e = .returned (.string (strL (tabTo T T.rows.length))) ∧ Below w.heap.size w w') := by
  obtain ⟨A, c, rfl, hr⟩ := h
  have HR := Lib.hid hr
  clear hr
  obtain ⟨dd, HDD⟩ : ∃ d, Hid (T.depth = d) := ⟨_, Lib.hid rfl⟩
  obtain ⟨n, HN⟩ : ∃ d, Hid (T.rows.length = d) := ⟨_, Lib.hid rfl⟩
  obtain ⟨hd, hn60, hrows⟩ := tabGood_parts hg
  have HTL := Lib.hid (tabTo_len hg)
  clear hg
  have HROW := Lib.hid hrows; clear hrows
  obtain ⟨A', c', he, hc1, hc2, hcell⟩ := HR.out.form
  obtain ⟨rfl, rfl⟩ : A = A' ∧ c = c' := by injection he with h1 _ h2; exact ⟨h1, h2⟩
  have HC := Lib.hid hcell
  clear hcell he
  unfold maxLen at hc2
  rw [HN.out] at hc1 hn60 ⊢
  rw [HDD.out] at hd ⊢
  obtain ⟨d, rfl⟩ : ∃ d : Nat, dd = d := ⟨dd.toNat, by omega⟩
  have hdl := dec_len (n := d) (by omega)
  have HT0 := Lib.hid (show tabTo T 0 = Lib.decDigits d ++ [10] by rw [tabTo, HDD.out, Int.toNat_natCast])
  have add1 := fun w => add_str2 (P := Tryd.prog) (a := Lib.decDigits d) (b := [10]) (c := Lib.decDigits d ++ [10]) (s := strL (Lib.decDigits d)) (r := ⟨#[10]⟩) rfl rfl (by simp only [List.length_cons, List.length_nil]; omega) rfl w
  go_enter Tryd.func28, Tryd.ntmps28
  go_upto_region 1 with fail
  refine nameC ?_
  intro W HW
  have hbW : Below w.heap.size w W := by rw [HW.out]; exact below_a1 _ _
  have hsW : w.heap.size + 1 ≤ W.heap.size := by rw [HW.out]; simp
  have bx : BoxN W w.heap.size #[.int .i64 d, .slice A n c] 30 := by rw [HW.out]; exact BoxN.new _ _ _
  have HBW := Lib.hid hbW
  have BX := Lib.hid bx
  clear HW
  have b0 : W.cell? ⟨w.heap.size, 0, none⟩ = some (.int .i64 d) := bx.cell 0 (by simp)
  go_upto_region 2 with (go_at_call 53; refine (l1Num_any d _ (by omega)).mono ?_; rintro e W1 ⟨rfl, hb1⟩)
  clear b0 add1
  have hs1 := hb1.size
  have HB1 := Lib.hid hb1
  have b1 : W1.cell? ⟨w.heap.size, 1, none⟩ = some (.slice A n c) := (BX.out.below hb1 (by omega)).cell 1 (by simp)
  clear hb1 hbW bx
  go_wp2_with fail
  clear b1
  go_loopw [13, 3] (fun i' c' wr => ∃ (k : Nat) (L : List UInt8), k ≤ n ∧ i' = .int .i64 k ∧ c' = .string (strL L) ∧ Hid (L = tabTo T k) ∧ Hid (Below W.heap.size W wr)) (fun i' _ _ => n - (intOf i').toNat)
  case atStart => exact ⟨0, _, Nat.zero_le _, rfl, rfl, Lib.hid HT0.out.symm, HB1⟩
  case round =>
    clear HB1
    obtain ⟨k, L, hk, rfl, rfl, HL, HBE⟩ := hrel
    have hsr := HBE.out.size
    by_cases hlt : k < n
    case neg =>
      obtain rfl : k = n := by omega
      go_wp2_with fail
      go_ret
      exact ⟨ret_str (by rw [HL.out]), HBW.out.trans (HBE.out.mono HBW.out.size)⟩
    obtain ⟨b, off, rfl, hb1, hb2, hcs⟩ := HC.out (by rw [HN.out]; omega)
    obtain ⟨r1, r2, r3⟩ := HROW.out k (by rw [HN.out]; exact hlt)
    have HNX := Lib.hid (show tabTo T (k + 1) = tabTo T k ++ rowL (nthR T.rows k) from rfl)
    have hlen := HTL.out k (by rw [HN.out]; omega)
    rw [← HL.out] at hlen
    obtain ⟨x1, x2⟩ := hcs k (by rw [HN.out]; exact hlt)
    have hbr := HBW.out.trans (HBE.out.mono HBW.out.size)
    have p1 := (hbr.cell (p := ⟨b, off + k * 2, none⟩) (by show b < _; omega)).trans x1
    have p2 := (hbr.cell (p := ⟨b, off + k * 2 + 1, none⟩) (by show b < _; omega)).trans x2
    clear x1 x2 hcs hbr
    obtain ⟨s, HS⟩ : ∃ s, Hid ((nthR T.rows k).1 = s) := ⟨_, Lib.hid rfl⟩
    obtain ⟨oo, HO⟩ : ∃ o, Hid ((nthR T.rows k).2 = o) := ⟨_, Lib.hid rfl⟩
    rw [HS.out] at p1 r1
    rw [HO.out] at p2 r2 r3
    obtain ⟨o, rfl⟩ : ∃ d : Nat, oo = d := ⟨oo.toNat, by omega⟩
    have HRL := Lib.hid (show rowL (nthR T.rows k) = byt s ++ 32 :: (Lib.decDigits o ++ [10]) by unfold rowL; rw [HS.out, HO.out, Int.toNat_natCast])
    have hol := dec_len (n := o) (by omega)
    go_upto_region 5 with fail
    clear p1 p2
    refine nameC ?_
    intro V HV
    have hbV : Below wr.heap.size wr V := by rw [HV.out]; exact below_a1 _ _
    have hzV : wr.heap.size + 1 ≤ V.heap.size := by rw [HV.out]; simp
    have bv : BoxN V wr.heap.size #[.string s, .int .i64 o] 64 := by rw [HV.out]; exact BoxN.new _ _ _
    have HBEV := Lib.hid (HBE.out.trans (hbV.mono hsr))
    clear HV hbV
    have e0 := ext_cell V (a := ⟨wr.heap.size, 0, none⟩) (by show wr.heap.size < _; omega) (bv.cell 0 (by simp))
    have e1 := ext_cell V (a := ⟨wr.heap.size, 1, none⟩) (by show wr.heap.size < _; omega) (bv.cell 1 (by simp))
    simp only [List.getElem_toArray, List.getElem_cons_zero, List.getElem_cons_succ] at e0 e1
    clear bv
    have hbl := byt_len s
    have hsb := strL_byt s
    have ad1 := fun w => add_str2 (P := Tryd.prog) (a := byt s) (b := [32]) (c := byt s ++ [32]) (s := s) (r := ⟨#[32]⟩) hsb rfl (by simp only [List.length_cons, List.length_nil]; omega) rfl w
    have ad2 := fun w => add_str2 (P := Tryd.prog) (a := byt s ++ [32]) (b := Lib.decDigits o) (c := byt s ++ 32 :: Lib.decDigits o) (s := strL (byt s ++ [32])) (r := strL (Lib.decDigits o)) rfl rfl (by simp only [List.length_append, List.length_cons, List.length_nil]; omega) (by simp) w
    have ad3 := fun w => add_str2 (P := Tryd.prog) (a := byt s ++ 32 :: Lib.decDigits o) (b := [10]) (c := byt s ++ 32 :: (Lib.decDigits o ++ [10])) (s := strL (byt s ++ 32 :: Lib.decDigits o)) (r := ⟨#[10]⟩) rfl rfl (by simp only [List.length_append, List.length_cons, List.length_nil]; omega) (by simp) w
    have ad4 := fun w => add_str2 (P := Tryd.prog) (a := L) (b := byt s ++ 32 :: (Lib.decDigits o ++ [10])) (c := L ++ (byt s ++ 32 :: (Lib.decDigits o ++ [10]))) (s := strL L) (r := strL (byt s ++ 32 :: (Lib.decDigits o ++ [10]))) rfl rfl (by simp only [List.length_append, List.length_cons, List.length_nil]; omega) rfl w
    clear hsb
    refine wp_region_ext (by kernel_rfl) (by kernel_rfl) ?_
    repeat (go_big_quiet_step ((go_at_call 53; exact ext_call (l1Num_any o _ (by omega)))))
    refine wpQuiet_nil ?_
    intro _ hw'
    obtain ⟨px, hw''⟩ := hw'
    subst hw''
    clear e0 e1 ad1 ad2 ad3 ad4
    go_wp2_with fail
    go_roundw
    case rel => exact ⟨k + 1, _, by omega, by go_num, rfl, Lib.hid (by rw [HNX.out, HRL.out, HL.out]), Lib.hid (HBEV.out.trans ((ext_below _ _).mono HBEV.out.size))⟩
    case measure => simp [intOf]; omega

set_option maxHeartbeats 4000000 in
set_option maxRecDepth 100000 in
theorem TableText_spec (v : Value) (T : TabD) (lo hi : Nat) (w : World) (h : Tab w lo hi v T) (hhi : hi ≤ w.heap.size) (hz : T.sz ≤ 1048576) (ok : T.Ok) :
    Calls Tryd.prog 6 #[v] w (fun e w' => e = .returned (.tuple #[.string (tabS T), .bool (tabGood T)]) ∧ Below w.heap.size w w') := by
  clear ok hz
  obtain ⟨A, c, rfl, hr⟩ := h
  have HR := Lib.hid hr
  clear hr
  go_enter Tryd.func6, Tryd.ntmps6
  go_upto_region 1 with fail
  refine nameC ?_
  intro W HW
  have hbW : Below w.heap.size w W := by rw [HW.out]; exact below_a1 _ _
  have hsW : w.heap.size + 1 ≤ W.heap.size := by rw [HW.out]; simp
  have bx : BoxN W w.heap.size #[.int .i64 T.depth, .slice A T.rows.length c] 30 := by rw [HW.out]; exact BoxN.new _ _ _
  clear HW
  have HRW := Lib.hid (HR.out.below hbW hhi)
  have b0 : W.cell? ⟨w.heap.size, 0, none⟩ = some (.int .i64 T.depth) := bx.cell 0 (by simp)
  have b1 : W.cell? ⟨w.heap.size, 1, none⟩ = some (.slice A T.rows.length c) := bx.cell 1 (by simp)
  go_wp2_with fail
  clear b0 b1
  refine (taGood_any _ T lo hi W ⟨A, c, rfl, HRW.out⟩ (by omega)).mono ?_
  rintro e W1 ⟨rfl, hb1⟩
  have hs1 := hb1.size
  have HBW1 := Lib.hid (hbW.trans (hb1.mono (by omega)))
  have b0 : W1.cell? ⟨w.heap.size, 0, none⟩ = some (.int .i64 T.depth) := (bx.below hb1 (by omega)).cell 0 (by simp)
  have b1 : W1.cell? ⟨w.heap.size, 1, none⟩ = some (.slice A T.rows.length c) := (bx.below hb1 (by omega)).cell 1 (by simp)
  have HR1 := Lib.hid (HRW.out.below hb1 (by omega))
  clear hb1 bx HRW HR hbW
  cases hg : tabGood T with
  | false =>
    have HG := Lib.hid hg
    go_wp2_with fail
    go_ret2
    exact ⟨ret_sbT (tabS_no HG.out) HG.out, HBW1.out⟩
  | true =>
    have HG := Lib.hid hg; clear hg
    go_wp2_with (go_at_call 28; refine (taText_any _ T lo hi W1 ⟨A, c, rfl, HR1.out⟩ (by omega) HG.out).mono ?_; rintro e W2 ⟨rfl, hb2⟩)
    go_ret2
    exact ⟨ret_sbT (tabS_yes HG.out) HG.out, HBW1.out.trans (hb2.mono HBW1.out.size)⟩

end Go.Proofs.YtlignkgfclenkaaDoor
