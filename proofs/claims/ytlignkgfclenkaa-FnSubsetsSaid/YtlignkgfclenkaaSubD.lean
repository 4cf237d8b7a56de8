/-
  Contracts: the drawn numbers and lists, and the law's helpers.
-/
import Derived.Test.YtlignkgfclenkaaCurs2
import Derived.Test.YtlignkgfclenkaaNearP
import Derived.Test.YtlignkgfclenkaaOwnSS
import Derived.Deep.Cut
namespace Go.Proofs.Ytlignkgfclenkaa
open Go.ChangeShapes Go.WideShapes Go.ChangeAt Go.RowKit
set_option linter.unusedVariables false

theorem mem_in {zs : List Int} {lo hi : Int} (h : ∀ x ∈ zs, lo ≤ x ∧ x ≤ hi) {j : Nat} (hj : j < zs.length) : ∃ x : Int, nth zs j = x ∧ lo ≤ x ∧ x ≤ hi := ⟨_, rfl, h _ (nth_mem hj)⟩

set_option maxHeartbeats 1000000 in
set_option maxRecDepth 100000 in
theorem DrawSubsetsOf_any (v1 : Value) (code : List Int) (lo1 hi1 : Nat) (w : World) (h1 : ByS w lo1 hi1 v1 code) (hh1 : hi1 ≤ w.heap.size) (hb : Bytes code) (hl : code.length ≤ 1048576) :
    Calls Try.prog 23 #[v1] w fun e w' => ∃ n k : Int, e = .returned (.tuple #[.int .i64 n, .int .i64 k]) ∧ 0 ≤ n ∧ n ≤ 61 ∧ 0 ≤ k ∧ k ≤ 61 ∧ Below w.heap.size w w' := by
  have HBY := Lib.hid hb; clear hb
  have F1 := Lib.hid h1
  obtain ⟨A1, c1, rfl, hc1, hd1⟩ := h1.dims
  clear h1
  go_enter Try.func23, Try.ntmps23
  go_upto_region 2 with (fail)
  refine nameC ?_
  intro W1 HW1
  have hg1 : w.grownBy W1 none := by rw [HW1.out]; exact grown_alloc _ _
  have hs1 := hg1.size
  have HF1 := Lib.hid ((Turned.refl w.heap.size w.heap.size w).still hg1)
  have HC := Lib.hid (show Cur W1 w.heap.size (.slice A1 code.length c1) 0 by rw [HW1.out]; exact ⟨0, 0, Nat.le_refl _, by omega, by omega, BoxN.new _ _ _⟩)
  have hzc : w.heap.size + 1 ≤ W1.heap.size := by rw [HW1.out]; simp
  clear HW1
  go_wp2_with fail
  refine nameK ?_
  intro W2 HW2
  have hg2 : W1.grownBy W2 none := by rw [HW2.out]; exact grown_alloc _ _
  have hs2 := hg2.size
  have HF2 := Lib.hid (HF1.out.still hg2); clear HF1
  have C2 := Lib.hid (Cur.still HC.out hg2); clear HC
  have L2 := Lib.hid (show IntS W2 W1.heap.size (W1.heap.size + 1) (.slice (some ⟨W1.heap.size, 0, none⟩) 9 9) [0, 1, 4, 5, 6, 7, 12, 60, 61] by rw [HW2.out]; exact IntS.newN W1 [0, 1, 4, 5, 6, 7, 12, 60, 61] _ rfl (by simp))
  have hz2 : W1.heap.size + 1 ≤ W2.heap.size := by rw [HW2.out]; simp
  clear HW2
  refine (among_any w.heap.size 0 lo1 hi1 _ code _ ([0, 1, 4, 5, 6, 7, 12, 60, 61] : List Int) (W1.heap.size) (W1.heap.size + 1) _ C2.out (by omega) (ByS.turned F1.out HF2.out (by omega) (by omega)) HBY.out (by omega) (by omega) (by omega) L2.out (by simp) (by omega) (by omega)).mono ?_
  rintro e W3 ⟨j2, hj2, rfl, hC3, hg3⟩
  have hs3 := hg3.size
  have HF3 := Lib.hid (HF2.out.grown hg3 (fun b e => by cases e; omega)); clear HF2
  have HC3 := Lib.hid hC3; clear hC3 C2
  obtain ⟨n, hen, n1, n2⟩ := mem_in (zs := [0, 1, 4, 5, 6, 7, 12, 60, 61]) (lo := 0) (hi := 61) (by intro x hx; simp at hx; omega) hj2
  rw [hen]
  clear hen L2
  go_wp2_with fail
  refine nameK ?_
  intro W4 HW4
  have hg4 : W3.grownBy W4 none := by rw [HW4.out]; exact grown_alloc _ _
  have hs4 := hg4.size
  have HF4 := Lib.hid (HF3.out.still hg4); clear HF3
  have C4 := Lib.hid (Cur.still HC3.out hg4); clear HC3
  have L4 := Lib.hid (show IntS W4 W3.heap.size (W3.heap.size + 1) (.slice (some ⟨W3.heap.size, 0, none⟩) 10 10) [0, 1, 2, 3, 4, 5, 6, 59, 60, 61] by rw [HW4.out]; exact IntS.newN W3 [0, 1, 2, 3, 4, 5, 6, 59, 60, 61] _ rfl (by simp))
  have hz4 : W3.heap.size + 1 ≤ W4.heap.size := by rw [HW4.out]; simp
  clear HW4
  refine (among_any w.heap.size 2 lo1 hi1 _ code _ ([0, 1, 2, 3, 4, 5, 6, 59, 60, 61] : List Int) (W3.heap.size) (W3.heap.size + 1) _ C4.out (by omega) (ByS.turned F1.out HF4.out (by omega) (by omega)) HBY.out (by omega) (by omega) (by omega) L4.out (by simp) (by omega) (by omega)).mono ?_
  rintro e W5 ⟨j4, hj4, rfl, hC5, hg5⟩
  have hs5 := hg5.size
  have HF5 := Lib.hid (HF4.out.grown hg5 (fun b e => by cases e; omega)); clear HF4
  have HC5 := Lib.hid hC5; clear hC5 C4
  obtain ⟨k, hek, k1, k2⟩ := mem_in (zs := [0, 1, 2, 3, 4, 5, 6, 59, 60, 61]) (lo := 0) (hi := 61) (by intro x hx; simp at hx; omega) hj4
  rw [hek]
  clear hek L4
  go_wp2_with fail
  go_ret2
  exact ⟨n, k, rfl, n1, n2, k1, k2, (HF5.out.below_of (Below.refl _ _) (by omega) (by omega))⟩

set_option maxHeartbeats 2000000 in
set_option maxRecDepth 100000 in
theorem DrawSubsetRank_any (v1 : Value) (code : List Int) (lo1 hi1 : Nat) (w : World) (h1 : ByS w lo1 hi1 v1 code) (hh1 : hi1 ≤ w.heap.size) (hb : Bytes code) (hl : code.length ≤ 1048576) :
    Calls Try.prog 32 #[v1] w fun e w' => ∃ (n : Int) (r : Value) (l : List Int), e = .returned (.tuple #[.int .i64 n, r]) ∧ 0 ≤ n ∧ n ≤ 61 ∧ l.length ≤ 62 ∧ (∀ x ∈ l, -1 ≤ x ∧ x ≤ 61) ∧ IntS w' w.heap.size w'.heap.size r l ∧ Below w.heap.size w w' := by
  have HBY := Lib.hid hb; clear hb
  have F1 := Lib.hid h1
  obtain ⟨A1, c1, rfl, hc1, hd1⟩ := h1.dims
  clear h1
  go_enter Try.func32, Try.ntmps32
  go_upto_region 2 with (fail)
  refine nameC ?_
  intro W1 HW1
  have hg1 : w.grownBy W1 none := by rw [HW1.out]; exact grown_alloc _ _
  have hs1 := hg1.size
  have HF1 := Lib.hid ((Turned.refl w.heap.size w.heap.size w).still hg1)
  have HC := Lib.hid (show Cur W1 w.heap.size (.slice A1 code.length c1) 0 by rw [HW1.out]; exact ⟨0, 0, Nat.le_refl _, by omega, by omega, BoxN.new _ _ _⟩)
  have hzc : w.heap.size + 1 ≤ W1.heap.size := by rw [HW1.out]; simp
  clear HW1
  go_wp2_with fail
  refine (pick_any 30 w.heap.size 0 lo1 hi1 _ code _ HC.out (by omega) (ByS.turned F1.out HF1.out (by omega) (by omega)) HBY.out (by omega) (by omega) (by omega)).mono ?_
  rintro e W2 ⟨p, rfl, _, hp, hC2, hg2⟩
  have hs2 := hg2.size
  have HF2 := Lib.hid (HF1.out.grown hg2 (fun b e => by cases e; omega)); clear HF1
  have HC2 := Lib.hid hC2; clear hC2 HC
  have hp30 : (p : Int) < 30 := hp (by decide)
  clear hp
  go_wp2_with fail
  refine nameK ?_
  intro W3 HW3
  have hg3 : W2.grownBy W3 none := by rw [HW3.out]; exact grown_alloc _ _
  have hs3 := hg3.size
  have HF3 := Lib.hid (HF2.out.still hg3); clear HF2
  have C3 := Lib.hid (Cur.still HC2.out hg3); clear HC2
  have L3 := Lib.hid (show IntS W3 W2.heap.size (W2.heap.size + 1) (.slice (some ⟨W2.heap.size, 0, none⟩) 8 8) [0, 1, 5, 8, 12, 60, 61, (p : Int)] by rw [HW3.out]; exact IntS.newN W2 [0, 1, 5, 8, 12, 60, 61, (p : Int)] _ rfl (by simp))
  have hz3 : W2.heap.size + 1 ≤ W3.heap.size := by rw [HW3.out]; simp
  clear HW3
  refine (among_any w.heap.size 2 lo1 hi1 _ code _ ([0, 1, 5, 8, 12, 60, 61, (p : Int)] : List Int) (W2.heap.size) (W2.heap.size + 1) _ C3.out (by omega) (ByS.turned F1.out HF3.out (by omega) (by omega)) HBY.out (by omega) (by omega) (by omega) L3.out (by simp) (by omega) (by omega)).mono ?_
  rintro e W4 ⟨j3, hj3, rfl, hC4, hg4⟩
  have hs4 := hg4.size
  have HF4 := Lib.hid (HF3.out.grown hg4 (fun b e => by cases e; omega)); clear HF3
  have HC4 := Lib.hid hC4; clear hC4 C3
  obtain ⟨n, hen, n1, n2⟩ := mem_in (zs := [0, 1, 5, 8, 12, 60, 61, (p : Int)]) (lo := 0) (hi := 61) (by intro x hx; simp at hx; omega) hj3
  rw [hen]
  clear hen L3
  obtain ⟨N, rfl⟩ : ∃ m : Nat, n = m := ⟨n.toNat, by omega⟩
  go_wp2_with fail
  go_loopw [6, 7] (fun ov xv wr => ∃ (x : Nat) (out : List Int), x ≤ N ∧ xv = .int .i64 x ∧ Hid (Cur wr w.heap.size (.slice A1 code.length c1) (10 + 2 * x)) ∧ Hid (OwnI wr (w.heap.size + 1) 3 ov out) ∧ out.length ≤ x ∧ Hid (∀ x ∈ out, -1 ≤ x ∧ x ≤ 61) ∧ w.heap.size + 1 ≤ wr.heap.size ∧ Hid (Turned w.heap.size w.heap.size w wr)) (fun ov xv _ => N - (intOf xv).toNat)
  case atStart => exact ⟨0, [], Nat.zero_le _, rfl, Lib.hid (HC4.out.mono (by omega)), Lib.hid (OwnI.nil _ _ _), Nat.zero_le _, Lib.hid (fun x hx => by simp at hx), by omega, HF4⟩
  case round =>
    clear HF4
    obtain ⟨x, out, hx, rfl, HC, HO, hol, HM, hz, HF5⟩ := hrel
    have hs5 := HF5.out.size
    obtain ⟨wq, rfl⟩ : ∃ wq : World, wq = wr := ⟨_, rfl⟩
    obtain ⟨Ao, co, rfl, hco, hdo⟩ := HO.out.ints.dims
    by_cases hlt : x < N
    case pos =>
      have hxi : (x : Int) < N := by omega
      go_wp2_with fail
      refine (one_any 3 w.heap.size (10 + 2 * x) lo1 hi1 _ code _ HC.out (by omega) (ByS.turned F1.out HF5.out (by omega) (by omega)) HBY.out (by omega) (by omega) (by omega)).mono ?_
      rintro e W6 ⟨b, rfl, hC6, hg6⟩
      have hs6 := hg6.size
      have HF6 := Lib.hid (HF5.out.grown hg6 (fun b e => by cases e; omega)); clear HF5
      have O6 := Lib.hid (OwnI.far HO.out hg6 (fun b e => .inl (by cases e; omega))); clear HO
      have HC6 := Lib.hid hC6; clear hC6 HC
      cases b with
      | false =>
        go_wp2_with fail
        go_roundw
        case rel => exact ⟨x + 1, out, by omega, by go_num, Lib.hid (HC6.out.mono (by omega)), O6, by omega, HM, by omega, HF6⟩
        case measure => simp [intOf]; omega
      | true =>
        have hlv := O6.out.lt
        go_wp2_with (at_builtin; refine append_int (s := .tmp 23) Try.underlying53 Try.info3 (by decide) W6 rfl _ rfl O6.out x _ rfl (by simp [Act.eval, go_sem]) (by omega) (by omega) ?_; intro v' w' ho' hg' hat')
        go_roundw
        case rel =>
          have hgs := hg'.size
          refine ⟨x + 1, _, by omega, by go_num, Lib.hid ((HC6.out.far hg' fun b e => by have := hlv b e; omega).mono (by omega)), Lib.hid ho', by simp; omega, Lib.hid fun y hy => ?_, by omega, Lib.hid (HF6.out.grown hg' fun g hg => .inr (by have := hlv g hg; omega))⟩
          rcases List.mem_append.1 hy with hy | hy
          · exact HM.out y hy
          · simp at hy; omega
        case measure => simp [intOf]; omega
    obtain rfl : x = N := by omega
    go_wp2_with fail
    refine (one_any 10 w.heap.size (10 + 2 * x) lo1 hi1 _ code _ HC.out (by omega) (ByS.turned F1.out HF5.out (by omega) (by omega)) HBY.out (by omega) (by omega) (by omega)).mono ?_
    rintro e W7 ⟨b, rfl, hC7, hg7⟩
    have hs7 := hg7.size
    have HF7 := Lib.hid (HF5.out.grown hg7 (fun b e => by cases e; omega)); clear HF5
    have O7 := Lib.hid (OwnI.far HO.out hg7 (fun b e => .inl (by cases e; omega))); clear HO
    have HC7 := Lib.hid hC7; clear hC7 HC
    cases b with
    | false =>
      go_wp2_with fail
      go_ret2
      exact ⟨_, _, out, rfl, n1, n2, by omega, HM.out, IntS.mono O7.out.ints (by omega) (Nat.le_refl _), (HF7.out.below_of (Below.refl _ _) (by omega) (by omega))⟩
    | true =>
      go_wp2_with fail
      refine nameK ?_
      intro W8 HW8
      have hg8 : W7.grownBy W8 none := by rw [HW8.out]; exact grown_alloc _ _
      have hs8 := hg8.size
      have HF8 := Lib.hid (HF7.out.still hg8); clear HF7
      have C8 := Lib.hid (Cur.still HC7.out hg8); clear HC7
      have O8 := Lib.hid (OwnI.still O7.out hg8); clear O7
      have L8 := Lib.hid (show IntS W8 W7.heap.size (W7.heap.size + 1) (.slice (some ⟨W7.heap.size, 0, none⟩) 3 3) [(x : Int), 0, -1] by rw [HW8.out]; exact IntS.newN W7 [(x : Int), 0, -1] _ rfl (by simp))
      have hz8 : W7.heap.size + 1 ≤ W8.heap.size := by rw [HW8.out]; simp
      clear HW8
      refine (among_any w.heap.size (10 + 2 * x + 2) lo1 hi1 _ code _ ([(x : Int), 0, -1] : List Int) (W7.heap.size) (W7.heap.size + 1) _ C8.out (by omega) (ByS.turned F1.out HF8.out (by omega) (by omega)) HBY.out (by omega) (by omega) (by omega) L8.out (by simp) (by omega) (by omega)).mono ?_
      rintro e W9 ⟨j8, hj8, rfl, hC9, hg9⟩
      have hs9 := hg9.size
      have HF9 := Lib.hid (HF8.out.grown hg9 (fun b e => by cases e; omega)); clear HF8
      have O9 := Lib.hid (OwnI.far O8.out hg9 (fun b e => .inl (by cases e; omega))); clear O8
      have HC9 := Lib.hid hC9; clear hC9 C8
      obtain ⟨y, hey, y1, y2⟩ := mem_in (zs := [(x : Int), 0, -1]) (lo := (-1)) (hi := 61) (by intro x hx; simp at hx; omega) hj8
      rw [hey]
      clear hey L8
      have hlv := O9.out.lt
      go_wp2_with (at_builtin; refine append_int (s := .tmp 29) Try.underlying53 Try.info3 (by decide) W9 rfl _ rfl O9.out y _ rfl (by simp [Act.eval, go_sem]) (by omega) (by omega) ?_; intro v' w' ho' hg' hat')
      go_ret2
      have hgs := hg'.size
      refine ⟨_, _, _, rfl, n1, n2, by simp; omega, fun z hz => ?_, IntS.mono ho'.ints (by omega) (Nat.le_refl _), (show Below w.heap.size w W9 from (HF9.out.below_of (Below.refl _ _) (by omega) (by omega))).grown hg' (by omega) fun g hg => by have := hlv g hg; omega⟩
      rcases List.mem_append.1 hz with hz | hz
      · exact HM.out z hz
      · simp at hz; omega

end Go.Proofs.Ytlignkgfclenkaa
