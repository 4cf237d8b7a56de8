/-
  Contracts: the drawn numbers.
-/
import Derived.Test.YtbbdhcfbdndhlaaDoorCurs2
import Derived.Test.YtbbdhcfbdndhlaaDoorOwnSS
import Derived.Test.YtbbdhcfbdndhlaaDoorFrame
import Derived.Test.YtbbdhcfbdndhlaaDoorBasics
import Derived.Deep.Cut
namespace Go.Proofs.YtbbdhcfbdndhlaaDoor
open Go.ChangeShapes Go.WideShapes Go.ChangeAt Go.RowKit
set_option linter.unusedVariables false

theorem mem_inD {zs : List Int} {lo hi : Int} (h : ∀ x ∈ zs, lo ≤ x ∧ x ≤ hi) {j : Nat} (hj : j < zs.length) : ∃ x : Int, nth zs j = x ∧ lo ≤ x ∧ x ≤ hi := ⟨_, rfl, h _ (nth_mem hj)⟩
theorem turned_row {g : Nat} {w w' : World} (h : Turned g (g + 1) w w') : w.grownBy w' (some g) := ⟨h.os, h.tape, h.output, h.size, fun k hk hne => h.block k hk (by have : k ≠ g := fun e => hne (by rw [e]); omega)⟩

set_option maxHeartbeats 2000000 in
set_option maxRecDepth 100000 in
theorem whole_any (g : Nat) (w : World)  (v : Value) (code : List Int) (lo1 hi1 k : Nat) (hC : Cur w g v k) (hk : k < 1000000000) (hB : ByS w lo1 hi1 v code) (hb : Bytes code) (hl : code.length ≤ 1099511627776) (hg : g < lo1 ∨ hi1 ≤ g) (hh : hi1 ≤ w.heap.size) :
    Calls Tryd.prog 20 #[.pointer (some ⟨g, 0, none⟩)] w fun e w' => ∃ n : Int, e = .returned (.int .i64 n) ∧ -1 ≤ n ∧ n ≤ 1000000000001 ∧ Cur w' g v (k + 20) ∧ w.grownBy w' (some g) := by
  have HBY := Lib.hid hb; have HBS := Lib.hid hB; have HC0 := Lib.hid hC; clear hb hB hC
  have hgl := HC0.out.lt
  go_enter Tryd.func20, Tryd.ntmps20
  go_wp2_with fail
  refine (pick_any 6 g k lo1 hi1 _ code _ HC0.out (by omega) HBS.out HBY.out (by omega) (by omega) (by omega)).mono ?_
  rintro e W1 ⟨x, rfl, _, hx, hC1, hg1⟩
  have hs1 := hg1.size
  have HF1 := Lib.hid ((Turned.refl g (g + 1) w).grown hg1 (fun b e => .inl (by cases e; omega)))
  have HC1 := Lib.hid hC1; clear hC1 HC0
  have xm : (x : Int) < 6 := hx (by decide)
  clear hx
  by_cases h0 : x = 0
  case pos =>
    subst h0
    go_wp2_with fail
    refine nameK ?_
    intro W2 HW2
    have hg2 : W1.grownBy W2 none := by rw [HW2.out]; exact grown_alloc _ _
    have hs2 := hg2.size
    have HF2 := Lib.hid (HF1.out.still hg2); clear HF1
    have C2 := Lib.hid (Cur.still HC1.out hg2); clear HC1
    have L2 := Lib.hid (show IntS W2 W1.heap.size (W1.heap.size + 1) (.slice (some ⟨W1.heap.size, 0, none⟩) 12 12) [0, 1, 2, 3, 4, 15, 16, 17, 65535, 65536, 1000000000000, 999999999999] by rw [HW2.out]; exact IntS.newN W1 [0, 1, 2, 3, 4, 15, 16, 17, 65535, 65536, 1000000000000, 999999999999] _ rfl (by simp))
    have hz2 : W1.heap.size + 1 ≤ W2.heap.size := by rw [HW2.out]; simp
    clear HW2
    refine (among_any g (k + 2) lo1 hi1 _ code _ ([0, 1, 2, 3, 4, 15, 16, 17, 65535, 65536, 1000000000000, 999999999999] : List Int) (W1.heap.size) (W1.heap.size + 1) _ C2.out (by omega) (ByS.turned HBS.out HF2.out (by omega) (by omega)) HBY.out (by omega) (by omega) (by omega) L2.out (by simp) (by omega) (by omega)).mono ?_
    rintro e W3 ⟨jy, hjy, rfl, hC3, hg3⟩
    have hs3 := hg3.size
    have HF3 := Lib.hid (HF2.out.grown hg3 (fun b e => .inl (by cases e; omega))); clear HF2
    have HC3 := Lib.hid hC3; clear hC3 C2
    obtain ⟨y, hey, y1, y2⟩ := mem_inD (zs := [0, 1, 2, 3, 4, 15, 16, 17, 65535, 65536, 1000000000000, 999999999999]) (lo := -1) (hi := 1000000000001) (by intro x hx; simp at hx; omega) hjy
    rw [hey]
    clear hey L2
    go_wp2_with fail
    go_ret
    exact ⟨y, rfl, y1, y2, HC3.out.mono (by omega), turned_row HF3.out⟩
  have h0i : ¬ (x : Int) = 0 := by omega
  by_cases h1 : x = 1
  case pos =>
    subst h1
    go_wp2_with fail
    refine (pick_any 60000 g (k + 2) lo1 hi1 _ code _ HC1.out (by omega) (ByS.turned HBS.out HF1.out (by omega) (by omega)) HBY.out (by omega) (by omega) (by omega)).mono ?_
    rintro e W4 ⟨a, rfl, _, ha, hC4, hg4⟩
    have hs4 := hg4.size
    have HF4 := Lib.hid (HF1.out.grown hg4 (fun b e => .inl (by cases e; omega))); clear HF1
    have HC4 := Lib.hid hC4; clear hC4 HC1
    have am : (a : Int) < 60000 := ha (by decide)
    clear ha
    go_wp2_with fail
    refine (pick_any 60000 g (k + 4) lo1 hi1 _ code _ HC4.out (by omega) (ByS.turned HBS.out HF4.out (by omega) (by omega)) HBY.out (by omega) (by omega) (by omega)).mono ?_
    rintro e W5 ⟨b, rfl, _, hb, hC5, hg5⟩
    have hs5 := hg5.size
    have HF5 := Lib.hid (HF4.out.grown hg5 (fun b e => .inl (by cases e; omega))); clear HF4
    have HC5 := Lib.hid hC5; clear hC5 HC4
    have bm : (b : Int) < 60000 := hb (by decide)
    clear hb
    obtain ⟨q, HQ⟩ : ∃ q : Nat, Hid (a * b = q) := ⟨_, Lib.hid rfl⟩
    have hq : q ≤ 3600000000 := by rw [← HQ.out]; exact Nat.mul_le_mul (show a ≤ 60000 by omega) (show b ≤ 60000 by omega)
    have hqi : (a : Int) * (b : Int) = (q : Int) := by rw [← HQ.out]; rfl
    go_wp2_with fail
    refine (pick_any 60000 g (k + 6) lo1 hi1 _ code _ HC5.out (by omega) (ByS.turned HBS.out HF5.out (by omega) (by omega)) HBY.out (by omega) (by omega) (by omega)).mono ?_
    rintro e W6 ⟨c, rfl, _, hc, hC6, hg6⟩
    have hs6 := hg6.size
    have HF6 := Lib.hid (HF5.out.grown hg6 (fun b e => .inl (by cases e; omega))); clear HF5
    have HC6 := Lib.hid hC6; clear hC6 HC5
    have cm : (c : Int) < 60000 := hc (by decide)
    clear hc
    go_wp2_with fail
    go_ret
    exact ⟨(q : Int) * 200 + (c : Int), rfl, by omega, by omega, HC6.out.mono (by omega), turned_row HF6.out⟩
  have h1i : ¬ (x : Int) = 1 := by omega
  by_cases h2 : x = 2
  case pos =>
    subst h2
    go_wp2_with fail
    refine (one_any 4 g (k + 2) lo1 hi1 _ code _ HC1.out (by omega) (ByS.turned HBS.out HF1.out (by omega) (by omega)) HBY.out (by omega) (by omega) (by omega)).mono ?_
    rintro e W7 ⟨bb, rfl, hC7, hg7⟩
    have hs7 := hg7.size
    have HF7 := Lib.hid (HF1.out.grown hg7 (fun b e => .inl (by cases e; omega))); clear HF1
    have HC7 := Lib.hid hC7; clear hC7 HC1
    cases bb with
    | true =>
      go_wp2_with fail
      refine nameK ?_
      intro W8 HW8
      have hg8 : W7.grownBy W8 none := by rw [HW8.out]; exact grown_alloc _ _
      have hs8 := hg8.size
      have HF8 := Lib.hid (HF7.out.still hg8); clear HF7
      have C8 := Lib.hid (Cur.still HC7.out hg8); clear HC7
      have L8 := Lib.hid (show IntS W8 W7.heap.size (W7.heap.size + 1) (.slice (some ⟨W7.heap.size, 0, none⟩) 2 2) [(-1), 1000000000001] by rw [HW8.out]; exact IntS.newN W7 [(-1), 1000000000001] _ rfl (by simp))
      have hz8 : W7.heap.size + 1 ≤ W8.heap.size := by rw [HW8.out]; simp
      clear HW8
      refine (among_any g (k + 4) lo1 hi1 _ code _ ([(-1), 1000000000001] : List Int) (W7.heap.size) (W7.heap.size + 1) _ C8.out (by omega) (ByS.turned HBS.out HF8.out (by omega) (by omega)) HBY.out (by omega) (by omega) (by omega) L8.out (by simp) (by omega) (by omega)).mono ?_
      rintro e W9 ⟨jy, hjy, rfl, hC9, hg9⟩
      have hs9 := hg9.size
      have HF9 := Lib.hid (HF8.out.grown hg9 (fun b e => .inl (by cases e; omega))); clear HF8
      have HC9 := Lib.hid hC9; clear hC9 C8
      obtain ⟨y, hey, y1, y2⟩ := mem_inD (zs := [(-1), 1000000000001]) (lo := -1) (hi := 1000000000001) (by intro x hx; simp at hx; omega) hjy
      rw [hey]
      clear hey L8
      go_wp2_with fail
      go_ret
      exact ⟨y, rfl, y1, y2, HC9.out.mono (by omega), turned_row HF9.out⟩
    | false =>
      go_wp2_with fail
      refine (pick_any 40 g (k + 4) lo1 hi1 _ code _ HC7.out (by omega) (ByS.turned HBS.out HF7.out (by omega) (by omega)) HBY.out (by omega) (by omega) (by omega)).mono ?_
      rintro e W10 ⟨a, rfl, _, ha, hC10, hg10⟩
      have hs10 := hg10.size
      have HF10 := Lib.hid (HF7.out.grown hg10 (fun b e => .inl (by cases e; omega))); clear HF7
      have HC10 := Lib.hid hC10; clear hC10 HC7
      have am : (a : Int) < 40 := ha (by decide)
      clear ha
      go_wp2_with fail
      go_ret
      exact ⟨(a : Int), rfl, by omega, by omega, HC10.out.mono (by omega), turned_row HF10.out⟩
  have h2i : ¬ (x : Int) = 2 := by omega
  go_wp2_with fail
  refine (pick_any 40 g (k + 2) lo1 hi1 _ code _ HC1.out (by omega) (ByS.turned HBS.out HF1.out (by omega) (by omega)) HBY.out (by omega) (by omega) (by omega)).mono ?_
  rintro e W11 ⟨a, rfl, _, ha, hC11, hg11⟩
  have hs11 := hg11.size
  have HF11 := Lib.hid (HF1.out.grown hg11 (fun b e => .inl (by cases e; omega))); clear HF1
  have HC11 := Lib.hid hC11; clear hC11 HC1
  have am : (a : Int) < 40 := ha (by decide)
  clear ha
  go_wp2_with fail
  go_ret
  exact ⟨(a : Int), rfl, by omega, by omega, HC11.out.mono (by omega), turned_row HF11.out⟩

set_option maxHeartbeats 2000000 in
set_option maxRecDepth 100000 in
theorem DrawFirstDifferentBit_any (v1 : Value) (code : List Int) (lo1 hi1 : Nat) (w : World) (h1 : ByS w lo1 hi1 v1 code) (hh1 : hi1 ≤ w.heap.size) (hb : Bytes code) (hl : code.length ≤ 1048576) :
    Calls Tryd.prog 10 #[v1] w fun e w' => ∃ a b : Int, e = .returned (.tuple #[.int .i64 a, .int .i64 b]) ∧ -1 ≤ a ∧ a ≤ 1000000000001 ∧ -1 ≤ b ∧ b ≤ 1000000000001 ∧ Below w.heap.size w w' := by
  have HBY := Lib.hid hb; clear hb
  have F1 := Lib.hid h1
  obtain ⟨A1, c1, rfl, hc1, hd1⟩ := h1.dims
  clear h1
  go_enter Tryd.func10, Tryd.ntmps10
  go_upto_region 2 with (fail)
  refine nameC ?_
  intro W1 HW1
  have hg1 : w.grownBy W1 none := by rw [HW1.out]; exact grown_alloc _ _
  have hs1 := hg1.size
  have HF1 := Lib.hid ((Turned.refl w.heap.size w.heap.size w).still hg1)
  have HC := Lib.hid (show Cur W1 (w.heap.size) (.slice A1 code.length c1) 0 by rw [HW1.out]; exact ⟨0, 0, Nat.le_refl _, by omega, by omega, BoxN.new _ _ _⟩)
  have hzc : w.heap.size + 1 ≤ W1.heap.size := by rw [HW1.out]; simp
  clear HW1
  go_wp2_with fail
  refine (whole_any w.heap.size _ _ code lo1 hi1 0 HC.out (by omega) (ByS.turned F1.out HF1.out (by omega) (by omega)) HBY.out (by omega) (by omega) (by omega)).mono ?_
  rintro e W2 ⟨a, rfl, a1, a2, hC2, hg2⟩
  have hs2 := hg2.size
  have HF2 := Lib.hid (HF1.out.grown hg2 (fun b e => .inr (by cases e; omega))); clear HF1
  have HC2 := Lib.hid hC2; clear hC2 HC
  go_wp2_with fail
  refine (whole_any w.heap.size _ _ code lo1 hi1 20 HC2.out (by omega) (ByS.turned F1.out HF2.out (by omega) (by omega)) HBY.out (by omega) (by omega) (by omega)).mono ?_
  rintro e W3 ⟨b, rfl, b1, b2, hC3, hg3⟩
  have hs3 := hg3.size
  have HF3 := Lib.hid (HF2.out.grown hg3 (fun b e => .inr (by cases e; omega))); clear HF2
  have HC3 := Lib.hid hC3; clear hC3 HC2
  go_wp2_with fail
  go_ret2
  exact ⟨a, b, rfl, a1, a2, b1, b2, (HF3.out.below_of (Below.refl _ _) (by omega) (by omega))⟩

set_option maxHeartbeats 2000000 in
set_option maxRecDepth 100000 in
theorem DrawIsPrime_any (v1 : Value) (code : List Int) (lo1 hi1 : Nat) (w : World) (h1 : ByS w lo1 hi1 v1 code) (hh1 : hi1 ≤ w.heap.size) (hb : Bytes code) (hl : code.length ≤ 1048576) :
    Calls Tryd.prog 33 #[v1] w fun e w' => ∃ p : Int, e = .returned (.int .i64 p) ∧ -10 ≤ p ∧ p ≤ 1000003 ∧ Below w.heap.size w w' := by
  have HBY := Lib.hid hb; clear hb
  have F1 := Lib.hid h1
  obtain ⟨A1, c1, rfl, hc1, hd1⟩ := h1.dims
  clear h1
  go_enter Tryd.func33, Tryd.ntmps33
  go_upto_region 2 with (fail)
  refine nameC ?_
  intro W1 HW1
  have hg1 : w.grownBy W1 none := by rw [HW1.out]; exact grown_alloc _ _
  have hs1 := hg1.size
  have HF1 := Lib.hid ((Turned.refl w.heap.size w.heap.size w).still hg1)
  have HC := Lib.hid (show Cur W1 (w.heap.size) (.slice A1 code.length c1) 0 by rw [HW1.out]; exact ⟨0, 0, Nat.le_refl _, by omega, by omega, BoxN.new _ _ _⟩)
  have hzc : w.heap.size + 1 ≤ W1.heap.size := by rw [HW1.out]; simp
  clear HW1
  go_wp2_with fail
  refine (pick_any 200 w.heap.size 0 lo1 hi1 _ code _ HC.out (by omega) (ByS.turned F1.out HF1.out (by omega) (by omega)) HBY.out (by omega) (by omega) (by omega)).mono ?_
  rintro e W2 ⟨x, rfl, _, hx, hC2, hg2⟩
  have hs2 := hg2.size
  have HF2 := Lib.hid (HF1.out.grown hg2 (fun b e => .inr (by cases e; omega))); clear HF1
  have HC2 := Lib.hid hC2; clear hC2 HC
  have xm : (x : Int) < 200 := hx (by decide)
  clear hx
  go_wp2_with fail
  refine (pick_any 60000 w.heap.size 2 lo1 hi1 _ code _ HC2.out (by omega) (ByS.turned F1.out HF2.out (by omega) (by omega)) HBY.out (by omega) (by omega) (by omega)).mono ?_
  rintro e W3 ⟨y, rfl, _, hy, hC3, hg3⟩
  have hs3 := hg3.size
  have HF3 := Lib.hid (HF2.out.grown hg3 (fun b e => .inr (by cases e; omega))); clear HF2
  have HC3 := Lib.hid hC3; clear hC3 HC2
  have ym : (y : Int) < 60000 := hy (by decide)
  clear hy
  go_wp2_with fail
  refine (pick_any 2000 w.heap.size 4 lo1 hi1 _ code _ HC3.out (by omega) (ByS.turned F1.out HF3.out (by omega) (by omega)) HBY.out (by omega) (by omega) (by omega)).mono ?_
  rintro e W4 ⟨z, rfl, _, hz, hC4, hg4⟩
  have hs4 := hg4.size
  have HF4 := Lib.hid (HF3.out.grown hg4 (fun b e => .inr (by cases e; omega))); clear HF3
  have HC4 := Lib.hid hC4; clear hC4 HC3
  have zm : (z : Int) < 2000 := hz (by decide)
  clear hz
  go_wp2_with fail
  refine nameK ?_
  intro W5 HW5
  have hg5 : W4.grownBy W5 none := by rw [HW5.out]; exact grown_alloc _ _
  have hs5 := hg5.size
  have HF5 := Lib.hid (HF4.out.still hg5); clear HF4
  have C5 := Lib.hid (Cur.still HC4.out hg5); clear HC4
  have L5 := Lib.hid (show IntS W5 W4.heap.size (W4.heap.size + 1) (.slice (some ⟨W4.heap.size, 0, none⟩) 15 15) [0, 1, 2, 3, 4, 9, 49, (-7), 999983, 1000000, 1000003, 999999, (x : Int), (y : Int), (z : Int)] by rw [HW5.out]; exact IntS.newN W4 [0, 1, 2, 3, 4, 9, 49, (-7), 999983, 1000000, 1000003, 999999, (x : Int), (y : Int), (z : Int)] _ rfl (by simp))
  have hz5 : W4.heap.size + 1 ≤ W5.heap.size := by rw [HW5.out]; simp
  clear HW5
  refine (among_any w.heap.size 6 lo1 hi1 _ code _ ([0, 1, 2, 3, 4, 9, 49, (-7), 999983, 1000000, 1000003, 999999, (x : Int), (y : Int), (z : Int)] : List Int) (W4.heap.size) (W4.heap.size + 1) _ C5.out (by omega) (ByS.turned F1.out HF5.out (by omega) (by omega)) HBY.out (by omega) (by omega) (by omega) L5.out (by simp) (by omega) (by omega)).mono ?_
  rintro e W6 ⟨jp, hjp, rfl, hC6, hg6⟩
  have hs6 := hg6.size
  have HF6 := Lib.hid (HF5.out.grown hg6 (fun b e => .inr (by cases e; omega))); clear HF5
  have HC6 := Lib.hid hC6; clear hC6 C5
  obtain ⟨p, hep, p1, p2⟩ := mem_inD (zs := [0, 1, 2, 3, 4, 9, 49, (-7), 999983, 1000000, 1000003, 999999, (x : Int), (y : Int), (z : Int)]) (lo := -10) (hi := 1000003) (by intro x hx; simp at hx; omega) hjp
  rw [hep]
  clear hep L5
  go_wp2_with fail
  go_ret
  exact ⟨p, rfl, p1, p2, (HF6.out.below_of (Below.refl _ _) (by omega) (by omega))⟩

set_option maxHeartbeats 1000000 in
set_option maxRecDepth 100000 in
theorem DrawNextPrime_any (v1 : Value) (code : List Int) (lo1 hi1 : Nat) (w : World) (h1 : ByS w lo1 hi1 v1 code) (hh1 : hi1 ≤ w.heap.size) (hb : Bytes code) (hl : code.length ≤ 1048576) :
    Calls Tryd.prog 16 #[v1] w fun e w' => ∃ p : Int, e = .returned (.int .i64 p) ∧ -10 ≤ p ∧ p ≤ 1000003 ∧ Below w.heap.size w w' := by
  have HBY := Lib.hid hb; clear hb
  have F1 := Lib.hid h1
  obtain ⟨A1, c1, rfl, hc1, hd1⟩ := h1.dims
  clear h1
  go_enter Tryd.func16, Tryd.ntmps16
  go_wp2_with fail
  refine (DrawIsPrime_any _ code lo1 hi1 _ F1.out (by omega) HBY.out hl).mono ?_
  rintro e W1 ⟨p, rfl, p1, p2, hb1⟩
  go_wp2_with fail
  go_ret
  exact ⟨p, rfl, p1, p2, hb1⟩

set_option maxHeartbeats 2000000 in
set_option maxRecDepth 100000 in
theorem DrawDigitsOf_any (v1 : Value) (code : List Int) (lo1 hi1 : Nat) (w : World) (h1 : ByS w lo1 hi1 v1 code) (hh1 : hi1 ≤ w.heap.size) (hb : Bytes code) (hl : code.length ≤ 1048576) :
    Calls Tryd.prog 5 #[v1] w fun e w' => ∃ n b c : Int, e = .returned (.tuple #[.int .i64 n, .int .i64 b, .int .i64 c]) ∧ -1 ≤ n ∧ n ≤ 1000000000001 ∧ 0 ≤ b ∧ b ≤ 1001 ∧ -1 ≤ c ∧ c ≤ 61 ∧ Below w.heap.size w w' := by
  have HBY := Lib.hid hb; clear hb
  have F1 := Lib.hid h1
  obtain ⟨A1, c1, rfl, hc1, hd1⟩ := h1.dims
  clear h1
  go_enter Tryd.func5, Tryd.ntmps5
  go_upto_region 2 with (fail)
  refine nameC ?_
  intro W1 HW1
  have hg1 : w.grownBy W1 none := by rw [HW1.out]; exact grown_alloc _ _
  have hs1 := hg1.size
  have HF1 := Lib.hid ((Turned.refl w.heap.size w.heap.size w).still hg1)
  have HC := Lib.hid (show Cur W1 (w.heap.size) (.slice A1 code.length c1) 0 by rw [HW1.out]; exact ⟨0, 0, Nat.le_refl _, by omega, by omega, BoxN.new _ _ _⟩)
  have hzc : w.heap.size + 1 ≤ W1.heap.size := by rw [HW1.out]; simp
  clear HW1
  go_wp2_with fail
  refine (whole_any w.heap.size _ _ code lo1 hi1 0 HC.out (by omega) (ByS.turned F1.out HF1.out (by omega) (by omega)) HBY.out (by omega) (by omega) (by omega)).mono ?_
  rintro e W2 ⟨n, rfl, n1, n2, hC2, hg2⟩
  have hs2 := hg2.size
  have HF2 := Lib.hid (HF1.out.grown hg2 (fun b e => .inr (by cases e; omega))); clear HF1
  have HC2 := Lib.hid hC2; clear hC2 HC
  go_wp2_with fail
  refine (pick_any 20 w.heap.size 20 lo1 hi1 _ code _ HC2.out (by omega) (ByS.turned F1.out HF2.out (by omega) (by omega)) HBY.out (by omega) (by omega) (by omega)).mono ?_
  rintro e W3 ⟨x, rfl, _, hx, hC3, hg3⟩
  have hs3 := hg3.size
  have HF3 := Lib.hid (HF2.out.grown hg3 (fun b e => .inr (by cases e; omega))); clear HF2
  have HC3 := Lib.hid hC3; clear hC3 HC2
  have xm : (x : Int) < 20 := hx (by decide)
  clear hx
  go_wp2_with fail
  refine nameK ?_
  intro W4 HW4
  have hg4 : W3.grownBy W4 none := by rw [HW4.out]; exact grown_alloc _ _
  have hs4 := hg4.size
  have HF4 := Lib.hid (HF3.out.still hg4); clear HF3
  have C4 := Lib.hid (Cur.still HC3.out hg4); clear HC3
  have L4 := Lib.hid (show IntS W4 W3.heap.size (W3.heap.size + 1) (.slice (some ⟨W3.heap.size, 0, none⟩) 8 8) [2, 3, 10, 7, 1000, 1001, 1, (2 + (x : Int))] by rw [HW4.out]; exact IntS.newN W3 [2, 3, 10, 7, 1000, 1001, 1, (2 + (x : Int))] _ rfl (by simp))
  have hz4 : W3.heap.size + 1 ≤ W4.heap.size := by rw [HW4.out]; simp
  clear HW4
  refine (among_any w.heap.size 22 lo1 hi1 _ code _ ([2, 3, 10, 7, 1000, 1001, 1, (2 + (x : Int))] : List Int) (W3.heap.size) (W3.heap.size + 1) _ C4.out (by omega) (ByS.turned F1.out HF4.out (by omega) (by omega)) HBY.out (by omega) (by omega) (by omega) L4.out (by simp) (by omega) (by omega)).mono ?_
  rintro e W5 ⟨jb, hjb, rfl, hC5, hg5⟩
  have hs5 := hg5.size
  have HF5 := Lib.hid (HF4.out.grown hg5 (fun b e => .inr (by cases e; omega))); clear HF4
  have HC5 := Lib.hid hC5; clear hC5 C4
  obtain ⟨b, heb, b1, b2⟩ := mem_inD (zs := [2, 3, 10, 7, 1000, 1001, 1, (2 + (x : Int))]) (lo := 0) (hi := 1001) (by intro x hx; simp at hx; omega) hjb
  rw [heb]
  clear heb L4
  go_wp2_with fail
  refine nameK ?_
  intro W6 HW6
  have hg6 : W5.grownBy W6 none := by rw [HW6.out]; exact grown_alloc _ _
  have hs6 := hg6.size
  have HF6 := Lib.hid (HF5.out.still hg6); clear HF5
  have C6 := Lib.hid (Cur.still HC5.out hg6); clear HC5
  have L6 := Lib.hid (show IntS W6 W5.heap.size (W5.heap.size + 1) (.slice (some ⟨W5.heap.size, 0, none⟩) 10 10) [0, 1, 2, 3, 5, 10, 40, 60, 61, (-1)] by rw [HW6.out]; exact IntS.newN W5 [0, 1, 2, 3, 5, 10, 40, 60, 61, (-1)] _ rfl (by simp))
  have hz6 : W5.heap.size + 1 ≤ W6.heap.size := by rw [HW6.out]; simp
  clear HW6
  refine (among_any w.heap.size 24 lo1 hi1 _ code _ ([0, 1, 2, 3, 5, 10, 40, 60, 61, (-1)] : List Int) (W5.heap.size) (W5.heap.size + 1) _ C6.out (by omega) (ByS.turned F1.out HF6.out (by omega) (by omega)) HBY.out (by omega) (by omega) (by omega) L6.out (by simp) (by omega) (by omega)).mono ?_
  rintro e W7 ⟨jc, hjc, rfl, hC7, hg7⟩
  have hs7 := hg7.size
  have HF7 := Lib.hid (HF6.out.grown hg7 (fun b e => .inr (by cases e; omega))); clear HF6
  have HC7 := Lib.hid hC7; clear hC7 C6
  obtain ⟨c, hec, c1, c2⟩ := mem_inD (zs := [0, 1, 2, 3, 5, 10, 40, 60, 61, (-1)]) (lo := -1) (hi := 61) (by intro x hx; simp at hx; omega) hjc
  rw [hec]
  clear hec L6
  go_wp2_with fail
  go_ret3
  exact ⟨n, b, c, rfl, n1, n2, b1, b2, c1, c2, (HF7.out.below_of (Below.refl _ _) (by omega) (by omega))⟩

end Go.Proofs.YtbbdhcfbdndhlaaDoor
