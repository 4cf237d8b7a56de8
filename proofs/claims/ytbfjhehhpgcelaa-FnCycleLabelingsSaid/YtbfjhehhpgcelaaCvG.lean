/-
  Several texts in one: CyS, CyH, CyT, SubL. No condition on any program.
-/
import Derived.Test.YtbfjhehhpgcelaaCvF
import Derived.Test.YtbfjhehhpgcelaaCvB
import Derived.Test.YtbfjhehhpgcelaaCvC
import Derived.Test.YtbfjhehhpgcelaaCvD
import Derived.Test.YtbfjhehhpgcelaaCvE
import Derived.Test.YtbfjhehhpgcelaaCvA

/- Contracts: the draws of a walk problem with a length, and with two labels and a length. -/
namespace Go.Proofs.Ytbfjhehhpgcelaa
open Go.ChangeShapes Go.WideShapes Go.ChangeAt Go.RowKit
set_option linter.unusedVariables false

theorem results_c3 {fn : Func} {t u1 u2 u3 : Tmp} {ty : TypeId} (h : fn.results = #[.cell t ty, .tmp u1, .tmp u2, .tmp u3]) (tmps : Array Value) (P : Program) (w : World) {p : Addr} {v b1 b2 b3 : Value} (ha : tmps.getD t undef = .pointer (some p)) (hl : (loadVar ty p).run P w = .ok v w) (hb1 : tmps.getD u1 undef = b1) (hb2 : tmps.getD u2 undef = b2) (hb3 : tmps.getD u3 undef = b3) :
    (results fn tmps).run P w = .ok (.tuple #[v, b1, b2, b3]) w := by
  have ha' : tmps[t]?.getD undef = .pointer (some p) := by simpa using ha
  have hb1' : tmps[u1]?.getD undef = b1 := by simpa using hb1
  have hb2' : tmps[u2]?.getD undef = b2 := by simpa using hb2
  have hb3' : tmps[u3]?.getD undef = b3 := by simpa using hb3
  simp [results, h, ha', hb1', hb2', hb3', asAddr, hl]
theorem tdivY (a b : Nat) : Int.tdiv (a : Int) (b : Int) = ((a / b : Nat) : Int) := (Int.ofNat_tdiv a b).symm

set_option maxHeartbeats 8000000 in
set_option maxRecDepth 100000 in
theorem DrawCount_any (v1 : Value) (code : List Int) (lo1 hi1 : Nat) (w : World) (h1 : ByS w lo1 hi1 v1 code) (hh1 : hi1 ≤ w.heap.size) (hb : Bytes code) (hl : code.length ≤ 1048576) :
    Calls Try.prog 20 #[v1] w fun e w' => ∃ (L : Int) (r : Value) (P : List (List Int)) (k : Int), e = .returned (.tuple #[.agg #[.int .i64 L, r], .int .i64 k]) ∧ -1 ≤ L ∧ L ≤ 13 ∧ 0 ≤ k ∧ k ≤ 61 ∧ IntSS w' w.heap.size w'.heap.size r P ∧ Below w.heap.size w w' := by
  have HBY := Lib.hid hb; clear hb
  have F1 := Lib.hid h1
  obtain ⟨A1, c1, rfl, hc1, hd1⟩ := h1.dims
  clear h1
  go_enter Try.func20, Try.ntmps20
  go_upto_region 1 with (fail)
  refine nameC ?_
  intro W1 HW1
  have hg1 : w.grownBy W1 none := by rw [HW1.out]; exact grown_alloc _ _
  have hs1 := hg1.size
  have HF1 := Lib.hid ((Turned.refl w.heap.size w.heap.size w).still hg1)
  have HRB := Lib.hid (show BoxN W1 w.heap.size #[.int .i64 0, .slice none 0 0] 26 by rw [HW1.out]; exact BoxN.new _ _ _)
  have hzr : w.heap.size + 1 ≤ W1.heap.size := by rw [HW1.out]; simp
  clear HW1
  go_upto_region 2 with (fail)
  refine nameC ?_
  intro W2 HW2
  have hg2 : W1.grownBy W2 none := by rw [HW2.out]; exact grown_alloc _ _
  have hs2 := hg2.size
  have HF2 := Lib.hid (HF1.out.still hg2); clear HF1
  have RB2 := Lib.hid (BoxN.still HRB.out hg2); clear HRB
  have HC := Lib.hid (show Cur W2 (W1.heap.size) (.slice A1 code.length c1) 0 by rw [HW2.out]; exact ⟨0, 0, Nat.le_refl _, by omega, by omega, BoxN.new _ _ _⟩)
  have hzc : W1.heap.size + 1 ≤ W2.heap.size := by rw [HW2.out]; simp
  clear HW2
  go_wp2_with fail
  refine (anyWalk_any (W1.heap.size) _ 0 lo1 hi1 _ code HC.out (by omega) (ByS.turned F1.out HF2.out (by omega) (by omega)) HBY.out (by omega) (by omega) (by omega)).mono ?_
  rintro e W3 ⟨L, r, P, rfl, L1, L13, hss, hC3, hg3⟩
  have hs3 := hg3.size
  have HF3 := Lib.hid (HF2.out.grown hg3 (fun b e => by cases e; omega)); clear HF2
  have RB3 := Lib.hid (BoxN.far RB2.out hg3 (fun b e => by cases e; omega)); clear RB2
  have HC3 := Lib.hid hC3; clear hC3 HC
  obtain ⟨Av, cv, rfl, hcv, hdv⟩ := hss.dims
  have HSS := Lib.hid hss; clear hss
  go_wp2_with fail
  refine nameK ?_
  intro W4 HW4
  have hg4 : W3.grownBy W4 none := by rw [HW4.out]; exact grown_alloc _ _
  have hs4 := hg4.size
  have HF4 := Lib.hid (HF3.out.still hg4); clear HF3
  have RB4 := Lib.hid (BoxN.still RB3.out hg4); clear RB3
  have C4 := Lib.hid (Cur.still HC3.out hg4); clear HC3
  have S4 := Lib.hid (ISS.still HSS.out hg4 (by omega)); clear HSS
  have AL4 := Lib.hid (show IntS W4 W3.heap.size (W3.heap.size + 1) (.slice (some ⟨W3.heap.size, 0, none⟩) 11 11) [1, 2, 3, 4, 5, 6, 10, 20, 60, 61, 0] by rw [HW4.out]; exact IntS.newN W3 [1, 2, 3, 4, 5, 6, 10, 20, 60, 61, 0] _ rfl (by simp))
  have hz4 : W3.heap.size + 1 ≤ W4.heap.size := by rw [HW4.out]; simp
  clear HW4
  refine (among_any (W1.heap.size) (0 + 210) lo1 hi1 _ code _ ([1, 2, 3, 4, 5, 6, 10, 20, 60, 61, 0] : List Int) W3.heap.size (W3.heap.size + 1) _ C4.out (by omega) (ByS.turned F1.out HF4.out (by omega) (by omega)) HBY.out (by omega) (by omega) (by omega) AL4.out (by simp) (by omega) (by omega)).mono ?_
  rintro e W5 ⟨j, hj, rfl, hC5, hg5⟩
  have hs5 := hg5.size
  have HF5 := Lib.hid (HF4.out.grown hg5 (fun b e => by cases e; omega)); clear HF4
  have RB5 := Lib.hid (BoxN.far RB4.out hg5 (fun b e => by cases e; omega)); clear RB4
  have S5 := Lib.hid (ISS.far S4.out hg5 (by omega) (fun b e => by cases e; omega)); clear S4
  have HC5 := Lib.hid hC5; clear hC5 C4
  have hbd := mem_inY (zs := [1, 2, 3, 4, 5, 6, 10, 20, 60, 61, 0]) (lo := 0) (hi := 61) (by intro x hx; simp at hx; omega) hj
  obtain ⟨kv, Hkv⟩ : ∃ z : Int, Hid (nth [1, 2, 3, 4, 5, 6, 10, 20, 60, 61, 0] j = z) := ⟨_, Lib.hid rfl⟩
  rw [Hkv.out] at hbd
  rw [Hkv.out]
  obtain ⟨kv1, kv2⟩ := hbd
  clear hj Hkv AL4
  have kr0 : W5.cell? ⟨w.heap.size, 0, none⟩ = some (.int .i64 0) := RB5.out.cell 0 (by simp)
  have kr1 : W5.cell? ⟨w.heap.size, 1, none⟩ = some (.slice none 0 0) := RB5.out.cell 1 (by simp)
  have kf0 := RB5.out.frozen 0
  have kf1 := RB5.out.frozen 1
  go_wp2_with fail
  ((try simp only [Exit.inBlock, Exit.then]); refine bodyPost_ret (results_ct rfl _ _ _ rfl (load_wp ((RB5.out.set 0 (.int .i64 L)).set 1 (.slice Av P.length cv))) rfl) rfl ?_)
  have hg9 : W5.grownBy ((W5.setCell ⟨w.heap.size, 0, none⟩ (.int .i64 L)).setCell ⟨w.heap.size, 1, none⟩ (.slice Av P.length cv)) (some w.heap.size) := grownBy_setCell (p := ⟨w.heap.size, 1, none⟩) (grownBy_setCell (p := ⟨w.heap.size, 0, none⟩) (World.grownBy.refl _ _) rfl _) rfl _
  have HRES := Lib.hid (ISS.mono (ISS.far S5.out hg9 (by omega) fun b e => .inl (by cases e; omega)) (show w.heap.size ≤ _ by omega) (Nat.le_trans (by omega) hg9.size))
  have HBL := Lib.hid (show Below w.heap.size w _ from ((HF5.out.below_of (Below.refl _ _) (by omega) (by omega))).grown hg9 (by omega) fun b e => by cases e; omega)
  exact ⟨_, _, P, kv, rfl, by omega, by omega, by omega, by omega, HRES.out, HBL.out⟩

set_option maxHeartbeats 8000000 in
set_option maxRecDepth 100000 in
theorem DrawFirst_any (v1 : Value) (code : List Int) (lo1 hi1 : Nat) (w : World) (h1 : ByS w lo1 hi1 v1 code) (hh1 : hi1 ≤ w.heap.size) (hb : Bytes code) (hl : code.length ≤ 1048576) :
    Calls Try.prog 5 #[v1] w fun e w' => ∃ (L : Int) (r : Value) (P : List (List Int)) (k : Int), e = .returned (.tuple #[.agg #[.int .i64 L, r], .int .i64 k]) ∧ -1 ≤ L ∧ L ≤ 13 ∧ 0 ≤ k ∧ k ≤ 61 ∧ IntSS w' w.heap.size w'.heap.size r P ∧ Below w.heap.size w w' := by
  have HBY := Lib.hid hb; clear hb
  have F1 := Lib.hid h1
  obtain ⟨A1, c1, rfl, hc1, hd1⟩ := h1.dims
  clear h1
  go_enter Try.func5, Try.ntmps5
  go_upto_region 1 with (fail)
  refine nameC ?_
  intro W1 HW1
  have hg1 : w.grownBy W1 none := by rw [HW1.out]; exact grown_alloc _ _
  have hs1 := hg1.size
  have HF1 := Lib.hid ((Turned.refl w.heap.size w.heap.size w).still hg1)
  have HRB := Lib.hid (show BoxN W1 w.heap.size #[.int .i64 0, .slice none 0 0] 26 by rw [HW1.out]; exact BoxN.new _ _ _)
  have hzr : w.heap.size + 1 ≤ W1.heap.size := by rw [HW1.out]; simp
  clear HW1
  go_wp2_with fail
  refine (DrawCount_any _ code lo1 hi1 _ (ByS.turned F1.out HF1.out (by omega) (by omega)) (by omega) HBY.out hl).mono ?_
  rintro e W2 ⟨L, r, P, kv, rfl, L1, L13, kv1, kv2, hss, hb2⟩
  have hg2 := grown_below hb2; clear hb2
  have hs2 := hg2.size
  have HF2 := Lib.hid (HF1.out.still hg2); clear HF1
  have RB2 := Lib.hid (BoxN.still HRB.out hg2); clear HRB
  obtain ⟨Av, cv, rfl, hcv, hdv⟩ := hss.dims
  have HSS := Lib.hid hss; clear hss
  have kr0 : W2.cell? ⟨w.heap.size, 0, none⟩ = some (.int .i64 0) := RB2.out.cell 0 (by simp)
  have kr1 : W2.cell? ⟨w.heap.size, 1, none⟩ = some (.slice none 0 0) := RB2.out.cell 1 (by simp)
  have kf0 := RB2.out.frozen 0
  have kf1 := RB2.out.frozen 1
  go_wp2_with fail
  ((try simp only [Exit.inBlock, Exit.then]); refine bodyPost_ret (results_ct rfl _ _ _ rfl (load_wp ((RB2.out.set 0 (.int .i64 L)).set 1 (.slice Av P.length cv))) rfl) rfl ?_)
  have hg9 : W2.grownBy ((W2.setCell ⟨w.heap.size, 0, none⟩ (.int .i64 L)).setCell ⟨w.heap.size, 1, none⟩ (.slice Av P.length cv)) (some w.heap.size) := grownBy_setCell (p := ⟨w.heap.size, 1, none⟩) (grownBy_setCell (p := ⟨w.heap.size, 0, none⟩) (World.grownBy.refl _ _) rfl _) rfl _
  have HRES := Lib.hid (ISS.mono (ISS.far HSS.out hg9 (by omega) fun b e => .inl (by cases e; omega)) (show w.heap.size ≤ _ by omega) (Nat.le_trans (by omega) hg9.size))
  have HBL := Lib.hid (show Below w.heap.size w _ from ((HF2.out.below_of (Below.refl _ _) (by omega) (by omega))).grown hg9 (by omega) fun b e => by cases e; omega)
  exact ⟨_, _, P, kv, rfl, by omega, by omega, by omega, by omega, HRES.out, HBL.out⟩

set_option maxHeartbeats 8000000 in
set_option maxRecDepth 100000 in
theorem DrawBetween_any (v1 : Value) (code : List Int) (lo1 hi1 : Nat) (w : World) (h1 : ByS w lo1 hi1 v1 code) (hh1 : hi1 ≤ w.heap.size) (hb : Bytes code) (hl : code.length ≤ 1048576) :
    Calls Try.prog 14 #[v1] w fun e w' => ∃ (L : Int) (r : Value) (P : List (List Int)) (a b k : Int), e = .returned (.tuple #[.agg #[.int .i64 L, r], .int .i64 a, .int .i64 b, .int .i64 k]) ∧ -1 ≤ L ∧ L ≤ 13 ∧ -1 ≤ a ∧ a ≤ 13 ∧ 0 ≤ b ∧ b ≤ 14 ∧ -1 ≤ k ∧ k ≤ 200 ∧ IntSS w' w.heap.size w'.heap.size r P ∧ Below w.heap.size w w' := by
  have HBY := Lib.hid hb; clear hb
  have F1 := Lib.hid h1
  obtain ⟨A1, c1, rfl, hc1, hd1⟩ := h1.dims
  clear h1
  go_enter Try.func14, Try.ntmps14
  go_upto_region 1 with (fail)
  refine nameC ?_
  intro W1 HW1
  have hg1 : w.grownBy W1 none := by rw [HW1.out]; exact grown_alloc _ _
  have hs1 := hg1.size
  have HF1 := Lib.hid ((Turned.refl w.heap.size w.heap.size w).still hg1)
  have HRB := Lib.hid (show BoxN W1 w.heap.size #[.int .i64 0, .slice none 0 0] 26 by rw [HW1.out]; exact BoxN.new _ _ _)
  have hzr : w.heap.size + 1 ≤ W1.heap.size := by rw [HW1.out]; simp
  clear HW1
  go_upto_region 2 with (fail)
  refine nameC ?_
  intro W2 HW2
  have hg2 : W1.grownBy W2 none := by rw [HW2.out]; exact grown_alloc _ _
  have hs2 := hg2.size
  have HF2 := Lib.hid (HF1.out.still hg2); clear HF1
  have RB2 := Lib.hid (BoxN.still HRB.out hg2); clear HRB
  have HC := Lib.hid (show Cur W2 (W1.heap.size) (.slice A1 code.length c1) 0 by rw [HW2.out]; exact ⟨0, 0, Nat.le_refl _, by omega, by omega, BoxN.new _ _ _⟩)
  have hzc : W1.heap.size + 1 ≤ W2.heap.size := by rw [HW2.out]; simp
  clear HW2
  go_wp2_with fail
  refine (anyWalk_any (W1.heap.size) _ 0 lo1 hi1 _ code HC.out (by omega) (ByS.turned F1.out HF2.out (by omega) (by omega)) HBY.out (by omega) (by omega) (by omega)).mono ?_
  rintro e W3 ⟨L, r, P, rfl, L1, L13, hss, hC3, hg3⟩
  have hs3 := hg3.size
  have HF3 := Lib.hid (HF2.out.grown hg3 (fun b e => by cases e; omega)); clear HF2
  have RB3 := Lib.hid (BoxN.far RB2.out hg3 (fun b e => by cases e; omega)); clear RB2
  have HC3 := Lib.hid hC3; clear hC3 HC
  obtain ⟨Av, cv, rfl, hcv, hdv⟩ := hss.dims
  have HSS := Lib.hid hss; clear hss
  go_upto_region 3 with (fail)
  refine nameC ?_
  intro W4 HW4
  have hg4 : W3.grownBy W4 none := by rw [HW4.out]; exact grown_alloc _ _
  have hs4 := hg4.size
  have HF4 := Lib.hid (HF3.out.still hg4); clear HF3
  have RB4 := Lib.hid (BoxN.still RB3.out hg4); clear RB3
  have C4 := Lib.hid (Cur.still HC3.out hg4); clear HC3
  have S4 := Lib.hid (ISS.still HSS.out hg4 (by omega)); clear HSS
  have HX := Lib.hid (show BoxN W4 W3.heap.size #[.int .i64 L, (.slice Av P.length cv)] 26 by rw [HW4.out]; first | exact BoxN.new _ _ _ | exact ((BoxN.new _ _ _).set 0 _).set 1 _)
  have hzx : W3.heap.size + 1 ≤ W4.heap.size := by rw [HW4.out]; simp
  clear HW4
  have kx5_0 : W4.cell? ⟨W3.heap.size, 0, none⟩ = some (.int .i64 L) := HX.out.cell 0 (by simp)
  have kx5_1 : W4.cell? ⟨W3.heap.size, 1, none⟩ = some ((.slice Av P.length cv)) := HX.out.cell 1 (by simp)
  go_wp2_with fail
  refine (pick_any L (W1.heap.size) (0 + 210) lo1 hi1 _ code _ C4.out (by omega) (ByS.turned F1.out HF4.out (by omega) (by omega)) HBY.out (by omega) (by omega) (by omega)).mono ?_
  rintro e W6 ⟨x, rfl, hx0x, hx1x, hC6, hg6⟩
  have hs6 := hg6.size
  have HF6 := Lib.hid (HF4.out.grown hg6 (fun b e => by cases e; omega)); clear HF4
  have RB6 := Lib.hid (BoxN.far RB4.out hg6 (fun b e => by cases e; omega)); clear RB4
  have S6 := Lib.hid (ISS.far S4.out hg6 (by omega) (fun b e => by cases e; omega)); clear S4
  have X6 := Lib.hid (BoxN.far HX.out hg6 (fun b e => by cases e; omega)); clear HX
  have HC6 := Lib.hid hC6; clear hC6 C4
  have x12 : x ≤ 12 := by
    by_cases h : L ≤ 1
    · have := hx0x h; omega
    · have := hx1x (by omega); omega
  clear hx0x hx1x
  clear kx5_0 kx5_1
  go_wp2_with fail
  refine (pick_any 24 (W1.heap.size) (0 + 210 + 2) lo1 hi1 _ code _ HC6.out (by omega) (ByS.turned F1.out HF6.out (by omega) (by omega)) HBY.out (by omega) (by omega) (by omega)).mono ?_
  rintro e W7 ⟨y, rfl, _, hx1y, hC7, hg7⟩
  have hs7 := hg7.size
  have HF7 := Lib.hid (HF6.out.grown hg7 (fun b e => by cases e; omega)); clear HF6
  have RB7 := Lib.hid (BoxN.far RB6.out hg7 (fun b e => by cases e; omega)); clear RB6
  have S7 := Lib.hid (ISS.far S6.out hg7 (by omega) (fun b e => by cases e; omega)); clear S6
  have X7 := Lib.hid (BoxN.far X6.out hg7 (fun b e => by cases e; omega)); clear X6
  have HC7 := Lib.hid hC7; clear hC7 HC6
  have y24 : (y : Int) < 24 := hx1y (by decide)
  clear hx1y
  have htdy : Int.tdiv (y : Int) 23 = ((y / 23 : Nat) : Int) := tdivY y 23
  have hdvy : y / 23 ≤ 1 := by omega
  obtain ⟨dy, HDy⟩ : ∃ z, Hid (y / 23 = z) := ⟨_, Lib.hid rfl⟩
  rw [HDy.out] at htdy hdvy
  have hwa : IntKind.i64.wrap ((x : Int) - (dy : Int)) = (x : Int) - (dy : Int) := IntWalk.i64_in _ (by omega)
  have htdy2 : ((y : Int) / 23) = (dy : Int) := by have := HDy.out; omega
  have HTDY := Lib.hid htdy2
  go_wp2_with fail
  clear htdy htdy2 hwa
  refine wp_region_U (fun w' => w'.cell? ⟨W3.heap.size, 0, none⟩ = some (.int .i64 L) ∧ w'.cell? ⟨W3.heap.size, 1, none⟩ = some ((.slice Av P.length cv))) [] (by kernel_rfl) ?_
  refine nameU ?_
  intro W8 HW8
  have hg8 : W7.grownBy W8 none := by rw [HW8.out]; exact grown_drew _
  clear HW8
  have hs8 := hg8.size
  have HF8 := Lib.hid (HF7.out.still hg8); clear HF7
  have RB8 := Lib.hid (BoxN.still RB7.out hg8); clear RB7
  have C8 := Lib.hid (Cur.still HC7.out hg8); clear HC7
  have S8 := Lib.hid (ISS.still S7.out hg8 (by omega)); clear S7
  have X8 := Lib.hid (BoxN.still X7.out hg8); clear X7
  have hS9 : W8.cell? ⟨W3.heap.size, 0, none⟩ = some (.int .i64 L) ∧ W8.cell? ⟨W3.heap.size, 1, none⟩ = some ((.slice Av P.length cv)) := ⟨X8.out.cell 0 (by simp), X8.out.cell 1 (by simp)⟩
  refine anyU_take (i := 0) (v := .agg #[.int .i64 L, (.slice Av P.length cv)]) rfl (by kernel_rfl) (by kernel_rfl) (by kernel_rfl) (fun _ _ _ h => h) ⟨by rfl, fun w' hS' => (by obtain ⟨s1, s2⟩ := hS'; go_simp)⟩ hS9 ?_
  simp only [List.getElem_toArray, List.getElem_cons_zero, Act.put, List.setIfInBounds_toArray, List.set_cons_zero, List.set_cons_succ]
  refine anyU_take (i := 1) (v := .int .i64 ((x : Int) - (dy : Int))) rfl (by kernel_rfl) (by kernel_rfl) (by kernel_rfl) (fun _ _ _ h => h) ⟨by rfl, fun w' hS' => (by obtain ⟨s1, s2⟩ := hS'; go_simp)⟩ hS9 ?_
  simp only [List.getElem_toArray, List.getElem_cons_succ, List.getElem_cons_zero, Act.put, List.setIfInBounds_toArray, List.set_cons_zero, List.set_cons_succ]
  refine anyU_take (i := 2) (v := .pointer (some ⟨W1.heap.size, 0, none⟩)) rfl (by kernel_rfl) (by kernel_rfl) (by kernel_rfl) (fun _ _ _ h => h) ⟨by rfl, fun w' hS' => (by obtain ⟨s1, s2⟩ := hS'; go_simp)⟩ hS9 ?_
  simp only [List.getElem_toArray, List.getElem_cons_succ, List.getElem_cons_zero, Act.put, List.setIfInBounds_toArray, List.set_cons_zero, List.set_cons_succ]
  refine anyU_take (i := 3) (v := .pointer (some ⟨W3.heap.size, 0, none⟩)) rfl (by kernel_rfl) (by kernel_rfl) (by kernel_rfl) (fun _ _ _ h => h) ⟨by rfl, fun w' hS' => (by obtain ⟨s1, s2⟩ := hS'; go_simp)⟩ hS9 ?_
  simp only [List.getElem_toArray, List.getElem_cons_succ, List.getElem_cons_zero, Act.put, List.setIfInBounds_toArray, List.set_cons_zero, List.set_cons_succ]
  refine anyU_take (i := 4) (v := .int .i64 L) rfl (by kernel_rfl) (by kernel_rfl) (by kernel_rfl) (fun _ _ _ h => h) ⟨by rfl, fun w' hS' => (by obtain ⟨s1, s2⟩ := hS'; go_simp)⟩ hS9 ?_
  simp only [List.getElem_toArray, List.getElem_cons_succ, List.getElem_cons_zero, Act.put, List.setIfInBounds_toArray, List.set_cons_zero, List.set_cons_succ]
  refine anyU_take (i := 6) (v := .pointer (some ⟨W1.heap.size, 0, none⟩)) rfl (by kernel_rfl) (by kernel_rfl) (by kernel_rfl) (fun _ _ _ h => h) ⟨by rfl, fun w' hS' => (by obtain ⟨s1, s2⟩ := hS'; go_simp)⟩ hS9 ?_
  simp only [List.getElem_toArray, List.getElem_cons_succ, List.getElem_cons_zero, Act.put, List.setIfInBounds_toArray, List.set_cons_zero, List.set_cons_succ]
  refine anyU_take (i := 10) (v := .pointer (some ⟨W1.heap.size, 0, none⟩)) rfl (by kernel_rfl) (by kernel_rfl) (by kernel_rfl) (fun _ _ _ h => h) ⟨by rfl, fun w' hS' => (by obtain ⟨s1, s2⟩ := hS'; go_simp)⟩ hS9 ?_
  simp only [List.getElem_toArray, List.getElem_cons_succ, List.getElem_cons_zero, Act.put, List.setIfInBounds_toArray, List.set_cons_zero, List.set_cons_succ]
  refine anyU_ready (rs := [5, 11]) (by kernel_rfl) (by simp) ?_
  refine ReadyU.cons (i := 5) rfl (fun K hK => ?_) (ReadyU.cons (i := 11) rfl (fun K hK => ?_) ReadyU.nil)
  · simp only [List.getElem_toArray, List.getElem_cons_succ, List.getElem_cons_zero]
    refine ite_is (by rfl) ?_
    simp [go_sem]
    refine (pick_any L (W1.heap.size) (0 + 210 + 2 + 2) lo1 hi1 _ code _ C8.out (by omega) (ByS.turned F1.out HF8.out (by omega) (by omega)) HBY.out (by omega) (by omega) (by omega)).mono ?_
    rintro e W10 ⟨z, rfl, hx0z, hx1z, hC10, hg10⟩
    have hs10 := hg10.size
    have HF10 := Lib.hid (HF8.out.grown hg10 (fun b e => by cases e; omega)); clear HF8
    have RB10 := Lib.hid (BoxN.far RB8.out hg10 (fun b e => by cases e; omega)); clear RB8
    have S10 := Lib.hid (ISS.far S8.out hg10 (by omega) (fun b e => by cases e; omega)); clear S8
    have X10 := Lib.hid (BoxN.far X8.out hg10 (fun b e => by cases e; omega)); clear X8
    have HC10 := Lib.hid hC10; clear hC10 C8
    have z12 : z ≤ 12 := by
      by_cases h : L ≤ 1
      · have := hx0z h; omega
      · have := hx1z (by omega); omega
    clear hx0z hx1z
    have hS11 : W10.cell? ⟨W3.heap.size, 0, none⟩ = some (.int .i64 L) ∧ W10.cell? ⟨W3.heap.size, 1, none⟩ = some ((.slice Av P.length cv)) := ⟨X10.out.cell 0 (by simp), X10.out.cell 1 (by simp)⟩
    refine hK.out _ _ ⟨fun _ => hS11, ?_⟩
    clear hK K hS9
    try simp only [List.getElem_toArray, List.getElem_cons_succ, List.getElem_cons_zero, Act.put, List.setIfInBounds_toArray, List.set_cons_zero, List.set_cons_succ]
    refine anyU_ready (rs := [7, 11]) (by kernel_rfl) (by simp) ?_
    refine ReadyU.cons (i := 7) rfl (fun K hK => ?_) (ReadyU.cons (i := 11) rfl (fun K hK => ?_) ReadyU.nil)
    · simp only [List.getElem_toArray, List.getElem_cons_succ, List.getElem_cons_zero]
      refine ite_is (by rfl) ?_
      simp [go_sem]
      refine (pick_any 24 (W1.heap.size) (0 + 210 + 2 + 2 + 2) lo1 hi1 _ code _ HC10.out (by omega) (ByS.turned F1.out HF10.out (by omega) (by omega)) HBY.out (by omega) (by omega) (by omega)).mono ?_
      rintro e W12 ⟨q, rfl, _, hx1q, hC12, hg12⟩
      have hs12 := hg12.size
      have HF12 := Lib.hid (HF10.out.grown hg12 (fun b e => by cases e; omega)); clear HF10
      have RB12 := Lib.hid (BoxN.far RB10.out hg12 (fun b e => by cases e; omega)); clear RB10
      have S12 := Lib.hid (ISS.far S10.out hg12 (by omega) (fun b e => by cases e; omega)); clear S10
      have X12 := Lib.hid (BoxN.far X10.out hg12 (fun b e => by cases e; omega)); clear X10
      have HC12 := Lib.hid hC12; clear hC12 HC10
      have q24 : (q : Int) < 24 := hx1q (by decide)
      clear hx1q
      have htdq : Int.tdiv (q : Int) 23 = ((q / 23 : Nat) : Int) := tdivY q 23
      have hdvq : q / 23 ≤ 1 := by omega
      obtain ⟨dq, HDq⟩ : ∃ z, Hid (q / 23 = z) := ⟨_, Lib.hid rfl⟩
      rw [HDq.out] at htdq hdvq
      have hS13 : W12.cell? ⟨W3.heap.size, 0, none⟩ = some (.int .i64 L) ∧ W12.cell? ⟨W3.heap.size, 1, none⟩ = some ((.slice Av P.length cv)) := ⟨X12.out.cell 0 (by simp), X12.out.cell 1 (by simp)⟩
      refine hK.out _ _ ⟨fun _ => hS13, ?_⟩
      clear hK K hS11
      try simp only [List.getElem_toArray, List.getElem_cons_succ, List.getElem_cons_zero, Act.put, List.setIfInBounds_toArray, List.set_cons_zero, List.set_cons_succ]
      have hwb : IntKind.i64.wrap ((z : Int) + (dq : Int)) = ((z + dq : Nat) : Int) := by rw [IntWalk.i64_in _ (by omega)]; omega
      have htdq2 : ((q : Int) / 23) = (dq : Int) := by have := HDq.out; omega
      have hwq : IntKind.i64.wrap (dq : Int) = (dq : Int) := IntWalk.i64_in _ (by omega)
      refine anyU_take (i := 8) (v := .int .i64 (dq : Nat)) rfl (by kernel_rfl) (by kernel_rfl) (by kernel_rfl) (fun _ _ _ h => h) ⟨by rfl, fun w' hS' => (by obtain ⟨s1, s2⟩ := hS'; simp [go_sem, htdq, hwq])⟩ hS13 ?_
      simp only [List.getElem_toArray, List.getElem_cons_succ, List.getElem_cons_zero, Act.put, List.setIfInBounds_toArray, List.set_cons_zero, List.set_cons_succ]
      refine anyU_take (i := 9) (v := .int .i64 ((z + dq : Nat) : Int)) rfl (by kernel_rfl) (by kernel_rfl) (by kernel_rfl) (fun _ _ _ h => h) ⟨by rfl, fun w' hS' => (by obtain ⟨s1, s2⟩ := hS'; simp [go_sem, hwb])⟩ hS13 ?_
      simp only [List.getElem_toArray, List.getElem_cons_succ, List.getElem_cons_zero, Act.put, List.setIfInBounds_toArray, List.set_cons_zero, List.set_cons_succ]
      refine anyU_ready (rs := [11]) (by kernel_rfl) (by simp) ?_
      refine ReadyU.cons (i := 11) rfl (fun K hK => ?_) ReadyU.nil
      simp only [List.getElem_toArray, List.getElem_cons_succ, List.getElem_cons_zero]
      refine ite_is (by rfl) ?_
      simp [go_sem]
      refine hK.out _ _ ⟨fun _ => ⟨(X12.out.still (grown_alloc _ _)).cell 0 (by simp), (X12.out.still (grown_alloc _ _)).cell 1 (by simp)⟩, ?_⟩
      clear hK K hS13
      try simp only [List.getElem_toArray, List.getElem_cons_succ, List.getElem_cons_zero, Act.put, List.setIfInBounds_toArray, List.set_cons_zero, List.set_cons_succ]
      refine nameU ?_
      intro W14 HW14
      have hg14 : W12.grownBy W14 none := by rw [HW14.out]; exact grown_alloc _ _
      have hs14 := hg14.size
      have HF14 := Lib.hid (HF12.out.still hg14); clear HF12
      have RB14 := Lib.hid (BoxN.still RB12.out hg14); clear RB12
      have C14 := Lib.hid (Cur.still HC12.out hg14); clear HC12
      have S14 := Lib.hid (ISS.still S12.out hg14 (by omega)); clear S12
      have X14 := Lib.hid (BoxN.still X12.out hg14); clear X12
      have AL14 := Lib.hid (show IntS W14 W12.heap.size (W12.heap.size + 1) (.slice (some ⟨W12.heap.size, 0, none⟩) 11 11) [0, 1, 2, 3, 4, 5, 7, 12, 199, 200, -1] by rw [HW14.out]; exact IntS.newN W12 [0, 1, 2, 3, 4, 5, 7, 12, 199, 200, -1] _ rfl (by simp))
      have hz14 : W12.heap.size + 1 ≤ W14.heap.size := by rw [HW14.out]; simp
      clear HW14
      have hS15 : W14.cell? ⟨W3.heap.size, 0, none⟩ = some (.int .i64 L) ∧ W14.cell? ⟨W3.heap.size, 1, none⟩ = some ((.slice Av P.length cv)) := ⟨X14.out.cell 0 (by simp), X14.out.cell 1 (by simp)⟩
      refine anyU_ready (rs := [12]) (by kernel_rfl) (by simp) ?_
      refine ReadyU.cons (i := 12) rfl (fun K hK => ?_) ReadyU.nil
      simp only [List.getElem_toArray, List.getElem_cons_succ, List.getElem_cons_zero]
      refine ite_is (by rfl) ?_
      simp [go_sem]
      refine (among_any (W1.heap.size) (0 + 210 + 2 + 2 + 2 + 2) lo1 hi1 _ code _ ([0, 1, 2, 3, 4, 5, 7, 12, 199, 200, -1] : List Int) W12.heap.size (W12.heap.size + 1) _ C14.out (by omega) (ByS.turned F1.out HF14.out (by omega) (by omega)) HBY.out (by omega) (by omega) (by omega) AL14.out (by simp) (by omega) (by omega)).mono ?_
      rintro e W16 ⟨j, hj, rfl, hC16, hg16⟩
      have hs16 := hg16.size
      have HF16 := Lib.hid (HF14.out.grown hg16 (fun b e => by cases e; omega)); clear HF14
      have RB16 := Lib.hid (BoxN.far RB14.out hg16 (fun b e => by cases e; omega)); clear RB14
      have S16 := Lib.hid (ISS.far S14.out hg16 (by omega) (fun b e => by cases e; omega)); clear S14
      have X16 := Lib.hid (BoxN.far X14.out hg16 (fun b e => by cases e; omega)); clear X14
      have HC16 := Lib.hid hC16; clear hC16 C14
      have hbd := mem_inY (zs := [0, 1, 2, 3, 4, 5, 7, 12, 199, 200, -1]) (lo := (-1)) (hi := 200) (by intro x hx; simp at hx; omega) hj
      obtain ⟨kv, Hkv⟩ : ∃ z : Int, Hid (nth [0, 1, 2, 3, 4, 5, 7, 12, 199, 200, -1] j = z) := ⟨_, Lib.hid rfl⟩
      rw [Hkv.out] at hbd
      rw [Hkv.out]
      obtain ⟨kv1, kv2⟩ := hbd
      clear hj Hkv AL14
      have hS17 : W16.cell? ⟨W3.heap.size, 0, none⟩ = some (.int .i64 L) ∧ W16.cell? ⟨W3.heap.size, 1, none⟩ = some ((.slice Av P.length cv)) := ⟨X16.out.cell 0 (by simp), X16.out.cell 1 (by simp)⟩
      refine hK.out _ _ ⟨fun _ => hS17, ?_⟩
      clear hK K hS15
      try simp only [List.getElem_toArray, List.getElem_cons_succ, List.getElem_cons_zero, Act.put, List.setIfInBounds_toArray, List.set_cons_zero, List.set_cons_succ]
      have kr0 : W16.cell? ⟨w.heap.size, 0, none⟩ = some (.int .i64 0) := RB16.out.cell 0 (by simp)
      have kr1 : W16.cell? ⟨w.heap.size, 1, none⟩ = some (.slice none 0 0) := RB16.out.cell 1 (by simp)
      have kf0 := RB16.out.frozen 0
      have kf1 := RB16.out.frozen 1
      have hg9 : W16.grownBy ((W16.setCell ⟨w.heap.size, 0, none⟩ (.int .i64 L)).setCell ⟨w.heap.size, 1, none⟩ (.slice Av P.length cv)) (some w.heap.size) := grownBy_setCell (p := ⟨w.heap.size, 1, none⟩) (grownBy_setCell (p := ⟨w.heap.size, 0, none⟩) (World.grownBy.refl _ _) rfl _) rfl _
      have HX9 := Lib.hid (X16.out.far hg9 (fun b e => by cases e; omega))
      refine anyU_ready (rs := [13]) (by kernel_rfl) (by simp) ?_
      refine ReadyU.cons (i := 13) rfl (fun K hK => ?_) ReadyU.nil
      simp only [List.getElem_toArray, List.getElem_cons_succ, List.getElem_cons_zero]
      refine ite_is (by rfl) ?_
      simp [go_sem, kr0, kr1, kf0, kf1]
      refine hK.out _ _ ⟨fun _ => ⟨HX9.out.cell 0 (by simp), HX9.out.cell 1 (by simp)⟩, ?_⟩
      clear hK K hS17
      try simp only [List.getElem_toArray, List.getElem_cons_succ, List.getElem_cons_zero, Act.put, List.setIfInBounds_toArray, List.set_cons_zero, List.set_cons_succ]
      have hSx : ((W16.setCell ⟨w.heap.size, 0, none⟩ (.int .i64 L)).setCell ⟨w.heap.size, 1, none⟩ (.slice Av P.length cv)).cell? ⟨W3.heap.size, 0, none⟩ = some (.int .i64 L) ∧ ((W16.setCell ⟨w.heap.size, 0, none⟩ (.int .i64 L)).setCell ⟨w.heap.size, 1, none⟩ (.slice Av P.length cv)).cell? ⟨W3.heap.size, 1, none⟩ = some ((.slice Av P.length cv)) := ⟨HX9.out.cell 0 (by simp), HX9.out.cell 1 (by simp)⟩
      refine anyU_ready (rs := [14]) (by kernel_rfl) (by simp) ?_
      refine ReadyU.cons (i := 14) rfl (fun K hK => ?_) ReadyU.nil
      simp only [List.getElem_toArray, List.getElem_cons_succ, List.getElem_cons_zero]
      refine ite_is (by rfl) ?_
      simp [go_sem]
      refine hK.out _ _ ⟨fun _ => hSx, ?_⟩
      clear hK K
      try simp only [List.getElem_toArray, List.getElem_cons_succ, List.getElem_cons_zero, Act.put, List.setIfInBounds_toArray, List.set_cons_zero, List.set_cons_succ]
      refine anyU_ready (rs := [15]) (by kernel_rfl) (by simp) ?_
      refine ReadyU.cons (i := 15) rfl (fun K hK => ?_) ReadyU.nil
      simp only [List.getElem_toArray, List.getElem_cons_succ, List.getElem_cons_zero]
      refine ite_is (by rfl) ?_
      simp [go_sem]
      refine hK.out _ _ ⟨fun _ => hSx, ?_⟩
      clear hK K
      try simp only [List.getElem_toArray, List.getElem_cons_succ, List.getElem_cons_zero, Act.put, List.setIfInBounds_toArray, List.set_cons_zero, List.set_cons_succ]
      refine anyU_ready (rs := [16]) (by kernel_rfl) (by simp) ?_
      refine ReadyU.cons (i := 16) rfl (fun K hK => ?_) ReadyU.nil
      simp only [List.getElem_toArray, List.getElem_cons_succ, List.getElem_cons_zero]
      refine ite_is (by rfl) ?_
      simp [go_sem]
      refine hK.out _ _ ⟨fun _ => hSx, ?_⟩
      clear hK K
      try simp only [List.getElem_toArray, List.getElem_cons_succ, List.getElem_cons_zero, Act.put, List.setIfInBounds_toArray, List.set_cons_zero, List.set_cons_succ]
      clear hSx
      refine anyU_done (by kernel_rfl) ?_ _
      go_wp2_with fail
      ((try simp only [Exit.inBlock, Exit.then]); refine bodyPost_ret (results_c3 rfl _ _ _ rfl (load_wp ((RB16.out.set 0 (.int .i64 L)).set 1 (.slice Av P.length cv))) rfl rfl rfl) rfl ?_)
      have HRES := Lib.hid (ISS.mono (ISS.far S16.out hg9 (by omega) fun b e => .inl (by cases e; omega)) (show w.heap.size ≤ _ by omega) (Nat.le_trans (by omega) hg9.size))
      have HBL := Lib.hid (show Below w.heap.size w _ from ((HF16.out.below_of (Below.refl _ _) (by omega) (by omega))).grown hg9 (by omega) fun b e => by cases e; omega)
      exact ⟨_, _, P, (x : Int) - (dy : Int), ((z + dq : Nat) : Int), kv, rfl, by omega, by omega, by omega, by omega, by omega, by omega, by omega, by omega, HRES.out, HBL.out⟩
    · simp only [List.getElem_toArray, List.getElem_cons_succ, List.getElem_cons_zero]
      refine ite_is (by rfl) ?_
      simp [go_sem]
      refine hK.out _ _ ⟨fun _ => ⟨(X10.out.still (grown_alloc _ _)).cell 0 (by simp), (X10.out.still (grown_alloc _ _)).cell 1 (by simp)⟩, ?_⟩
      clear hK K hS11
      try simp only [List.getElem_toArray, List.getElem_cons_succ, List.getElem_cons_zero, Act.put, List.setIfInBounds_toArray, List.set_cons_zero, List.set_cons_succ]
      refine nameU ?_
      intro W18 HW18
      have hg18 : W10.grownBy W18 none := by rw [HW18.out]; exact grown_alloc _ _
      have hs18 := hg18.size
      have HF18 := Lib.hid (HF10.out.still hg18); clear HF10
      have RB18 := Lib.hid (BoxN.still RB10.out hg18); clear RB10
      have C18 := Lib.hid (Cur.still HC10.out hg18); clear HC10
      have S18 := Lib.hid (ISS.still S10.out hg18 (by omega)); clear S10
      have X18 := Lib.hid (BoxN.still X10.out hg18); clear X10
      have AL18 := Lib.hid (show IntS W18 W10.heap.size (W10.heap.size + 1) (.slice (some ⟨W10.heap.size, 0, none⟩) 11 11) [0, 1, 2, 3, 4, 5, 7, 12, 199, 200, -1] by rw [HW18.out]; exact IntS.newN W10 [0, 1, 2, 3, 4, 5, 7, 12, 199, 200, -1] _ rfl (by simp))
      have hz18 : W10.heap.size + 1 ≤ W18.heap.size := by rw [HW18.out]; simp
      clear HW18
      have hS19 : W18.cell? ⟨W3.heap.size, 0, none⟩ = some (.int .i64 L) ∧ W18.cell? ⟨W3.heap.size, 1, none⟩ = some ((.slice Av P.length cv)) := ⟨X18.out.cell 0 (by simp), X18.out.cell 1 (by simp)⟩
      refine anyU_ready (rs := [7]) (by kernel_rfl) (by simp) ?_
      refine ReadyU.cons (i := 7) rfl (fun K hK => ?_) ReadyU.nil
      simp only [List.getElem_toArray, List.getElem_cons_succ, List.getElem_cons_zero]
      refine ite_is (by rfl) ?_
      simp [go_sem]
      refine (pick_any 24 (W1.heap.size) (0 + 210 + 2 + 2 + 2) lo1 hi1 _ code _ C18.out (by omega) (ByS.turned F1.out HF18.out (by omega) (by omega)) HBY.out (by omega) (by omega) (by omega)).mono ?_
      rintro e W20 ⟨q, rfl, _, hx1q, hC20, hg20⟩
      have hs20 := hg20.size
      have HF20 := Lib.hid (HF18.out.grown hg20 (fun b e => by cases e; omega)); clear HF18
      have RB20 := Lib.hid (BoxN.far RB18.out hg20 (fun b e => by cases e; omega)); clear RB18
      have S20 := Lib.hid (ISS.far S18.out hg20 (by omega) (fun b e => by cases e; omega)); clear S18
      have X20 := Lib.hid (BoxN.far X18.out hg20 (fun b e => by cases e; omega)); clear X18
      have AL20 := Lib.hid (IntS.far AL18.out hg20 (by omega) (fun b e => by cases e; omega)); clear AL18
      have HC20 := Lib.hid hC20; clear hC20 C18
      have q24 : (q : Int) < 24 := hx1q (by decide)
      clear hx1q
      have htdq : Int.tdiv (q : Int) 23 = ((q / 23 : Nat) : Int) := tdivY q 23
      have hdvq : q / 23 ≤ 1 := by omega
      obtain ⟨dq, HDq⟩ : ∃ z, Hid (q / 23 = z) := ⟨_, Lib.hid rfl⟩
      rw [HDq.out] at htdq hdvq
      have hS21 : W20.cell? ⟨W3.heap.size, 0, none⟩ = some (.int .i64 L) ∧ W20.cell? ⟨W3.heap.size, 1, none⟩ = some ((.slice Av P.length cv)) := ⟨X20.out.cell 0 (by simp), X20.out.cell 1 (by simp)⟩
      refine hK.out _ _ ⟨fun _ => hS21, ?_⟩
      clear hK K hS19
      try simp only [List.getElem_toArray, List.getElem_cons_succ, List.getElem_cons_zero, Act.put, List.setIfInBounds_toArray, List.set_cons_zero, List.set_cons_succ]
      have hwb : IntKind.i64.wrap ((z : Int) + (dq : Int)) = ((z + dq : Nat) : Int) := by rw [IntWalk.i64_in _ (by omega)]; omega
      have htdq2 : ((q : Int) / 23) = (dq : Int) := by have := HDq.out; omega
      have hwq : IntKind.i64.wrap (dq : Int) = (dq : Int) := IntWalk.i64_in _ (by omega)
      refine anyU_take (i := 8) (v := .int .i64 (dq : Nat)) rfl (by kernel_rfl) (by kernel_rfl) (by kernel_rfl) (fun _ _ _ h => h) ⟨by rfl, fun w' hS' => (by obtain ⟨s1, s2⟩ := hS'; simp [go_sem, htdq, hwq])⟩ hS21 ?_
      simp only [List.getElem_toArray, List.getElem_cons_succ, List.getElem_cons_zero, Act.put, List.setIfInBounds_toArray, List.set_cons_zero, List.set_cons_succ]
      refine anyU_take (i := 9) (v := .int .i64 ((z + dq : Nat) : Int)) rfl (by kernel_rfl) (by kernel_rfl) (by kernel_rfl) (fun _ _ _ h => h) ⟨by rfl, fun w' hS' => (by obtain ⟨s1, s2⟩ := hS'; simp [go_sem, hwb])⟩ hS21 ?_
      simp only [List.getElem_toArray, List.getElem_cons_succ, List.getElem_cons_zero, Act.put, List.setIfInBounds_toArray, List.set_cons_zero, List.set_cons_succ]
      refine anyU_ready (rs := [12]) (by kernel_rfl) (by simp) ?_
      refine ReadyU.cons (i := 12) rfl (fun K hK => ?_) ReadyU.nil
      simp only [List.getElem_toArray, List.getElem_cons_succ, List.getElem_cons_zero]
      refine ite_is (by rfl) ?_
      simp [go_sem]
      refine (among_any (W1.heap.size) (0 + 210 + 2 + 2 + 2 + 2) lo1 hi1 _ code _ ([0, 1, 2, 3, 4, 5, 7, 12, 199, 200, -1] : List Int) W10.heap.size (W10.heap.size + 1) _ HC20.out (by omega) (ByS.turned F1.out HF20.out (by omega) (by omega)) HBY.out (by omega) (by omega) (by omega) AL20.out (by simp) (by omega) (by omega)).mono ?_
      rintro e W22 ⟨j, hj, rfl, hC22, hg22⟩
      have hs22 := hg22.size
      have HF22 := Lib.hid (HF20.out.grown hg22 (fun b e => by cases e; omega)); clear HF20
      have RB22 := Lib.hid (BoxN.far RB20.out hg22 (fun b e => by cases e; omega)); clear RB20
      have S22 := Lib.hid (ISS.far S20.out hg22 (by omega) (fun b e => by cases e; omega)); clear S20
      have X22 := Lib.hid (BoxN.far X20.out hg22 (fun b e => by cases e; omega)); clear X20
      have HC22 := Lib.hid hC22; clear hC22 HC20
      have hbd := mem_inY (zs := [0, 1, 2, 3, 4, 5, 7, 12, 199, 200, -1]) (lo := (-1)) (hi := 200) (by intro x hx; simp at hx; omega) hj
      obtain ⟨kv, Hkv⟩ : ∃ z : Int, Hid (nth [0, 1, 2, 3, 4, 5, 7, 12, 199, 200, -1] j = z) := ⟨_, Lib.hid rfl⟩
      rw [Hkv.out] at hbd
      rw [Hkv.out]
      obtain ⟨kv1, kv2⟩ := hbd
      clear hj Hkv AL20
      have hS23 : W22.cell? ⟨W3.heap.size, 0, none⟩ = some (.int .i64 L) ∧ W22.cell? ⟨W3.heap.size, 1, none⟩ = some ((.slice Av P.length cv)) := ⟨X22.out.cell 0 (by simp), X22.out.cell 1 (by simp)⟩
      refine hK.out _ _ ⟨fun _ => hS23, ?_⟩
      clear hK K hS21
      try simp only [List.getElem_toArray, List.getElem_cons_succ, List.getElem_cons_zero, Act.put, List.setIfInBounds_toArray, List.set_cons_zero, List.set_cons_succ]
      have kr0 : W22.cell? ⟨w.heap.size, 0, none⟩ = some (.int .i64 0) := RB22.out.cell 0 (by simp)
      have kr1 : W22.cell? ⟨w.heap.size, 1, none⟩ = some (.slice none 0 0) := RB22.out.cell 1 (by simp)
      have kf0 := RB22.out.frozen 0
      have kf1 := RB22.out.frozen 1
      have hg9 : W22.grownBy ((W22.setCell ⟨w.heap.size, 0, none⟩ (.int .i64 L)).setCell ⟨w.heap.size, 1, none⟩ (.slice Av P.length cv)) (some w.heap.size) := grownBy_setCell (p := ⟨w.heap.size, 1, none⟩) (grownBy_setCell (p := ⟨w.heap.size, 0, none⟩) (World.grownBy.refl _ _) rfl _) rfl _
      have HX9 := Lib.hid (X22.out.far hg9 (fun b e => by cases e; omega))
      refine anyU_ready (rs := [13]) (by kernel_rfl) (by simp) ?_
      refine ReadyU.cons (i := 13) rfl (fun K hK => ?_) ReadyU.nil
      simp only [List.getElem_toArray, List.getElem_cons_succ, List.getElem_cons_zero]
      refine ite_is (by rfl) ?_
      simp [go_sem, kr0, kr1, kf0, kf1]
      refine hK.out _ _ ⟨fun _ => ⟨HX9.out.cell 0 (by simp), HX9.out.cell 1 (by simp)⟩, ?_⟩
      clear hK K hS23
      try simp only [List.getElem_toArray, List.getElem_cons_succ, List.getElem_cons_zero, Act.put, List.setIfInBounds_toArray, List.set_cons_zero, List.set_cons_succ]
      have hSx : ((W22.setCell ⟨w.heap.size, 0, none⟩ (.int .i64 L)).setCell ⟨w.heap.size, 1, none⟩ (.slice Av P.length cv)).cell? ⟨W3.heap.size, 0, none⟩ = some (.int .i64 L) ∧ ((W22.setCell ⟨w.heap.size, 0, none⟩ (.int .i64 L)).setCell ⟨w.heap.size, 1, none⟩ (.slice Av P.length cv)).cell? ⟨W3.heap.size, 1, none⟩ = some ((.slice Av P.length cv)) := ⟨HX9.out.cell 0 (by simp), HX9.out.cell 1 (by simp)⟩
      refine anyU_ready (rs := [14]) (by kernel_rfl) (by simp) ?_
      refine ReadyU.cons (i := 14) rfl (fun K hK => ?_) ReadyU.nil
      simp only [List.getElem_toArray, List.getElem_cons_succ, List.getElem_cons_zero]
      refine ite_is (by rfl) ?_
      simp [go_sem]
      refine hK.out _ _ ⟨fun _ => hSx, ?_⟩
      clear hK K
      try simp only [List.getElem_toArray, List.getElem_cons_succ, List.getElem_cons_zero, Act.put, List.setIfInBounds_toArray, List.set_cons_zero, List.set_cons_succ]
      refine anyU_ready (rs := [15]) (by kernel_rfl) (by simp) ?_
      refine ReadyU.cons (i := 15) rfl (fun K hK => ?_) ReadyU.nil
      simp only [List.getElem_toArray, List.getElem_cons_succ, List.getElem_cons_zero]
      refine ite_is (by rfl) ?_
      simp [go_sem]
      refine hK.out _ _ ⟨fun _ => hSx, ?_⟩
      clear hK K
      try simp only [List.getElem_toArray, List.getElem_cons_succ, List.getElem_cons_zero, Act.put, List.setIfInBounds_toArray, List.set_cons_zero, List.set_cons_succ]
      refine anyU_ready (rs := [16]) (by kernel_rfl) (by simp) ?_
      refine ReadyU.cons (i := 16) rfl (fun K hK => ?_) ReadyU.nil
      simp only [List.getElem_toArray, List.getElem_cons_succ, List.getElem_cons_zero]
      refine ite_is (by rfl) ?_
      simp [go_sem]
      refine hK.out _ _ ⟨fun _ => hSx, ?_⟩
      clear hK K
      try simp only [List.getElem_toArray, List.getElem_cons_succ, List.getElem_cons_zero, Act.put, List.setIfInBounds_toArray, List.set_cons_zero, List.set_cons_succ]
      clear hSx
      refine anyU_done (by kernel_rfl) ?_ _
      go_wp2_with fail
      ((try simp only [Exit.inBlock, Exit.then]); refine bodyPost_ret (results_c3 rfl _ _ _ rfl (load_wp ((RB22.out.set 0 (.int .i64 L)).set 1 (.slice Av P.length cv))) rfl rfl rfl) rfl ?_)
      have HRES := Lib.hid (ISS.mono (ISS.far S22.out hg9 (by omega) fun b e => .inl (by cases e; omega)) (show w.heap.size ≤ _ by omega) (Nat.le_trans (by omega) hg9.size))
      have HBL := Lib.hid (show Below w.heap.size w _ from ((HF22.out.below_of (Below.refl _ _) (by omega) (by omega))).grown hg9 (by omega) fun b e => by cases e; omega)
      exact ⟨_, _, P, (x : Int) - (dy : Int), ((z + dq : Nat) : Int), kv, rfl, by omega, by omega, by omega, by omega, by omega, by omega, by omega, by omega, HRES.out, HBL.out⟩
  · simp only [List.getElem_toArray, List.getElem_cons_succ, List.getElem_cons_zero]
    refine ite_is (by rfl) ?_
    simp [go_sem]
    refine hK.out _ _ ⟨fun _ => ⟨(X8.out.still (grown_alloc _ _)).cell 0 (by simp), (X8.out.still (grown_alloc _ _)).cell 1 (by simp)⟩, ?_⟩
    clear hK K hS9
    try simp only [List.getElem_toArray, List.getElem_cons_succ, List.getElem_cons_zero, Act.put, List.setIfInBounds_toArray, List.set_cons_zero, List.set_cons_succ]
    refine nameU ?_
    intro W24 HW24
    have hg24 : W8.grownBy W24 none := by rw [HW24.out]; exact grown_alloc _ _
    have hs24 := hg24.size
    have HF24 := Lib.hid (HF8.out.still hg24); clear HF8
    have RB24 := Lib.hid (BoxN.still RB8.out hg24); clear RB8
    have C24 := Lib.hid (Cur.still C8.out hg24); clear C8
    have S24 := Lib.hid (ISS.still S8.out hg24 (by omega)); clear S8
    have X24 := Lib.hid (BoxN.still X8.out hg24); clear X8
    have AL24 := Lib.hid (show IntS W24 W8.heap.size (W8.heap.size + 1) (.slice (some ⟨W8.heap.size, 0, none⟩) 11 11) [0, 1, 2, 3, 4, 5, 7, 12, 199, 200, -1] by rw [HW24.out]; exact IntS.newN W8 [0, 1, 2, 3, 4, 5, 7, 12, 199, 200, -1] _ rfl (by simp))
    have hz24 : W8.heap.size + 1 ≤ W24.heap.size := by rw [HW24.out]; simp
    clear HW24
    have hS25 : W24.cell? ⟨W3.heap.size, 0, none⟩ = some (.int .i64 L) ∧ W24.cell? ⟨W3.heap.size, 1, none⟩ = some ((.slice Av P.length cv)) := ⟨X24.out.cell 0 (by simp), X24.out.cell 1 (by simp)⟩
    refine anyU_ready (rs := [5]) (by kernel_rfl) (by simp) ?_
    refine ReadyU.cons (i := 5) rfl (fun K hK => ?_) ReadyU.nil
    simp only [List.getElem_toArray, List.getElem_cons_succ, List.getElem_cons_zero]
    refine ite_is (by rfl) ?_
    simp [go_sem]
    refine (pick_any L (W1.heap.size) (0 + 210 + 2 + 2) lo1 hi1 _ code _ C24.out (by omega) (ByS.turned F1.out HF24.out (by omega) (by omega)) HBY.out (by omega) (by omega) (by omega)).mono ?_
    rintro e W26 ⟨z, rfl, hx0z, hx1z, hC26, hg26⟩
    have hs26 := hg26.size
    have HF26 := Lib.hid (HF24.out.grown hg26 (fun b e => by cases e; omega)); clear HF24
    have RB26 := Lib.hid (BoxN.far RB24.out hg26 (fun b e => by cases e; omega)); clear RB24
    have S26 := Lib.hid (ISS.far S24.out hg26 (by omega) (fun b e => by cases e; omega)); clear S24
    have X26 := Lib.hid (BoxN.far X24.out hg26 (fun b e => by cases e; omega)); clear X24
    have AL26 := Lib.hid (IntS.far AL24.out hg26 (by omega) (fun b e => by cases e; omega)); clear AL24
    have HC26 := Lib.hid hC26; clear hC26 C24
    have z12 : z ≤ 12 := by
      by_cases h : L ≤ 1
      · have := hx0z h; omega
      · have := hx1z (by omega); omega
    clear hx0z hx1z
    have hS27 : W26.cell? ⟨W3.heap.size, 0, none⟩ = some (.int .i64 L) ∧ W26.cell? ⟨W3.heap.size, 1, none⟩ = some ((.slice Av P.length cv)) := ⟨X26.out.cell 0 (by simp), X26.out.cell 1 (by simp)⟩
    refine hK.out _ _ ⟨fun _ => hS27, ?_⟩
    clear hK K hS25
    try simp only [List.getElem_toArray, List.getElem_cons_succ, List.getElem_cons_zero, Act.put, List.setIfInBounds_toArray, List.set_cons_zero, List.set_cons_succ]
    refine anyU_ready (rs := [7]) (by kernel_rfl) (by simp) ?_
    refine ReadyU.cons (i := 7) rfl (fun K hK => ?_) ReadyU.nil
    simp only [List.getElem_toArray, List.getElem_cons_succ, List.getElem_cons_zero]
    refine ite_is (by rfl) ?_
    simp [go_sem]
    refine (pick_any 24 (W1.heap.size) (0 + 210 + 2 + 2 + 2) lo1 hi1 _ code _ HC26.out (by omega) (ByS.turned F1.out HF26.out (by omega) (by omega)) HBY.out (by omega) (by omega) (by omega)).mono ?_
    rintro e W28 ⟨q, rfl, _, hx1q, hC28, hg28⟩
    have hs28 := hg28.size
    have HF28 := Lib.hid (HF26.out.grown hg28 (fun b e => by cases e; omega)); clear HF26
    have RB28 := Lib.hid (BoxN.far RB26.out hg28 (fun b e => by cases e; omega)); clear RB26
    have S28 := Lib.hid (ISS.far S26.out hg28 (by omega) (fun b e => by cases e; omega)); clear S26
    have X28 := Lib.hid (BoxN.far X26.out hg28 (fun b e => by cases e; omega)); clear X26
    have AL28 := Lib.hid (IntS.far AL26.out hg28 (by omega) (fun b e => by cases e; omega)); clear AL26
    have HC28 := Lib.hid hC28; clear hC28 HC26
    have q24 : (q : Int) < 24 := hx1q (by decide)
    clear hx1q
    have htdq : Int.tdiv (q : Int) 23 = ((q / 23 : Nat) : Int) := tdivY q 23
    have hdvq : q / 23 ≤ 1 := by omega
    obtain ⟨dq, HDq⟩ : ∃ z, Hid (q / 23 = z) := ⟨_, Lib.hid rfl⟩
    rw [HDq.out] at htdq hdvq
    have hS29 : W28.cell? ⟨W3.heap.size, 0, none⟩ = some (.int .i64 L) ∧ W28.cell? ⟨W3.heap.size, 1, none⟩ = some ((.slice Av P.length cv)) := ⟨X28.out.cell 0 (by simp), X28.out.cell 1 (by simp)⟩
    refine hK.out _ _ ⟨fun _ => hS29, ?_⟩
    clear hK K hS27
    try simp only [List.getElem_toArray, List.getElem_cons_succ, List.getElem_cons_zero, Act.put, List.setIfInBounds_toArray, List.set_cons_zero, List.set_cons_succ]
    have hwb : IntKind.i64.wrap ((z : Int) + (dq : Int)) = ((z + dq : Nat) : Int) := by rw [IntWalk.i64_in _ (by omega)]; omega
    have htdq2 : ((q : Int) / 23) = (dq : Int) := by have := HDq.out; omega
    have hwq : IntKind.i64.wrap (dq : Int) = (dq : Int) := IntWalk.i64_in _ (by omega)
    refine anyU_take (i := 8) (v := .int .i64 (dq : Nat)) rfl (by kernel_rfl) (by kernel_rfl) (by kernel_rfl) (fun _ _ _ h => h) ⟨by rfl, fun w' hS' => (by obtain ⟨s1, s2⟩ := hS'; simp [go_sem, htdq, hwq])⟩ hS29 ?_
    simp only [List.getElem_toArray, List.getElem_cons_succ, List.getElem_cons_zero, Act.put, List.setIfInBounds_toArray, List.set_cons_zero, List.set_cons_succ]
    refine anyU_take (i := 9) (v := .int .i64 ((z + dq : Nat) : Int)) rfl (by kernel_rfl) (by kernel_rfl) (by kernel_rfl) (fun _ _ _ h => h) ⟨by rfl, fun w' hS' => (by obtain ⟨s1, s2⟩ := hS'; simp [go_sem, hwb])⟩ hS29 ?_
    simp only [List.getElem_toArray, List.getElem_cons_succ, List.getElem_cons_zero, Act.put, List.setIfInBounds_toArray, List.set_cons_zero, List.set_cons_succ]
    refine anyU_ready (rs := [12]) (by kernel_rfl) (by simp) ?_
    refine ReadyU.cons (i := 12) rfl (fun K hK => ?_) ReadyU.nil
    simp only [List.getElem_toArray, List.getElem_cons_succ, List.getElem_cons_zero]
    refine ite_is (by rfl) ?_
    simp [go_sem]
    refine (among_any (W1.heap.size) (0 + 210 + 2 + 2 + 2 + 2) lo1 hi1 _ code _ ([0, 1, 2, 3, 4, 5, 7, 12, 199, 200, -1] : List Int) W8.heap.size (W8.heap.size + 1) _ HC28.out (by omega) (ByS.turned F1.out HF28.out (by omega) (by omega)) HBY.out (by omega) (by omega) (by omega) AL28.out (by simp) (by omega) (by omega)).mono ?_
    rintro e W30 ⟨j, hj, rfl, hC30, hg30⟩
    have hs30 := hg30.size
    have HF30 := Lib.hid (HF28.out.grown hg30 (fun b e => by cases e; omega)); clear HF28
    have RB30 := Lib.hid (BoxN.far RB28.out hg30 (fun b e => by cases e; omega)); clear RB28
    have S30 := Lib.hid (ISS.far S28.out hg30 (by omega) (fun b e => by cases e; omega)); clear S28
    have X30 := Lib.hid (BoxN.far X28.out hg30 (fun b e => by cases e; omega)); clear X28
    have HC30 := Lib.hid hC30; clear hC30 HC28
    have hbd := mem_inY (zs := [0, 1, 2, 3, 4, 5, 7, 12, 199, 200, -1]) (lo := (-1)) (hi := 200) (by intro x hx; simp at hx; omega) hj
    obtain ⟨kv, Hkv⟩ : ∃ z : Int, Hid (nth [0, 1, 2, 3, 4, 5, 7, 12, 199, 200, -1] j = z) := ⟨_, Lib.hid rfl⟩
    rw [Hkv.out] at hbd
    rw [Hkv.out]
    obtain ⟨kv1, kv2⟩ := hbd
    clear hj Hkv AL28
    have hS31 : W30.cell? ⟨W3.heap.size, 0, none⟩ = some (.int .i64 L) ∧ W30.cell? ⟨W3.heap.size, 1, none⟩ = some ((.slice Av P.length cv)) := ⟨X30.out.cell 0 (by simp), X30.out.cell 1 (by simp)⟩
    refine hK.out _ _ ⟨fun _ => hS31, ?_⟩
    clear hK K hS29
    try simp only [List.getElem_toArray, List.getElem_cons_succ, List.getElem_cons_zero, Act.put, List.setIfInBounds_toArray, List.set_cons_zero, List.set_cons_succ]
    have kr0 : W30.cell? ⟨w.heap.size, 0, none⟩ = some (.int .i64 0) := RB30.out.cell 0 (by simp)
    have kr1 : W30.cell? ⟨w.heap.size, 1, none⟩ = some (.slice none 0 0) := RB30.out.cell 1 (by simp)
    have kf0 := RB30.out.frozen 0
    have kf1 := RB30.out.frozen 1
    have hg9 : W30.grownBy ((W30.setCell ⟨w.heap.size, 0, none⟩ (.int .i64 L)).setCell ⟨w.heap.size, 1, none⟩ (.slice Av P.length cv)) (some w.heap.size) := grownBy_setCell (p := ⟨w.heap.size, 1, none⟩) (grownBy_setCell (p := ⟨w.heap.size, 0, none⟩) (World.grownBy.refl _ _) rfl _) rfl _
    have HX9 := Lib.hid (X30.out.far hg9 (fun b e => by cases e; omega))
    refine anyU_ready (rs := [13]) (by kernel_rfl) (by simp) ?_
    refine ReadyU.cons (i := 13) rfl (fun K hK => ?_) ReadyU.nil
    simp only [List.getElem_toArray, List.getElem_cons_succ, List.getElem_cons_zero]
    refine ite_is (by rfl) ?_
    simp [go_sem, kr0, kr1, kf0, kf1]
    refine hK.out _ _ ⟨fun _ => ⟨HX9.out.cell 0 (by simp), HX9.out.cell 1 (by simp)⟩, ?_⟩
    clear hK K hS31
    try simp only [List.getElem_toArray, List.getElem_cons_succ, List.getElem_cons_zero, Act.put, List.setIfInBounds_toArray, List.set_cons_zero, List.set_cons_succ]
    have hSx : ((W30.setCell ⟨w.heap.size, 0, none⟩ (.int .i64 L)).setCell ⟨w.heap.size, 1, none⟩ (.slice Av P.length cv)).cell? ⟨W3.heap.size, 0, none⟩ = some (.int .i64 L) ∧ ((W30.setCell ⟨w.heap.size, 0, none⟩ (.int .i64 L)).setCell ⟨w.heap.size, 1, none⟩ (.slice Av P.length cv)).cell? ⟨W3.heap.size, 1, none⟩ = some ((.slice Av P.length cv)) := ⟨HX9.out.cell 0 (by simp), HX9.out.cell 1 (by simp)⟩
    refine anyU_ready (rs := [14]) (by kernel_rfl) (by simp) ?_
    refine ReadyU.cons (i := 14) rfl (fun K hK => ?_) ReadyU.nil
    simp only [List.getElem_toArray, List.getElem_cons_succ, List.getElem_cons_zero]
    refine ite_is (by rfl) ?_
    simp [go_sem]
    refine hK.out _ _ ⟨fun _ => hSx, ?_⟩
    clear hK K
    try simp only [List.getElem_toArray, List.getElem_cons_succ, List.getElem_cons_zero, Act.put, List.setIfInBounds_toArray, List.set_cons_zero, List.set_cons_succ]
    refine anyU_ready (rs := [15]) (by kernel_rfl) (by simp) ?_
    refine ReadyU.cons (i := 15) rfl (fun K hK => ?_) ReadyU.nil
    simp only [List.getElem_toArray, List.getElem_cons_succ, List.getElem_cons_zero]
    refine ite_is (by rfl) ?_
    simp [go_sem]
    refine hK.out _ _ ⟨fun _ => hSx, ?_⟩
    clear hK K
    try simp only [List.getElem_toArray, List.getElem_cons_succ, List.getElem_cons_zero, Act.put, List.setIfInBounds_toArray, List.set_cons_zero, List.set_cons_succ]
    refine anyU_ready (rs := [16]) (by kernel_rfl) (by simp) ?_
    refine ReadyU.cons (i := 16) rfl (fun K hK => ?_) ReadyU.nil
    simp only [List.getElem_toArray, List.getElem_cons_succ, List.getElem_cons_zero]
    refine ite_is (by rfl) ?_
    simp [go_sem]
    refine hK.out _ _ ⟨fun _ => hSx, ?_⟩
    clear hK K
    try simp only [List.getElem_toArray, List.getElem_cons_succ, List.getElem_cons_zero, Act.put, List.setIfInBounds_toArray, List.set_cons_zero, List.set_cons_succ]
    clear hSx
    refine anyU_done (by kernel_rfl) ?_ _
    go_wp2_with fail
    ((try simp only [Exit.inBlock, Exit.then]); refine bodyPost_ret (results_c3 rfl _ _ _ rfl (load_wp ((RB30.out.set 0 (.int .i64 L)).set 1 (.slice Av P.length cv))) rfl rfl rfl) rfl ?_)
    have HRES := Lib.hid (ISS.mono (ISS.far S30.out hg9 (by omega) fun b e => .inl (by cases e; omega)) (show w.heap.size ≤ _ by omega) (Nat.le_trans (by omega) hg9.size))
    have HBL := Lib.hid (show Below w.heap.size w _ from ((HF30.out.below_of (Below.refl _ _) (by omega) (by omega))).grown hg9 (by omega) fun b e => by cases e; omega)
    exact ⟨_, _, P, (x : Int) - (dy : Int), ((z + dq : Nat) : Int), kv, rfl, by omega, by omega, by omega, by omega, by omega, by omega, by omega, by omega, HRES.out, HBL.out⟩

end Go.Proofs.Ytbfjhehhpgcelaa

/- Contracts: the number of labelings of a cycle (program and reference). -/
namespace Go.Proofs.Ytbfjhehhpgcelaa
open Go.ChangeShapes Go.WideShapes Go.ChangeAt Go.RowKit
set_option linter.unusedVariables false

theorem ret_ibY {a c : Int} {b d : Bool} (h : a = c) (h2 : b = d) : Ending.returned (.tuple #[.int .i64 a, .bool b]) = .returned (.tuple #[.int .i64 c, .bool d]) := by rw [h, h2]
theorem l1LeastY_any (a b : Int) (w : World) : Calls Try.prog 27 #[.int .i64 a, .int .i64 b] w fun e w' => e = .returned (.int .i64 (min a b)) ∧ w = w' := by
  by_cases h : a < b
  · go_enter Try.func27, Try.ntmps27
    go_wp2
    go_ret
    exact ⟨ret_int (by omega), rfl⟩
  · go_enter Try.func27, Try.ntmps27
    go_wp2
    go_ret
    exact ⟨ret_int (by omega), rfl⟩
def ccT (L : Int) (P : List (List Int)) (k : Int) : Int := totC (prs P) L.toNat k.toNat L.toNat
def ccOk (L : Int) (P : List (List Int)) (k : Int) : Bool := wkGood L P && (inB k 1 60 && decide (ccT L P k ≤ 1000000000000))
def ccV (L : Int) (P : List (List Int)) (k : Int) : Int := if ccOk L P k then ccT L P k else 0
theorem ccV_no {L : Int} {P : List (List Int)} {k : Int} (h : ccOk L P k = false) : ccV L P k = 0 := by unfold ccV; rw [h]; rfl
theorem ccOk_g {L : Int} {P : List (List Int)} {k : Int} (h : wkGood L P = false) : ccOk L P k = false := by unfold ccOk; rw [h]; rfl
theorem ccOk_k {L : Int} {P : List (List Int)} {k : Int} (h : inB k 1 60 = false) : ccOk L P k = false := by unfold ccOk; rw [h]; simp
theorem cntC_succ (ps : List (Nat × Nat)) (n a k : Nat) : cntC ps n a (k + 1) = stepC ps (cntC ps n a k) n := rfl
theorem totC_succ (ps : List (Nat × Nat)) (n k a : Nat) : totC ps n k (a + 1) = min (totC ps n k a + nth (cntC ps n a k) a) capC := rfl
theorem ccRet {n q : Nat} {P : List (List Int)} (hg : wkGood (n : Int) P = true) (hk : inB (q : Int) 1 60 = true) {T : Int} (hT : totC (prs P) n q n = T) : (1000000000000 < T → ccOk (n : Int) P (q : Int) = false) ∧ (¬ 1000000000000 < T → ccOk (n : Int) P (q : Int) = true ∧ ccV (n : Int) P (q : Int) = T) := by
  have hc : ccT (n : Int) P (q : Int) = T := by unfold ccT; rw [Int.toNat_natCast, Int.toNat_natCast, hT]
  constructor
  · intro h
    unfold ccOk; rw [hg, hk, hc, decide_eq_false (by omega)]; rfl
  · intro h
    have ho : ccOk (n : Int) P (q : Int) = true := by unfold ccOk; rw [hg, hk, hc, decide_eq_true (by omega)]; rfl
    exact ⟨ho, by unfold ccV; rw [if_pos ho, hc]⟩

set_option maxHeartbeats 8000000 in
set_option maxRecDepth 100000 in
theorem CountCycle_impl (PL : Int) (v1 : Value) (P : List (List Int)) (lo1 hi1 : Nat) (k : Int) (w : World) (h1 : IntSS w lo1 hi1 v1 P) (hh1 : hi1 ≤ w.heap.size)  :
    Calls Try.prog 8 #[.agg #[.int .i64 PL, v1], .int .i64 k] w fun e w' => e = .returned (.tuple #[.int .i64 (ccV PL P k), .bool (ccOk PL P k)]) ∧ Below w.heap.size w w' := by
  have F1 := Lib.hid h1
  obtain ⟨A1, c1, rfl, hc1, hd1⟩ := h1.dims
  clear h1
  obtain ⟨WA, HWA⟩ : ∃ W, Hid (W = (w.alloc (.cells #[.int .i64 PL, .slice A1 P.length c1] 26))) := ⟨_, Lib.hid rfl⟩
  have hbA : Below w.heap.size w WA := by rw [HWA.out]; exact ((Below.refl _ _).alloc (Nat.le_refl _) _)
  have hsA : w.heap.size + 1 ≤ WA.heap.size := by rw [HWA.out]; simp; try omega
  have bx1 : BoxN WA (w.heap.size) #[.int .i64 PL, .slice A1 P.length c1] 26 := by rw [HWA.out]; exact (BoxN.new' _ _ _ (by simp))
  have G1 := Lib.hid (ISS.below F1.out hbA hh1); clear F1
  go_enter Try.func8, Try.ntmps8
  go_upto_region 1 with (fail)
  rw [← HWA.out]; clear HWA
  have kbx1_0 : WA.cell? ⟨w.heap.size, 0, none⟩ = some (.int .i64 PL) := bx1.cell 0 (by simp)
  have kbx1_1 : WA.cell? ⟨w.heap.size, 1, none⟩ = some (.slice A1 P.length c1) := bx1.cell 1 (by simp)
  go_wp2_with fail
  clear kbx1_0 kbx1_1
  refine (IsWalkProblem_any PL _ P _ _ _ G1.out (by omega)).mono ?_
  rintro e W1 ⟨rfl, hb1⟩
  have hg1 := grown_below hb1; clear hb1
  have hs1 := hg1.size
  have HF1 := Lib.hid ((Turned.refl WA.heap.size WA.heap.size WA).still hg1)
  by_cases hg : wkGood PL P = true
  case neg =>
    have hg' : wkGood PL P = false := by simpa using hg
    rw [hg']
    have HN := Lib.hid (ccOk_g (k := k) hg')
    clear hg hg'
    go_wp2_with fail
    go_ret2
    exact ⟨ret_ibY (ccV_no HN.out).symm HN.out.symm, (HF1.out.below_of hbA (by omega) (by omega))⟩
  rw [hg]
  obtain ⟨n, rfl, n1, n12⟩ := good_L hg
  have HG := Lib.hid hg; clear hg
  go_wp2_with fail
  refine (within_any k 1 60 _).mono ?_
  rintro e w' ⟨rfl, rfl⟩
  by_cases hk : inB k 1 60 = true
  case neg =>
    have hk' : inB k 1 60 = false := by simpa using hk
    rw [hk']
    have HN := Lib.hid (ccOk_k (L := n) (P := P) hk')
    clear hk hk'
    go_wp2_with fail
    go_ret2
    exact ⟨ret_ibY (ccV_no HN.out).symm HN.out.symm, (HF1.out.below_of hbA (by omega) (by omega))⟩
  rw [hk]
  have HK := Lib.hid hk
  obtain ⟨k1, k60⟩ := inB_le hk
  clear hk
  obtain ⟨q, rfl⟩ : ∃ q : Nat, k = q := ⟨k.toNat, by omega⟩
  have HP := Lib.hid (good_prs HG.out)
  rw [Int.toNat_natCast] at HP
  have hmk := fun W => run_make_row' (P := Try.prog) 29 3 (.int .i64 0) 8 Try.underlying29 Try.info3 rfl .i64 .i64 n (by omega) (by omega) W
  have P_1 := Lib.hid (ISS.turned G1.out HF1.out (by omega) (by omega)); clear G1
  have bx1_1 := HF1.out.boxN bx1 (by omega); clear bx1
  have hbA1 : Below w.heap.size w W1 := (HF1.out.below_of hbA (by omega) (by omega)); clear hbA HF1
  have kbx1_0 : W1.cell? ⟨w.heap.size, 0, none⟩ = some (.int .i64 (n : Nat)) := bx1_1.cell 0 (by simp)
  have kbx1_1 : W1.cell? ⟨w.heap.size, 1, none⟩ = some (.slice A1 P.length c1) := bx1_1.cell 1 (by simp)
  go_wp2_with fail
  clear kbx1_0 kbx1_1
  go_loopw [6, 22] (fun sv av wr => ∃ (a : Nat) (s : Int), a ≤ n ∧ av = .int .i64 a ∧ sv = .int .i64 s ∧ Hid (totC (prs P) n q a = s) ∧ Hid (Turned W1.heap.size W1.heap.size W1 wr)) (fun sv av _ => n - (intOf av).toNat)
  case atStart => exact ⟨0, 0, Nat.zero_le _, rfl, rfl, Lib.hid rfl, Lib.hid (Turned.refl W1.heap.size W1.heap.size W1)⟩
  case round =>
    obtain ⟨a, s, ha, rfl, rfl, HS, HF2⟩ := hrel
    have hs2 := HF2.out.size
    obtain ⟨wa, rfl⟩ : ∃ wa : World, wa = wr := ⟨_, rfl⟩
    obtain ⟨⟨s0, s1⟩, _⟩ := totC_pos (k := q) (prs P) HP.out a ha
    rw [HS.out] at s0 s1
    unfold capC at s1
    by_cases hlt : a < n
    case pos =>
      have hai : (a : Int) < n := by omega
      have kbx1_0 : wa.cell? ⟨w.heap.size, 0, none⟩ = some (.int .i64 (n : Nat)) := (HF2.out.boxN bx1_1 (by omega)).cell 0 (by simp)
      have kbx1_1 : wa.cell? ⟨w.heap.size, 1, none⟩ = some (.slice A1 P.length c1) := (HF2.out.boxN bx1_1 (by omega)).cell 1 (by simp)
      go_upto_region 8 with (fail)
      refine nameC ?_
      intro W3 HW3
      have hg3 : wa.grownBy W3 none := by rw [HW3.out]; exact grown_alloc _ _
      have hs3 := hg3.size
      have HF3 := Lib.hid (HF2.out.still hg3); clear HF2
      have HC := Lib.hid (show IntS W3 wa.heap.size (wa.heap.size + 1) (.slice (some ⟨wa.heap.size, 0, none⟩) n n) (List.replicate n 0) by rw [HW3.out]; exact made_ints _ _ _ rfl (by omega))
      have hzc : wa.heap.size + 1 ≤ W3.heap.size := by rw [HW3.out]; simp
      clear HW3 kbx1_0 kbx1_1
      obtain ⟨y1, y2⟩ := HC.out.at0 (j := a) (by simpa using hlt)
      have hs := HC.out.set0 (j := a) (by simpa using hlt) 1
      have HC2 := Lib.hid hs; clear hs HC
      have kbx1_0 : W3.cell? ⟨w.heap.size, 0, none⟩ = some (.int .i64 (n : Nat)) := (HF3.out.boxN bx1_1 (by omega)).cell 0 (by simp)
      have kbx1_1 : W3.cell? ⟨w.heap.size, 1, none⟩ = some (.slice A1 P.length c1) := (HF3.out.boxN bx1_1 (by omega)).cell 1 (by simp)
      go_upto_region 9 with (fail)
      refine nameC ?_
      intro W4 HW4
      have hg4 : W3.grownBy W4 (some wa.heap.size) := by rw [HW4.out]; exact grown_set _ ⟨wa.heap.size, a, none⟩ _
      have hs4 := hg4.size
      have HF4 := Lib.hid (HF3.out.grown hg4 (fun g e => .inr (by cases e; omega))); clear HF3
      have HC3 := Lib.hid (show IntS W4 wa.heap.size (wa.heap.size + 1) (.slice (some ⟨wa.heap.size, 0, none⟩) n n) (cntC (prs P) n a 0) by rw [HW4.out]; exact HC2.out)
      have hzc3 : wa.heap.size + 1 ≤ W4.heap.size := by rw [HW4.out, size_setCell]; exact hzc
      clear HW4 HC2 hzc y1 y2 kbx1_0 kbx1_1
      have kbx1_0 : W4.cell? ⟨w.heap.size, 0, none⟩ = some (.int .i64 (n : Nat)) := (HF4.out.boxN bx1_1 (by omega)).cell 0 (by simp)
      have kbx1_1 : W4.cell? ⟨w.heap.size, 1, none⟩ = some (.slice A1 P.length c1) := (HF4.out.boxN bx1_1 (by omega)).cell 1 (by simp)
      go_wp2_with fail
      clear kbx1_0 kbx1_1
      go_loopw [8, 32] (fun cv iv wr => ∃ (i g : Nat), i ≤ q ∧ iv = .int .i64 i ∧ cv = .slice (some ⟨g, 0, none⟩) n n ∧ W1.heap.size ≤ g ∧ g + 1 ≤ wr.heap.size ∧ Hid (IntS wr g (g + 1) (.slice (some ⟨g, 0, none⟩) n n) (cntC (prs P) n a i)) ∧ Hid (Turned W1.heap.size W1.heap.size W1 wr)) (fun cv iv _ => q - (intOf iv).toNat)
      case atStart => exact ⟨0, wa.heap.size, Nat.zero_le _, rfl, rfl, by omega, hzc3, HC3, HF4⟩
      case round =>
        clear HF4
        obtain ⟨i, g, hi, rfl, rfl, hgA, hzg, HC, HF5⟩ := hrel
        have hs5 := HF5.out.size
        obtain ⟨wi, rfl⟩ : ∃ wi : World, wi = wr := ⟨_, rfl⟩
        obtain ⟨⟨hcl, hcb⟩, _⟩ := cntC_cnt (prs P) HP.out hlt i
        have HCB := Lib.hid hcb; clear hcb
        by_cases hil : i < q
        case pos =>
          have hii : (i : Int) < q := by omega
          have kbx1_0 : wi.cell? ⟨w.heap.size, 0, none⟩ = some (.int .i64 (n : Nat)) := (HF5.out.boxN bx1_1 (by omega)).cell 0 (by simp)
          have kbx1_1 : wi.cell? ⟨w.heap.size, 1, none⟩ = some (.slice A1 P.length c1) := (HF5.out.boxN bx1_1 (by omega)).cell 1 (by simp)
          go_upto_region 12 with (fail)
          refine nameC ?_
          intro W6 HW6
          have hg6 : wi.grownBy W6 none := by rw [HW6.out]; exact grown_alloc _ _
          have hs6 := hg6.size
          have HF6 := Lib.hid (HF5.out.still hg6); clear HF5
          have HNX := Lib.hid (show IntS W6 wi.heap.size (wi.heap.size + 1) (.slice (some ⟨wi.heap.size, 0, none⟩) n n) (List.replicate n 0) by rw [HW6.out]; exact made_ints _ _ _ rfl (by omega))
          have hzn : wi.heap.size + 1 ≤ W6.heap.size := by rw [HW6.out]; simp
          have HC4 := Lib.hid (IntS.still HC.out hg6 hzg)
          clear HW6 HC kbx1_0 kbx1_1
          have kbx1_0 : W6.cell? ⟨w.heap.size, 0, none⟩ = some (.int .i64 (n : Nat)) := (HF6.out.boxN bx1_1 (by omega)).cell 0 (by simp)
          have kbx1_1 : W6.cell? ⟨w.heap.size, 1, none⟩ = some (.slice A1 P.length c1) := (HF6.out.boxN bx1_1 (by omega)).cell 1 (by simp)
          go_wp2_with fail
          clear kbx1_0 kbx1_1
          obtain ⟨cs, HCS⟩ : ∃ c, Hid (cntC (prs P) n a i = c) := ⟨_, Lib.hid rfl⟩
          rw [HCS.out] at HC4 hcl HCB
          go_loopw [40] (fun jv wr => ∃ (j : Nat) (zs : List Int), j ≤ P.length ∧ jv = .int .i64 j ∧ Hid (stepC ((prs P).take j) cs n = zs) ∧ Hid (IntS wr wi.heap.size (wi.heap.size + 1) (.slice (some ⟨wi.heap.size, 0, none⟩) n n) zs) ∧ wi.heap.size + 1 ≤ wr.heap.size ∧ Hid (IntS wr g (g + 1) (.slice (some ⟨g, 0, none⟩) n n) cs) ∧ Hid (Turned W1.heap.size W1.heap.size W1 wr)) (fun jv _ => P.length - (intOf jv).toNat)
          case atStart => exact ⟨0, _, Nat.zero_le _, rfl, Lib.hid rfl, by rw [List.take_zero]; exact HNX, hzn, HC4, HF6⟩
          case round =>
            clear HF6
            obtain ⟨j, zs, hj, rfl, HZ, HN, hzn, HC, HF7⟩ := hrel
            have hs7 := HF7.out.size
            obtain ⟨⟨hzl, hzb⟩, _⟩ := stepC_cnt (n := n) (c := cs) ⟨hcl, HCB.out⟩ ((prs P).take j) (fun x hx => HP.out x (List.mem_of_mem_take hx))
            rw [HZ.out] at hzl hzb
            have HZB := Lib.hid hzb; clear hzb
            by_cases hjl : j < P.length
            case pos =>
              obtain ⟨br, or, ur, rfl, _, hbr, zr, hur⟩ := SS.opened P_1.out hjl
              replace zr := (HF7.out.cell (by omega) (by omega)).trans zr
              obtain ⟨Ar, cr, rfl, hcr, hdr⟩ := hur.dims
              have Ur := Lib.hid hur; clear hur
              have hji : (j : Int) < P.length := by omega
              obtain ⟨hl2, x, y, exy, hx, hy⟩ := good_arc HG.out hjl
              rw [Int.toNat_natCast] at hx hy
              have HSTP := Lib.hid (show stepC ((prs P).take (j + 1)) cs n = addC cs zs (x, y) by rw [stepC_take (prs P) cs n (prs_at hjl), HZ.out, exy]; simp [nth])
              have HE := Lib.hid exy
              rw [exy] at hcr Ur zr
              clear hl2 exy
              obtain ⟨b0, o0, rfl, _, hb0', x0, _⟩ := (IntS.turned Ur.out HF7.out (by omega) (by omega)).opened (j := 0) (zs := [(x : Int), (y : Int)]) (Nat.succ_pos _)
              have x1 := ((IntS.turned Ur.out HF7.out (by omega) (by omega)).at_ (j := 1) (zs := [(x : Int), (y : Int)]) (Nat.succ_lt_succ (Nat.succ_pos _))).1
              simp only [nth, List.getD_cons_zero, List.getD_cons_succ, Nat.add_zero] at x0 x1
              obtain ⟨y1, y2⟩ := HN.out.at0 (j := y) (by rw [hzl]; exact hy)
              obtain ⟨z1, z2⟩ := HC.out.at0 (j := x) (by rw [hcl]; exact hx)
              have hb1 := HZB.out y hy
              have hb2 := HCB.out x hx
              unfold addC capC at HSTP
              unfold capC at hb1 hb2
              dsimp only at HSTP
              obtain ⟨u, HU⟩ : ∃ u, Hid (nth zs y = u) := ⟨_, Lib.hid rfl⟩
              obtain ⟨v, HV⟩ : ∃ u, Hid (nth cs x = u) := ⟨_, Lib.hid rfl⟩
              rw [HU.out] at y1 hb1 HSTP
              rw [HV.out] at z1 hb2 HSTP
              have hxi : (x : Int) < n := by omega
              have hyi : (y : Int) < n := by omega
              have hwr : Go.RowKit.wrap64 (u + v) = u + v := by unfold Go.RowKit.wrap64; omega
              have hwr2 : IntKind.i64.wrap (u + v) = u + v := IntWalk.i64_in _ (by omega)
              obtain ⟨V, HVV⟩ : ∃ V, Hid (min (u + v) 1000000000001 = V) := ⟨_, Lib.hid rfl⟩
              rw [HVV.out] at HSTP
              have hV := HVV.out
              have hs := IntS.still (HN.out.set0 (j := y) (by rw [hzl]; exact hy) V) (grown_drew _) (by rw [size_setCell]; omega)
              have HS2 := Lib.hid hs; clear hs
              go_wp2_with fail
              go_region
              go_wp2_with fail
              go_roundw
              case rel => exact ⟨j + 1, _, by omega, by go_num, HSTP, HS2, by show _ ≤ (wr.setCell _ _).heap.size; rw [size_setCell]; exact hzn, Lib.hid (IntS.far HC.out (grownBy_trans (grown_set _ ⟨wi.heap.size, y, none⟩ _) (grown_any (grown_drew _))) (by omega) (fun g' e => .inr (by cases e; show g + 1 ≤ wi.heap.size; omega))), Lib.hid (HF7.out.grown (grownBy_trans (grown_set _ ⟨wi.heap.size, y, none⟩ _) (grown_any (grown_drew _))) fun g' e => .inr (by cases e; show W1.heap.size ≤ wi.heap.size; omega))⟩
              case measure => simp [intOf]; omega
            obtain rfl : j = P.length := by omega
            have hji : ¬ (P.length : Int) < P.length := by omega
            have HNE := Lib.hid (show cntC (prs P) n a (i + 1) = zs by rw [cntC_succ, HCS.out, ← HZ.out, List.take_of_length_le (by rw [prs_length]; exact Nat.le_refl _)])
            go_wp2_with fail
            go_roundw
            case rel => exact ⟨i + 1, wi.heap.size, by omega, by go_num, rfl, by omega, hzn, Lib.hid (by rw [HNE.out]; exact HN.out), HF7⟩
            case measure => simp [intOf]; omega
        obtain rfl : i = q := by omega
        have hii : ¬ (i : Int) < i := by omega
        obtain ⟨y1, y2⟩ := HC.out.at0 (j := a) (by rw [hcl]; exact hlt)
        have hb := HCB.out a hlt
        unfold capC at hb
        have HTS := Lib.hid (totC_succ (prs P) n i a)
        unfold capC at HTS
        rw [HS.out] at HTS
        obtain ⟨u, HU⟩ : ∃ u, Hid (nth (cntC (prs P) n a i) a = u) := ⟨_, Lib.hid rfl⟩
        rw [HU.out] at y1 hb HTS
        have hwr2 : IntKind.i64.wrap (s + u) = s + u := IntWalk.i64_in _ (by omega)
        obtain ⟨V, HVV⟩ : ∃ V, Hid (min (s + u) 1000000000001 = V) := ⟨_, Lib.hid rfl⟩
        rw [HVV.out] at HTS
        have hV := HVV.out
        go_wp2_with fail
        go_roundw
        case rel => exact ⟨a + 1, V, by omega, by go_num, by first | rfl | (rw [← hV]; rfl) | (rw [hV]), HTS, HF5⟩
        case measure => simp [intOf]; omega
    obtain rfl : a = n := by omega
    have hai : ¬ (a : Int) < a := by omega
    have hret := ccRet HG.out HK.out HS.out
    by_cases hb : 1000000000000 < s
    case pos =>
      have HN := Lib.hid (hret.1 hb)
      clear hret
      go_wp2_with fail
      go_ret2
      exact ⟨ret_ibY (ccV_no HN.out).symm HN.out.symm, (HF2.out.below_of hbA1 (by omega) (by omega))⟩
    have HN := Lib.hid (hret.2 hb)
    clear hret
    go_wp2_with fail
    go_ret2
    exact ⟨ret_ibY HN.out.2.symm HN.out.1.symm, (HF2.out.below_of hbA1 (by omega) (by omega))⟩



set_option maxHeartbeats 8000000 in
set_option maxRecDepth 100000 in
theorem CountCycle_spec (PL : Int) (v1 : Value) (P : List (List Int)) (lo1 hi1 : Nat) (k : Int) (w : World) (h1 : IntSS w lo1 hi1 v1 P) (hh1 : hi1 ≤ w.heap.size)  :
    Calls Try.prog 9 #[.agg #[.int .i64 PL, v1], .int .i64 k] w fun e w' => e = .returned (.tuple #[.int .i64 (ccV PL P k), .bool (ccOk PL P k)]) ∧ Below w.heap.size w w' := by
  have F1 := Lib.hid h1
  obtain ⟨A1, c1, rfl, hc1, hd1⟩ := h1.dims
  clear h1
  obtain ⟨WA, HWA⟩ : ∃ W, Hid (W = (w.alloc (.cells #[.int .i64 PL, .slice A1 P.length c1] 26))) := ⟨_, Lib.hid rfl⟩
  have hbA : Below w.heap.size w WA := by rw [HWA.out]; exact ((Below.refl _ _).alloc (Nat.le_refl _) _)
  have hsA : w.heap.size + 1 ≤ WA.heap.size := by rw [HWA.out]; simp; try omega
  have bx1 : BoxN WA (w.heap.size) #[.int .i64 PL, .slice A1 P.length c1] 26 := by rw [HWA.out]; exact (BoxN.new' _ _ _ (by simp))
  have G1 := Lib.hid (ISS.below F1.out hbA hh1); clear F1
  go_enter Try.func9, Try.ntmps9
  go_upto_region 1 with (fail)
  rw [← HWA.out]; clear HWA
  have kbx1_0 : WA.cell? ⟨w.heap.size, 0, none⟩ = some (.int .i64 PL) := bx1.cell 0 (by simp)
  have kbx1_1 : WA.cell? ⟨w.heap.size, 1, none⟩ = some (.slice A1 P.length c1) := bx1.cell 1 (by simp)
  go_wp2_with fail
  clear kbx1_0 kbx1_1
  refine (waGood_any PL _ P _ _ _ G1.out (by omega)).mono ?_
  rintro e W1 ⟨rfl, hb1⟩
  have hg1 := grown_below hb1; clear hb1
  have hs1 := hg1.size
  have HF1 := Lib.hid ((Turned.refl WA.heap.size WA.heap.size WA).still hg1)
  by_cases hg : wkGood PL P = true
  case neg =>
    have hg' : wkGood PL P = false := by simpa using hg
    rw [hg']
    have HN := Lib.hid (ccOk_g (k := k) hg')
    clear hg hg'
    go_wp2_with fail
    go_ret2
    exact ⟨ret_ibY (ccV_no HN.out).symm HN.out.symm, (HF1.out.below_of hbA (by omega) (by omega))⟩
  rw [hg]
  obtain ⟨n, rfl, n1, n12⟩ := good_L hg
  have HG := Lib.hid hg; clear hg
  go_wp2_with fail
  refine (l1In_any k 1 60 _).mono ?_
  rintro e w' ⟨rfl, rfl⟩
  by_cases hk : inB k 1 60 = true
  case neg =>
    have hk' : inB k 1 60 = false := by simpa using hk
    rw [hk']
    have HN := Lib.hid (ccOk_k (L := n) (P := P) hk')
    clear hk hk'
    go_wp2_with fail
    go_ret2
    exact ⟨ret_ibY (ccV_no HN.out).symm HN.out.symm, (HF1.out.below_of hbA (by omega) (by omega))⟩
  rw [hk]
  have HK := Lib.hid hk
  obtain ⟨k1, k60⟩ := inB_le hk
  clear hk
  obtain ⟨q, rfl⟩ : ∃ q : Nat, k = q := ⟨k.toNat, by omega⟩
  have HP := Lib.hid (good_prs HG.out)
  rw [Int.toNat_natCast] at HP
  have hmk := fun W => run_make_row' (P := Try.prog) 29 3 (.int .i64 0) 8 Try.underlying29 Try.info3 rfl .i64 .i64 n (by omega) (by omega) W
  have P_1 := Lib.hid (ISS.turned G1.out HF1.out (by omega) (by omega)); clear G1
  have bx1_1 := HF1.out.boxN bx1 (by omega); clear bx1
  have hbA1 : Below w.heap.size w W1 := (HF1.out.below_of hbA (by omega) (by omega)); clear hbA HF1
  have kbx1_0 : W1.cell? ⟨w.heap.size, 0, none⟩ = some (.int .i64 (n : Nat)) := bx1_1.cell 0 (by simp)
  have kbx1_1 : W1.cell? ⟨w.heap.size, 1, none⟩ = some (.slice A1 P.length c1) := bx1_1.cell 1 (by simp)
  go_wp2_with fail
  clear kbx1_0 kbx1_1
  go_loopw [6, 7] (fun sv av wr => ∃ (a : Nat) (s : Int), a ≤ n ∧ av = .int .i64 a ∧ sv = .int .i64 s ∧ Hid (totC (prs P) n q a = s) ∧ Hid (Turned W1.heap.size W1.heap.size W1 wr)) (fun sv av _ => n - (intOf av).toNat)
  case atStart => exact ⟨0, 0, Nat.zero_le _, rfl, rfl, Lib.hid rfl, Lib.hid (Turned.refl W1.heap.size W1.heap.size W1)⟩
  case round =>
    obtain ⟨a, s, ha, rfl, rfl, HS, HF2⟩ := hrel
    have hs2 := HF2.out.size
    obtain ⟨wa, rfl⟩ : ∃ wa : World, wa = wr := ⟨_, rfl⟩
    obtain ⟨⟨s0, s1⟩, _⟩ := totC_pos (k := q) (prs P) HP.out a ha
    rw [HS.out] at s0 s1
    unfold capC at s1
    by_cases hlt : a < n
    case pos =>
      have hai : (a : Int) < n := by omega
      have kbx1_0 : wa.cell? ⟨w.heap.size, 0, none⟩ = some (.int .i64 (n : Nat)) := (HF2.out.boxN bx1_1 (by omega)).cell 0 (by simp)
      have kbx1_1 : wa.cell? ⟨w.heap.size, 1, none⟩ = some (.slice A1 P.length c1) := (HF2.out.boxN bx1_1 (by omega)).cell 1 (by simp)
      go_upto_region 8 with (fail)
      refine nameC ?_
      intro W3 HW3
      have hg3 : wa.grownBy W3 none := by rw [HW3.out]; exact grown_alloc _ _
      have hs3 := hg3.size
      have HF3 := Lib.hid (HF2.out.still hg3); clear HF2
      have HC := Lib.hid (show IntS W3 wa.heap.size (wa.heap.size + 1) (.slice (some ⟨wa.heap.size, 0, none⟩) n n) (List.replicate n 0) by rw [HW3.out]; exact made_ints _ _ _ rfl (by omega))
      have hzc : wa.heap.size + 1 ≤ W3.heap.size := by rw [HW3.out]; simp
      clear HW3 kbx1_0 kbx1_1
      obtain ⟨y1, y2⟩ := HC.out.at0 (j := a) (by simpa using hlt)
      have hs := HC.out.set0 (j := a) (by simpa using hlt) 1
      have HC2 := Lib.hid hs; clear hs HC
      have kbx1_0 : W3.cell? ⟨w.heap.size, 0, none⟩ = some (.int .i64 (n : Nat)) := (HF3.out.boxN bx1_1 (by omega)).cell 0 (by simp)
      have kbx1_1 : W3.cell? ⟨w.heap.size, 1, none⟩ = some (.slice A1 P.length c1) := (HF3.out.boxN bx1_1 (by omega)).cell 1 (by simp)
      go_upto_region 9 with (fail)
      refine nameC ?_
      intro W4 HW4
      have hg4 : W3.grownBy W4 (some wa.heap.size) := by rw [HW4.out]; exact grown_set _ ⟨wa.heap.size, a, none⟩ _
      have hs4 := hg4.size
      have HF4 := Lib.hid (HF3.out.grown hg4 (fun g e => .inr (by cases e; omega))); clear HF3
      have HC3 := Lib.hid (show IntS W4 wa.heap.size (wa.heap.size + 1) (.slice (some ⟨wa.heap.size, 0, none⟩) n n) (cntC (prs P) n a 0) by rw [HW4.out]; exact HC2.out)
      have hzc3 : wa.heap.size + 1 ≤ W4.heap.size := by rw [HW4.out, size_setCell]; exact hzc
      clear HW4 HC2 hzc y1 y2 kbx1_0 kbx1_1
      have kbx1_0 : W4.cell? ⟨w.heap.size, 0, none⟩ = some (.int .i64 (n : Nat)) := (HF4.out.boxN bx1_1 (by omega)).cell 0 (by simp)
      have kbx1_1 : W4.cell? ⟨w.heap.size, 1, none⟩ = some (.slice A1 P.length c1) := (HF4.out.boxN bx1_1 (by omega)).cell 1 (by simp)
      go_wp2_with fail
      clear kbx1_0 kbx1_1
      go_loopw [8, 9] (fun cv iv wr => ∃ (i g : Nat), i ≤ q ∧ iv = .int .i64 i ∧ cv = .slice (some ⟨g, 0, none⟩) n n ∧ W1.heap.size ≤ g ∧ g + 1 ≤ wr.heap.size ∧ Hid (IntS wr g (g + 1) (.slice (some ⟨g, 0, none⟩) n n) (cntC (prs P) n a i)) ∧ Hid (Turned W1.heap.size W1.heap.size W1 wr)) (fun cv iv _ => q - (intOf iv).toNat)
      case atStart => exact ⟨0, wa.heap.size, Nat.zero_le _, rfl, rfl, by omega, hzc3, HC3, HF4⟩
      case round =>
        clear HF4
        obtain ⟨i, g, hi, rfl, rfl, hgA, hzg, HC, HF5⟩ := hrel
        have hs5 := HF5.out.size
        obtain ⟨wi, rfl⟩ : ∃ wi : World, wi = wr := ⟨_, rfl⟩
        obtain ⟨⟨hcl, hcb⟩, _⟩ := cntC_cnt (prs P) HP.out hlt i
        have HCB := Lib.hid hcb; clear hcb
        by_cases hil : i < q
        case pos =>
          have hii : (i : Int) < q := by omega
          have kbx1_0 : wi.cell? ⟨w.heap.size, 0, none⟩ = some (.int .i64 (n : Nat)) := (HF5.out.boxN bx1_1 (by omega)).cell 0 (by simp)
          have kbx1_1 : wi.cell? ⟨w.heap.size, 1, none⟩ = some (.slice A1 P.length c1) := (HF5.out.boxN bx1_1 (by omega)).cell 1 (by simp)
          go_upto_region 13 with (fail)
          refine nameC ?_
          intro W6 HW6
          have hg6 : wi.grownBy W6 none := by rw [HW6.out]; exact grown_alloc _ _
          have hs6 := hg6.size
          have HF6 := Lib.hid (HF5.out.still hg6); clear HF5
          have HNX := Lib.hid (show IntS W6 wi.heap.size (wi.heap.size + 1) (.slice (some ⟨wi.heap.size, 0, none⟩) n n) (List.replicate n 0) by rw [HW6.out]; exact made_ints _ _ _ rfl (by omega))
          have hzn : wi.heap.size + 1 ≤ W6.heap.size := by rw [HW6.out]; simp
          have HC4 := Lib.hid (IntS.still HC.out hg6 hzg)
          clear HW6 HC kbx1_0 kbx1_1
          have kbx1_0 : W6.cell? ⟨w.heap.size, 0, none⟩ = some (.int .i64 (n : Nat)) := (HF6.out.boxN bx1_1 (by omega)).cell 0 (by simp)
          have kbx1_1 : W6.cell? ⟨w.heap.size, 1, none⟩ = some (.slice A1 P.length c1) := (HF6.out.boxN bx1_1 (by omega)).cell 1 (by simp)
          go_wp2_with fail
          clear kbx1_0 kbx1_1
          obtain ⟨cs, HCS⟩ : ∃ c, Hid (cntC (prs P) n a i = c) := ⟨_, Lib.hid rfl⟩
          rw [HCS.out] at HC4 hcl HCB
          go_loopw [44] (fun jv wr => ∃ (j : Nat) (zs : List Int), j ≤ P.length ∧ jv = .int .i64 j ∧ Hid (stepC ((prs P).take j) cs n = zs) ∧ Hid (IntS wr wi.heap.size (wi.heap.size + 1) (.slice (some ⟨wi.heap.size, 0, none⟩) n n) zs) ∧ wi.heap.size + 1 ≤ wr.heap.size ∧ Hid (IntS wr g (g + 1) (.slice (some ⟨g, 0, none⟩) n n) cs) ∧ Hid (Turned W1.heap.size W1.heap.size W1 wr)) (fun jv _ => P.length - (intOf jv).toNat)
          case atStart => exact ⟨0, _, Nat.zero_le _, rfl, Lib.hid rfl, by rw [List.take_zero]; exact HNX, hzn, HC4, HF6⟩
          case round =>
            clear HF6
            obtain ⟨j, zs, hj, rfl, HZ, HN, hzn, HC, HF7⟩ := hrel
            have hs7 := HF7.out.size
            obtain ⟨⟨hzl, hzb⟩, _⟩ := stepC_cnt (n := n) (c := cs) ⟨hcl, HCB.out⟩ ((prs P).take j) (fun x hx => HP.out x (List.mem_of_mem_take hx))
            rw [HZ.out] at hzl hzb
            have HZB := Lib.hid hzb; clear hzb
            by_cases hjl : j < P.length
            case pos =>
              obtain ⟨br, or, ur, rfl, _, hbr, zr, hur⟩ := SS.opened P_1.out hjl
              replace zr := (HF7.out.cell (by omega) (by omega)).trans zr
              obtain ⟨Ar, cr, rfl, hcr, hdr⟩ := hur.dims
              have Ur := Lib.hid hur; clear hur
              have hji : (j : Int) < P.length := by omega
              obtain ⟨hl2, x, y, exy, hx, hy⟩ := good_arc HG.out hjl
              rw [Int.toNat_natCast] at hx hy
              have HSTP := Lib.hid (show stepC ((prs P).take (j + 1)) cs n = addC cs zs (x, y) by rw [stepC_take (prs P) cs n (prs_at hjl), HZ.out, exy]; simp [nth])
              have HE := Lib.hid exy
              rw [exy] at hcr Ur zr
              clear hl2 exy
              obtain ⟨b0, o0, rfl, _, hb0', x0, _⟩ := (IntS.turned Ur.out HF7.out (by omega) (by omega)).opened (j := 0) (zs := [(x : Int), (y : Int)]) (Nat.succ_pos _)
              have x1 := ((IntS.turned Ur.out HF7.out (by omega) (by omega)).at_ (j := 1) (zs := [(x : Int), (y : Int)]) (Nat.succ_lt_succ (Nat.succ_pos _))).1
              simp only [nth, List.getD_cons_zero, List.getD_cons_succ, Nat.add_zero] at x0 x1
              obtain ⟨y1, y2⟩ := HN.out.at0 (j := y) (by rw [hzl]; exact hy)
              obtain ⟨z1, z2⟩ := HC.out.at0 (j := x) (by rw [hcl]; exact hx)
              have hb1 := HZB.out y hy
              have hb2 := HCB.out x hx
              unfold addC capC at HSTP
              unfold capC at hb1 hb2
              dsimp only at HSTP
              obtain ⟨u, HU⟩ : ∃ u, Hid (nth zs y = u) := ⟨_, Lib.hid rfl⟩
              obtain ⟨v, HV⟩ : ∃ u, Hid (nth cs x = u) := ⟨_, Lib.hid rfl⟩
              rw [HU.out] at y1 hb1 HSTP
              rw [HV.out] at z1 hb2 HSTP
              have hxi : (x : Int) < n := by omega
              have hyi : (y : Int) < n := by omega
              have hwr : Go.RowKit.wrap64 (u + v) = u + v := by unfold Go.RowKit.wrap64; omega
              have hwr2 : IntKind.i64.wrap (u + v) = u + v := IntWalk.i64_in _ (by omega)
              obtain ⟨V, HVV⟩ : ∃ V, Hid (min (u + v) 1000000000001 = V) := ⟨_, Lib.hid rfl⟩
              rw [HVV.out] at HSTP
              have hV := HVV.out
              have hs := IntS.still (HN.out.set0 (j := y) (by rw [hzl]; exact hy) V) (grown_drew _) (by rw [size_setCell]; omega)
              have HS2 := Lib.hid hs; clear hs
              go_wp2_with fail
              refine wp_region_U (fun w' => w'.cell? ⟨b0, o0, none⟩ = some (.int .i64 x) ∧ w'.cell? ⟨b0, o0 + 1, none⟩ = some (.int .i64 y) ∧ w'.cell? ⟨wi.heap.size, y, none⟩ = some (.int .i64 u) ∧ w'.cell? ⟨g, x, none⟩ = some (.int .i64 v)) [19] (by kernel_rfl) ?_
              refine nameU ?_
              intro W8 HW8
              have hg8 : wr.grownBy W8 none := by rw [HW8.out]; exact grown_drew _
              clear HW8
              have hs8 := hg8.size
              have HF8 := Lib.hid (HF7.out.still hg8); clear HF7
              have hS9 : W8.cell? ⟨b0, o0, none⟩ = some (.int .i64 x) ∧ W8.cell? ⟨b0, o0 + 1, none⟩ = some (.int .i64 y) ∧ W8.cell? ⟨wi.heap.size, y, none⟩ = some (.int .i64 u) ∧ W8.cell? ⟨g, x, none⟩ = some (.int .i64 v) := ⟨((World.cell?_of_block (a := ⟨b0, o0, none⟩) (hg8.block (b0) (by omega) (by simp))).trans x0), ((World.cell?_of_block (a := ⟨b0, o0 + 1, none⟩) (hg8.block (b0) (by omega) (by simp))).trans x1), ((World.cell?_of_block (a := ⟨wi.heap.size, y, none⟩) (hg8.block (wi.heap.size) (by omega) (by simp))).trans y1), ((World.cell?_of_block (a := ⟨g, x, none⟩) (hg8.block (g) (by omega) (by simp))).trans z1)⟩
              refine anyU_take (i := 0) (v := .slice (some ⟨wi.heap.size, 0, none⟩) n n) rfl (by kernel_rfl) (by kernel_rfl) (by kernel_rfl) (fun _ _ _ h => h) ⟨by rfl, fun w' hS' => (by obtain ⟨s1, s2, s3, s4⟩ := hS'; go_simp)⟩ hS9 ?_
              simp only [List.getElem_toArray, List.getElem_cons_zero, Act.put, List.setIfInBounds_toArray, List.set_cons_zero, List.set_cons_succ]
              refine anyU_take (i := 1) (v := .slice (some ⟨b0, o0, none⟩) 2 cr) rfl (by kernel_rfl) (by kernel_rfl) (by kernel_rfl) (fun _ _ _ h => h) ⟨by rfl, fun w' hS' => (by obtain ⟨s1, s2, s3, s4⟩ := hS'; go_simp)⟩ hS9 ?_
              simp only [List.getElem_toArray, List.getElem_cons_succ, List.getElem_cons_zero, Act.put, List.setIfInBounds_toArray, List.set_cons_zero, List.set_cons_succ]
              refine anyU_take (i := 2) (v := .pointer (some ⟨b0, o0 + 1, none⟩)) rfl (by kernel_rfl) (by kernel_rfl) (by kernel_rfl) (fun _ _ _ h => h) ⟨by rfl, fun w' hS' => (by obtain ⟨s1, s2, s3, s4⟩ := hS'; go_simp)⟩ hS9 ?_
              simp only [List.getElem_toArray, List.getElem_cons_succ, List.getElem_cons_zero, Act.put, List.setIfInBounds_toArray, List.set_cons_zero, List.set_cons_succ]
              refine anyU_take (i := 3) (v := .int .i64 y) rfl (by kernel_rfl) (by kernel_rfl) (by kernel_rfl) (fun _ _ _ h => h) ⟨by rfl, fun w' hS' => (by obtain ⟨s1, s2, s3, s4⟩ := hS'; go_simp)⟩ hS9 ?_
              simp only [List.getElem_toArray, List.getElem_cons_succ, List.getElem_cons_zero, Act.put, List.setIfInBounds_toArray, List.set_cons_zero, List.set_cons_succ]
              refine anyU_take (i := 4) (v := .slice (some ⟨wi.heap.size, 0, none⟩) n n) rfl (by kernel_rfl) (by kernel_rfl) (by kernel_rfl) (fun _ _ _ h => h) ⟨by rfl, fun w' hS' => (by obtain ⟨s1, s2, s3, s4⟩ := hS'; go_simp)⟩ hS9 ?_
              simp only [List.getElem_toArray, List.getElem_cons_succ, List.getElem_cons_zero, Act.put, List.setIfInBounds_toArray, List.set_cons_zero, List.set_cons_succ]
              refine anyU_take (i := 5) (v := .slice (some ⟨b0, o0, none⟩) 2 cr) rfl (by kernel_rfl) (by kernel_rfl) (by kernel_rfl) (fun _ _ _ h => h) ⟨by rfl, fun w' hS' => (by obtain ⟨s1, s2, s3, s4⟩ := hS'; go_simp)⟩ hS9 ?_
              simp only [List.getElem_toArray, List.getElem_cons_succ, List.getElem_cons_zero, Act.put, List.setIfInBounds_toArray, List.set_cons_zero, List.set_cons_succ]
              refine anyU_take (i := 6) (v := .pointer (some ⟨b0, o0 + 1, none⟩)) rfl (by kernel_rfl) (by kernel_rfl) (by kernel_rfl) (fun _ _ _ h => h) ⟨by rfl, fun w' hS' => (by obtain ⟨s1, s2, s3, s4⟩ := hS'; go_simp)⟩ hS9 ?_
              simp only [List.getElem_toArray, List.getElem_cons_succ, List.getElem_cons_zero, Act.put, List.setIfInBounds_toArray, List.set_cons_zero, List.set_cons_succ]
              refine anyU_take (i := 7) (v := .int .i64 y) rfl (by kernel_rfl) (by kernel_rfl) (by kernel_rfl) (fun _ _ _ h => h) ⟨by rfl, fun w' hS' => (by obtain ⟨s1, s2, s3, s4⟩ := hS'; go_simp)⟩ hS9 ?_
              simp only [List.getElem_toArray, List.getElem_cons_succ, List.getElem_cons_zero, Act.put, List.setIfInBounds_toArray, List.set_cons_zero, List.set_cons_succ]
              refine anyU_take (i := 8) (v := .pointer (some ⟨wi.heap.size, y, none⟩)) rfl (by kernel_rfl) (by kernel_rfl) (by kernel_rfl) (fun _ _ _ h => h) ⟨by rfl, fun w' hS' => (by obtain ⟨s1, s2, s3, s4⟩ := hS'; go_simp)⟩ hS9 ?_
              simp only [List.getElem_toArray, List.getElem_cons_succ, List.getElem_cons_zero, Act.put, List.setIfInBounds_toArray, List.set_cons_zero, List.set_cons_succ]
              refine anyU_take (i := 9) (v := .int .i64 u) rfl (by kernel_rfl) (by kernel_rfl) (by kernel_rfl) (fun _ _ _ h => h) ⟨by rfl, fun w' hS' => (by obtain ⟨s1, s2, s3, s4⟩ := hS'; go_simp)⟩ hS9 ?_
              simp only [List.getElem_toArray, List.getElem_cons_succ, List.getElem_cons_zero, Act.put, List.setIfInBounds_toArray, List.set_cons_zero, List.set_cons_succ]
              refine anyU_take (i := 10) (v := .slice (some ⟨g, 0, none⟩) n n) rfl (by kernel_rfl) (by kernel_rfl) (by kernel_rfl) (fun _ _ _ h => h) ⟨by rfl, fun w' hS' => (by obtain ⟨s1, s2, s3, s4⟩ := hS'; go_simp)⟩ hS9 ?_
              simp only [List.getElem_toArray, List.getElem_cons_succ, List.getElem_cons_zero, Act.put, List.setIfInBounds_toArray, List.set_cons_zero, List.set_cons_succ]
              refine anyU_take (i := 11) (v := .slice (some ⟨b0, o0, none⟩) 2 cr) rfl (by kernel_rfl) (by kernel_rfl) (by kernel_rfl) (fun _ _ _ h => h) ⟨by rfl, fun w' hS' => (by obtain ⟨s1, s2, s3, s4⟩ := hS'; go_simp)⟩ hS9 ?_
              simp only [List.getElem_toArray, List.getElem_cons_succ, List.getElem_cons_zero, Act.put, List.setIfInBounds_toArray, List.set_cons_zero, List.set_cons_succ]
              refine anyU_take (i := 12) (v := .pointer (some ⟨b0, o0, none⟩)) rfl (by kernel_rfl) (by kernel_rfl) (by kernel_rfl) (fun _ _ _ h => h) ⟨by rfl, fun w' hS' => (by obtain ⟨s1, s2, s3, s4⟩ := hS'; go_simp)⟩ hS9 ?_
              simp only [List.getElem_toArray, List.getElem_cons_succ, List.getElem_cons_zero, Act.put, List.setIfInBounds_toArray, List.set_cons_zero, List.set_cons_succ]
              refine anyU_take (i := 13) (v := .int .i64 x) rfl (by kernel_rfl) (by kernel_rfl) (by kernel_rfl) (fun _ _ _ h => h) ⟨by rfl, fun w' hS' => (by obtain ⟨s1, s2, s3, s4⟩ := hS'; go_simp)⟩ hS9 ?_
              simp only [List.getElem_toArray, List.getElem_cons_succ, List.getElem_cons_zero, Act.put, List.setIfInBounds_toArray, List.set_cons_zero, List.set_cons_succ]
              refine anyU_take (i := 14) (v := .pointer (some ⟨g, x, none⟩)) rfl (by kernel_rfl) (by kernel_rfl) (by kernel_rfl) (fun _ _ _ h => h) ⟨by rfl, fun w' hS' => (by obtain ⟨s1, s2, s3, s4⟩ := hS'; go_simp)⟩ hS9 ?_
              simp only [List.getElem_toArray, List.getElem_cons_succ, List.getElem_cons_zero, Act.put, List.setIfInBounds_toArray, List.set_cons_zero, List.set_cons_succ]
              refine anyU_take (i := 15) (v := .int .i64 v) rfl (by kernel_rfl) (by kernel_rfl) (by kernel_rfl) (fun _ _ _ h => h) ⟨by rfl, fun w' hS' => (by obtain ⟨s1, s2, s3, s4⟩ := hS'; go_simp)⟩ hS9 ?_
              simp only [List.getElem_toArray, List.getElem_cons_succ, List.getElem_cons_zero, Act.put, List.setIfInBounds_toArray, List.set_cons_zero, List.set_cons_succ]
              refine anyU_take (i := 16) (v := .int .i64 (u + v)) rfl (by kernel_rfl) (by kernel_rfl) (by kernel_rfl) (fun _ _ _ h => h) ⟨by rfl, fun w' hS' => (by obtain ⟨s1, s2, s3, s4⟩ := hS'; go_simp)⟩ hS9 ?_
              simp only [List.getElem_toArray, List.getElem_cons_succ, List.getElem_cons_zero, Act.put, List.setIfInBounds_toArray, List.set_cons_zero, List.set_cons_succ]
              refine anyU_ready (rs := [17]) (by kernel_rfl) (by simp) ?_
              refine ReadyU.cons (i := 17) rfl (fun K hK => ?_) ReadyU.nil
              simp only [List.getElem_toArray, List.getElem_cons_succ, List.getElem_cons_zero]
              refine ite_is (by rfl) ?_
              simp [go_sem]
              refine (l1LeastY_any (u + v) 1000000000001 _).mono ?_
              rintro e w' ⟨rfl, rfl⟩
              rw [hV]
              refine hK.out _ _ ⟨fun _ => hS9, ?_⟩
              clear hK K
              try simp only [List.getElem_toArray, List.getElem_cons_succ, List.getElem_cons_zero, Act.put, List.setIfInBounds_toArray, List.set_cons_zero, List.set_cons_succ]
              refine anyU_take (i := 18) (v := .pointer (some ⟨wi.heap.size, y, none⟩)) rfl (by kernel_rfl) (by kernel_rfl) (by kernel_rfl) (fun _ _ _ h => h) ⟨by rfl, fun w' hS' => (by obtain ⟨s1, s2, s3, s4⟩ := hS'; go_simp)⟩ hS9 ?_
              simp only [List.getElem_toArray, List.getElem_cons_succ, List.getElem_cons_zero, Act.put, List.setIfInBounds_toArray, List.set_cons_zero, List.set_cons_succ]
              have ka := (World.cell?_of_block (a := ⟨wi.heap.size, y, none⟩) (hg8.block (wi.heap.size) (by omega) (by simp))).trans y1
              have kf := (World.frozen?_of_block (a := ⟨wi.heap.size, y, none⟩) (hg8.block (wi.heap.size) (by omega) (by simp))).trans y2
              have HN9 := Lib.hid (IntS.still HN.out hg8 (by omega)); have HC9 := Lib.hid (IntS.still HC.out hg8 (by omega))
              have hzn9 := Nat.le_trans hzn hg8.size
              clear HN HC HS2
              refine anyU_ready (rs := [19]) (by kernel_rfl) (by simp) ?_
              refine ReadyU.cons (i := 19) rfl (fun K hK => ?_) ReadyU.nil
              simp only [List.getElem_toArray, List.getElem_cons_succ, List.getElem_cons_zero]
              refine ite_is (by rfl) ?_
              simp [go_sem, ka, kf]
              refine hK.out _ _ ⟨fun h => absurd h (by decide), ?_⟩
              clear hK K
              try simp only [List.getElem_toArray, List.getElem_cons_succ, List.getElem_cons_zero, Act.put, List.setIfInBounds_toArray, List.set_cons_zero, List.set_cons_succ]
              refine nameU ?_
              intro W10 HW10
              have hg10 : W8.grownBy W10 (some (wi.heap.size)) := by rw [HW10.out]; exact grown_set _ _ _
              have hs10 := hg10.size
              have HF10 := Lib.hid (HF8.out.grown hg10 (fun g' e => .inr (by cases e; show W1.heap.size ≤ wi.heap.size; omega))); clear HF8
              have HS3 := Lib.hid (show IntS W10 wi.heap.size (wi.heap.size + 1) (.slice (some ⟨wi.heap.size, 0, none⟩) n n) (zs.set y V) by rw [HW10.out]; exact HN9.out.set0 (j := y) (by rw [hzl]; exact hy) V)
              have HC10 := Lib.hid (IntS.far HC9.out hg10 (by omega) (fun g' e => .inr (by cases e; show g + 1 ≤ wi.heap.size; omega)))
              clear HW10 ka kf
              clear hS9
              refine anyU_done (by kernel_rfl) ?_ _
              go_wp2_with fail
              go_roundw
              case rel => exact ⟨j + 1, _, by omega, by go_num, HSTP, HS3, by omega, HC10, HF10⟩
              case measure => simp [intOf]; omega
            obtain rfl : j = P.length := by omega
            have hji : ¬ (P.length : Int) < P.length := by omega
            have HNE := Lib.hid (show cntC (prs P) n a (i + 1) = zs by rw [cntC_succ, HCS.out, ← HZ.out, List.take_of_length_le (by rw [prs_length]; exact Nat.le_refl _)])
            go_wp2_with fail
            go_roundw
            case rel => exact ⟨i + 1, wi.heap.size, by omega, by go_num, rfl, by omega, hzn, Lib.hid (by rw [HNE.out]; exact HN.out), HF7⟩
            case measure => simp [intOf]; omega
        obtain rfl : i = q := by omega
        have hii : ¬ (i : Int) < i := by omega
        obtain ⟨y1, y2⟩ := HC.out.at0 (j := a) (by rw [hcl]; exact hlt)
        have hb := HCB.out a hlt
        unfold capC at hb
        have HTS := Lib.hid (totC_succ (prs P) n i a)
        unfold capC at HTS
        rw [HS.out] at HTS
        obtain ⟨u, HU⟩ : ∃ u, Hid (nth (cntC (prs P) n a i) a = u) := ⟨_, Lib.hid rfl⟩
        rw [HU.out] at y1 hb HTS
        have hwr2 : IntKind.i64.wrap (s + u) = s + u := IntWalk.i64_in _ (by omega)
        obtain ⟨V, HVV⟩ : ∃ V, Hid (min (s + u) 1000000000001 = V) := ⟨_, Lib.hid rfl⟩
        rw [HVV.out] at HTS
        have hV := HVV.out
        go_wp2_with fail
        refine (l1LeastY_any (s + u) 1000000000001 _).mono ?_
        rintro e w' ⟨rfl, rfl⟩
        go_wp2_with fail
        go_roundw
        case rel => exact ⟨a + 1, V, by omega, by go_num, by first | rfl | (rw [← hV]; rfl) | (rw [hV]), HTS, HF5⟩
        case measure => simp [intOf]; omega
    have kbx1_0 : wa.cell? ⟨w.heap.size, 0, none⟩ = some (.int .i64 (n : Nat)) := (HF2.out.boxN bx1_1 (by omega)).cell 0 (by simp)
    have kbx1_1 : wa.cell? ⟨w.heap.size, 1, none⟩ = some (.slice A1 P.length c1) := (HF2.out.boxN bx1_1 (by omega)).cell 1 (by simp)
    obtain rfl : a = n := by omega
    have hai : ¬ (a : Int) < a := by omega
    have hret := ccRet HG.out HK.out HS.out
    by_cases hb : 1000000000000 < s
    case pos =>
      have HN := Lib.hid (hret.1 hb)
      clear hret
      go_wp2_with fail
      go_ret2
      exact ⟨ret_ibY (ccV_no HN.out).symm HN.out.symm, (HF2.out.below_of hbA1 (by omega) (by omega))⟩
    have HN := Lib.hid (hret.2 hb)
    clear hret
    go_wp2_with fail
    go_ret2
    exact ⟨ret_ibY HN.out.2.symm HN.out.1.symm, (HF2.out.below_of hbA1 (by omega) (by omega))⟩

end Go.Proofs.Ytbfjhehhpgcelaa

/- What the answers on cycles and walks are like, in plain words; pHas. -/
namespace Go.Proofs.Ytbfjhehhpgcelaa
open Go.ChangeShapes Go.WideShapes Go.ChangeAt Go.RowKit
set_option linter.unusedVariables false

theorem walkB_of {m : Nat → Nat → Bool} {zs : List Int} (h : ∀ j, j + 1 < zs.length → m (nth zs j).toNat (nth zs (j + 1)).toNat = true) : walkB m zs = true := by
  unfold walkB
  exact rangeAll_true fun j hj => h j (by omega)
theorem gw_inL {n k a b : Nat} {m : Nat → Nat → Bool} (hb : b < n) (ha : a < n) (h : wk n m k a b = true) : inL n (gw n m b k a) := fun j hj => by
  rw [gw_len] at hj
  exact gw_in hb ha h (by omega)
theorem gw_walk {n k a b : Nat} {m : Nat → Nat → Bool} (hb : b < n) (ha : a < n) (h : wk n m k a b = true) : walkB m (gw n m b k a) = true := walkB_of fun j hj => by
  rw [gw_len] at hj
  exact gw_arc hb ha h (by omega)
theorem gw_close {n k a : Nat} {m : Nat → Nat → Bool} (ha : a < n) (hk : 1 ≤ k) (h : wk n m k a a = true) : (gw n m a k a).take k ++ [nth ((gw n m a k a).take k) 0] = gw n m a k a := by
  obtain ⟨q, rfl⟩ : ∃ q, k = q + 1 := ⟨k - 1, by omega⟩
  have h0 : nth ((gw n m a (q + 1) a).take (q + 1)) 0 = a := by rw [nth_take (by omega), gw_zero]
  have h1 : nth (gw n m a (q + 1) a) (q + 1) = a := gw_last ha ha h
  have h2 := gw_take (n := n) (m := m) (b := a) (a := a) (show q < q + 1 by omega)
  rw [h1] at h2
  rw [h0, ← h2]
  exact List.take_of_length_le (by rw [gw_len]; omega)
theorem fc_parts {L : Int} {P : List (List Int)} {k : Int} (h : fcOk L P k = true) : ∃ n q a : Nat, L = n ∧ k = q ∧ wkGood (n : Int) P = true ∧ n ≤ 12 ∧ 1 ≤ q ∧ q ≤ 60 ∧ a < n ∧ wk n (may P) q a a = true ∧ fcL L P k = (gw n (may P) a q a).take q ∧ solvA n (may P) q n = true := by
  have h0 := h
  unfold fcOk at h
  rw [Bool.and_eq_true, Bool.and_eq_true] at h
  obtain ⟨h1, h2, h3⟩ := h
  obtain ⟨n, rfl, n1, n12⟩ := good_L h1
  obtain ⟨k1, k60⟩ := inB_le h2
  obtain ⟨q, rfl⟩ : ∃ q : Nat, k = q := ⟨k.toNat, by omega⟩
  rw [Int.toNat_natCast, Int.toNat_natCast] at h3
  obtain ⟨c, c1, c2⟩ := any_iff.1 (show (List.range n).any (fun c => wk n (may P) q c c) = true from h3)
  obtain ⟨f1, f2, _, _⟩ := fstC_of (n := n) (f := fun c => wk n (may P) q c c) ⟨c, c1, c2⟩
  refine ⟨n, q, fcA n P q, rfl, rfl, h1, n12, by omega, by omega, ?_, ?_, ?_, h3⟩
  · unfold fcA; rw [Int.toNat_natCast, Int.toNat_natCast]; exact f1
  · unfold fcA; rw [Int.toNat_natCast, Int.toNat_natCast]; exact f2
  · unfold fcL; rw [if_pos h0, Int.toNat_natCast, Int.toNat_natCast]
theorem cc_pos {n q : Nat} {P : List (List Int)} (hg : wkGood (n : Int) P = true) : 0 < ccT (n : Int) P (q : Int) ↔ ∃ c, c < n ∧ wk n (may P) q c c = true := by
  unfold ccT
  rw [Int.toNat_natCast, Int.toNat_natCast]
  exact (totC_pos (prs P) (by have := good_prs hg; rwa [Int.toNat_natCast] at this) n (Nat.le_refl _)).2
/-- what a labeling that is given is like -/
theorem fc_yes {L : Int} {P : List (List Int)} {k : Int} (h : fcOk L P k = true) : ∃ n q : Nat, L = n ∧ k = q ∧ wkGood (n : Int) P = true ∧ 1 ≤ q ∧ q ≤ 60 ∧ (fcL L P k).length = q ∧ inL n (fcL L P k) ∧ walkB (may P) (fcL L P k ++ [nth (fcL L P k) 0]) = true ∧ (k ∈ solvL n (may P) q) ∧ (ccOk L P k = true → 1 ≤ ccV L P k) := by
  obtain ⟨n, q, a, rfl, rfl, hg, n12, q1, q60, han, hw, hf, hs⟩ := fc_parts h
  refine ⟨n, q, rfl, rfl, hg, q1, q60, ?_, ?_, ?_, solvL_mem q1 (Nat.le_refl _) hs, fun hc => ?_⟩
  · rw [hf, List.length_take, gw_len]; omega
  · rw [hf]
    intro j hj
    rw [List.length_take, gw_len] at hj
    rw [nth_take (by omega)]
    exact gw_in han han hw (by omega)
  · rw [hf, gw_close han q1 hw]
    exact gw_walk han han hw
  · have h1 := (cc_pos (q := q) hg).2 ⟨a, han, hw⟩
    unfold ccV; rw [if_pos hc]; omega
/-- what a count is like where there is no labeling -/
theorem fc_no {L : Int} {P : List (List Int)} {k : Int} (h : fcOk L P k = false) (hc : ccOk L P k = true) : ¬ 0 < ccV L P k := by
  intro h0
  unfold ccV at h0
  rw [if_pos hc] at h0
  unfold ccOk at hc
  rw [Bool.and_eq_true, Bool.and_eq_true] at hc
  obtain ⟨h1, h2, _⟩ := hc
  obtain ⟨n, rfl, n1, n12⟩ := good_L h1
  obtain ⟨k1, k60⟩ := inB_le h2
  obtain ⟨q, rfl⟩ : ∃ q : Nat, k = q := ⟨k.toNat, by omega⟩
  have h3 : solvA n (may P) q n = true := any_iff.2 ((cc_pos h1).1 h0)
  have h4 : fcOk (n : Int) P (q : Int) = true := by unfold fcOk; rw [h1, h2, Int.toNat_natCast, Int.toNat_natCast, h3]; rfl
  rw [h4] at h; cases h
/-- what a walk that is given is like -/
theorem wb_yes {L : Int} {P : List (List Int)} {a b k : Int} (h : wbOk L P a b k = true) : ∃ n q : Nat, L = n ∧ k = q ∧ wkGood (n : Int) P = true ∧ q ≤ 199 ∧ (wbOut L P a b k).length = q + 1 ∧ inL n (wbOut L P a b k) ∧ walkB (may P) (wbOut L P a b k) = true ∧ nth (wbOut L P a b k) 0 = a ∧ nth (wbOut L P a b k) q = b := by
  have h0 := h
  unfold wbOk at h
  rw [Bool.and_eq_true, Bool.and_eq_true, Bool.and_eq_true, Bool.and_eq_true] at h
  obtain ⟨h1, ⟨h2, h3⟩, h4, h5⟩ := h
  obtain ⟨n, rfl, n1, n12⟩ := good_L h1
  have b2 := inB_le h2
  have b3 := inB_le h3
  have b4 := inB_le h4
  obtain ⟨x, rfl⟩ : ∃ q : Nat, a = q := ⟨a.toNat, by omega⟩
  obtain ⟨y, rfl⟩ : ∃ q : Nat, b = q := ⟨b.toNat, by omega⟩
  obtain ⟨q, rfl⟩ : ∃ q : Nat, k = q := ⟨k.toNat, by omega⟩
  rw [Int.toNat_natCast, Int.toNat_natCast, Int.toNat_natCast, Int.toNat_natCast] at h5
  have hx : x < n := by omega
  have hy : y < n := by omega
  have hq : q ≤ 199 := by omega
  have e : wbOut (n : Int) P x y q = gw n (may P) y q x := by rw [wbOut_w h1 hx hy hq]; unfold wbL; rw [h5]; rfl
  rw [e]
  exact ⟨n, q, rfl, rfl, h1, hq, gw_len _ _ _ _ _, gw_inL hy hx h5, gw_walk hy hx h5, gw_zero _ _ _ _ _, gw_last hy hx h5⟩
/-- is a pair of labels among the arcs -/
def hasArc (l : List (List Int)) (x y : Int) : Bool := l.any fun r => nth r 0 == x && nth r 1 == y
theorem hasArc_take {l : List (List Int)} {k : Nat} (h : k < l.length) (x y : Int) : hasArc (l.take (k + 1)) x y = (hasArc (l.take k) x y || (nth (nthL l k) 0 == x && nth (nthL l k) 1 == y)) := by
  unfold hasArc
  rw [List.take_succ_eq_append_getElem h, List.any_append, nthL_eq h]; simp
theorem powRow_mem {n k a : Nat} {m : Nat → Nat → Bool} {r : List Int} : r ∈ powRow n m k a ↔ ∃ b : Nat, b < n ∧ wk n m k a b = true ∧ r = [(a : Int), (b : Int)] := by
  unfold powRow ascI
  simp only [List.mem_map, ascN_mem]
  constructor
  · rintro ⟨_, ⟨b, ⟨h1, h2⟩, rfl⟩, rfl⟩; exact ⟨b, h1, h2, rfl⟩
  · rintro ⟨b, h1, h2, rfl⟩; exact ⟨_, ⟨b, ⟨h1, h2⟩, rfl⟩, rfl⟩
theorem powR_mem {n k : Nat} {m : Nat → Nat → Bool} {r : List Int} : ∀ {c : Nat}, r ∈ powR n m k c ↔ ∃ a b : Nat, a < c ∧ b < n ∧ wk n m k a b = true ∧ r = [(a : Int), (b : Int)]
  | 0 => by simp [powR]
  | c + 1 => by
    rw [powR_succ, List.mem_append, powR_mem (c := c), powRow_mem]
    constructor
    · rintro (⟨a, b, h1, h2⟩ | ⟨b, h2⟩)
      · exact ⟨a, b, by omega, h2⟩
      · exact ⟨c, b, by omega, h2⟩
    · rintro ⟨a, b, h1, h2⟩
      by_cases e : a = c
      · subst e; exact .inr ⟨b, h2⟩
      · exact .inl ⟨a, b, by omega, h2⟩
theorem powR_at {n k c j : Nat} {m : Nat → Nat → Bool} (h : j < (powR n m k c).length) : ∃ a b : Nat, nthL (powR n m k c) j = [(a : Int), (b : Int)] := by
  obtain ⟨a, b, _, _, _, e⟩ := powR_mem.1 (nthL_mem h)
  exact ⟨a, b, e⟩
theorem hasArc_pow {n k x y : Nat} {m : Nat → Nat → Bool} (hx : x < n) (hy : y < n) : hasArc (powR n m k n) (x : Int) (y : Int) = wk n m k x y := by
  rw [Bool.eq_iff_iff]
  unfold hasArc
  rw [List.any_eq_true]
  constructor
  · rintro ⟨r, hr, h⟩
    obtain ⟨a, b, h1, h2, h3, rfl⟩ := powR_mem.1 hr
    simp [nth] at h
    obtain ⟨e1, e2⟩ := h
    obtain rfl : a = x := by omega
    obtain rfl : b = y := by omega
    exact h3
  · intro h
    exact ⟨[(x : Int), (y : Int)], powR_mem.2 ⟨x, y, hx, hy, h, rfl⟩, by simp [nth]⟩
set_option maxHeartbeats 400000 in
theorem pHas_any (v : Value) (zs : List Int) (x : Int) (lo hi : Nat) (w : World) (h : IntS w lo hi v zs) :
    Calls Try.prog 13 #[v, .int .i64 x] w fun e w' => e = .returned (.bool (decide (x ∈ zs))) ∧ w = w' := by
  obtain ⟨A, c, rfl, hc1, hc2, hcell⟩ := h.form
  unfold maxLen at hc2
  go_enter Try.func13, Try.ntmps13
  go_wp2
  go_loop [9] (fun i => ∃ k : Nat, k ≤ zs.length ∧ i = .int .i64 k ∧ Hid (Upto zs k fun y => y != x)) (fun i => zs.length - (intOf i).toNat)
  case atStart => exact ⟨0, Nat.zero_le _, rfl, Lib.hid (Upto.zero _ _)⟩
  case round =>
    obtain ⟨k, hk, rfl, HU⟩ := hrel
    by_cases hlt : k < zs.length
    · obtain ⟨b, off, rfl, hb1, hb2, hcs⟩ := hcell (by omega)
      have hck := (hcs k hlt).1
      clear hcs hcell
      by_cases he : nth zs k = x
      · have he' : (nth zs k == x) = true := by simpa using he
        have HE := Lib.hid he
        clear he
        go_wp2
        go_ret
        exact ⟨ret_bool (by symm; rw [decide_eq_true_iff, ← HE.out]; exact nth_mem hlt), rfl⟩
      · have he' : (nth zs k == x) = false := by simpa using he
        have HE := Lib.hid he
        clear he
        go_wp2
        go_round
        case rel => exact ⟨k + 1, by omega, by go_num, Lib.hid (HU.out.succ (by simpa using HE.out))⟩
        case measure => simp [intOf]; omega
    · obtain rfl : k = zs.length := by omega
      go_wp2
      go_ret
      refine ⟨ret_bool ?_, rfl⟩
      symm
      rw [decide_eq_false_iff_not]
      intro hm
      have := HU.out.all
      rw [List.all_eq_true] at this
      have := this _ hm
      simp at this

end Go.Proofs.Ytbfjhehhpgcelaa

/- Contracts: the laws' helpers: sizes of two codes, a number of bytes, equal lists. -/
namespace Go.Proofs.Ytbfjhehhpgcelaa
open Go.ChangeShapes Go.WideShapes Go.ChangeAt Go.RowKit
set_option linter.unusedVariables false

set_option maxHeartbeats 1000000 in
set_option maxRecDepth 100000 in
theorem big_any (v1 : Value) (a : List Int) (lo1 hi1 : Nat) (v2 : Value) (b : List Int) (lo2 hi2 : Nat) (w : World) (h1 : ByS w lo1 hi1 v1 a) (hh1 : hi1 ≤ w.heap.size) (h2 : ByS w lo2 hi2 v2 b) (hh2 : hi2 ≤ w.heap.size)  :
    Calls Try.prog 4 #[v1, v2] w fun e w' => e = .returned (.bool (!decide (a.length + b.length ≤ 1048576))) ∧ w = w' := by
  have Fa := Lib.hid h1; have Fb := Lib.hid h2
  have F1 := Lib.hid h1
  obtain ⟨A1, c1, rfl, hc1, hd1⟩ := h1.dims
  clear h1
  have F2 := Lib.hid h2
  obtain ⟨A2, c2, rfl, hc2, hd2⟩ := h2.dims
  clear h2
  go_enter Try.func4, Try.ntmps4
  obtain ⟨m, HM⟩ : ∃ m, Hid (a.length = m) := ⟨_, Lib.hid rfl⟩
  obtain ⟨n, HN⟩ : ∃ m, Hid (b.length = m) := ⟨_, Lib.hid rfl⟩
  rw [HM.out] at hc1
  rw [HN.out] at hc2
  rw [HM.out, HN.out]
  have hw : IntKind.i64.wrap (1048576 - (m : Int)) = 1048576 - (m : Int) := IntWalk.i64_in _ (by omega)
  by_cases h1 : (1048576 : Int) < m
  case pos =>
    have HR := Lib.hid (show (!decide (m + n ≤ 1048576)) = true by simp; omega)
    go_wp2_with fail
    go_ret
    exact ⟨ret_bool HR.out.symm, rfl⟩
  by_cases h2 : 1048576 - (m : Int) < n
  case pos =>
    have HR := Lib.hid (show (!decide (m + n ≤ 1048576)) = true by simp; omega)
    go_wp2_with fail
    go_ret
    exact ⟨ret_bool (by rw [HR.out]), rfl⟩
  have HR := Lib.hid (show (!decide (m + n ≤ 1048576)) = false by simp; omega)
  go_wp2_with fail
  go_ret
  exact ⟨ret_bool (by rw [HR.out]), rfl⟩

set_option maxHeartbeats 1000000 in
set_option maxRecDepth 100000 in
theorem sameInts_same (v1 : Value) (a : List Int) (lo1 hi1 : Nat) (v2 : Value) (b : List Int) (lo2 hi2 : Nat) (w : World) (h1 : IntS w lo1 hi1 v1 a) (hh1 : hi1 ≤ w.heap.size) (h2 : IntS w lo2 hi2 v2 b) (hh2 : hi2 ≤ w.heap.size) (hab : a = b) :
    Calls Try.prog 10 #[v1, v2] w fun e w' => e = .returned (.bool true) ∧ Below w.heap.size w w' := by
  have HAB := Lib.hid hab; clear hab
  have F1 := Lib.hid h1
  obtain ⟨A1, c1, rfl, hc1, hd1⟩ := h1.dims
  clear h1
  have F2 := Lib.hid h2
  obtain ⟨A2, c2, rfl, hc2, hd2⟩ := h2.dims
  clear h2
  go_enter Try.func10, Try.ntmps10
  obtain ⟨n, HN⟩ : ∃ m, Hid (b.length = m) := ⟨_, Lib.hid rfl⟩
  have HNA := Lib.hid (show a.length = n by rw [HAB.out]; exact HN.out)
  rw [HNA.out] at hc1
  rw [HN.out] at hc2
  rw [HNA.out, HN.out]
  go_wp2_with fail
  go_loopw [13] (fun iv wr => ∃ (i : Nat), i ≤ n ∧ iv = .int .i64 i ∧ Hid (Turned w.heap.size w.heap.size w wr)) (fun iv _ => n - (intOf iv).toNat)
  case atStart => exact ⟨0, Nat.zero_le _, rfl, Lib.hid (Turned.refl w.heap.size w.heap.size w)⟩
  case round =>
    obtain ⟨i, hi, rfl, HF1⟩ := hrel
    have hs1 := HF1.out.size
    by_cases hlt : i < n
    case neg =>
      obtain rfl : i = n := by omega
      go_wp2_with fail
      go_ret
      exact ⟨rfl, (HF1.out.below_of (Below.refl _ _) (by omega) (by omega))⟩
    have hii : (i : Int) < n := by omega
    have hA := Lib.hid (IntS.turned F1.out HF1.out (by omega) (by omega))
    have hB := Lib.hid (IntS.turned F2.out HF1.out (by omega) (by omega))
    obtain ⟨b1, o1, rfl, _, _, xa, _⟩ := IntS.opened hA.out (j := i) (by rw [HNA.out]; exact hlt)
    obtain ⟨b2, o2, rfl, _, _, xb, _⟩ := IntS.opened hB.out (j := i) (by rw [HN.out]; exact hlt)
    rw [HAB.out] at xa
    obtain ⟨y, HY⟩ : ∃ y, Hid (nth b i = y) := ⟨_, Lib.hid rfl⟩
    rw [HY.out] at xa xb
    have hyy : (y != y) = false := by simp
    go_wp2_with fail
    go_quiet (fail)
    go_wp2_with fail
    go_roundw
    case rel => exact ⟨i + 1, by omega, by go_num, Lib.hid (HF1.out.still (grown_drewN _ _))⟩
    case measure => simp [intOf]; omega

end Go.Proofs.Ytbfjhehhpgcelaa
