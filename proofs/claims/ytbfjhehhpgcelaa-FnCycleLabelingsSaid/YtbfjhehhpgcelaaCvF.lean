/-
  Several texts in one: CyQ, CyR. No condition on any program.
-/
import Derived.Test.YtbfjhehhpgcelaaCvE
import Derived.Test.YtbfjhehhpgcelaaCvB

/- Contract: the drawn walk problem (reference). -/
namespace Go.Proofs.Ytbfjhehhpgcelaa
open Go.ChangeShapes Go.WideShapes Go.ChangeAt Go.RowKit
set_option linter.unusedVariables false

theorem results_cell1Y {fn : Func} {t : Tmp} {ty : TypeId} (h : fn.results = #[.cell t ty]) (tmps : Array Value) (P : Program) (w : World) {p : Addr} {v : Value} (ha : tmps.getD t undef = .pointer (some p)) (hl : (loadVar ty p).run P w = .ok v w) :
    (results fn tmps).run P w = .ok v w := by
  have ha' : tmps[t]?.getD undef = .pointer (some p) := by simpa using ha
  simp [results, h, ha', asAddr, hl]
theorem turned_grown {g : Nat} {w w' : World} (h : Turned g (g + 1) w w') : w.grownBy w' (some g) := ⟨h.os, h.tape, h.output, h.size, fun k hk hne => h.block k hk (by
  by_cases e : k = g
  · exact absurd (by rw [e]) hne
  · omega)⟩
theorem small2 {a b : Int} (h1 : -100 ≤ a ∧ a ≤ 100) (h2 : -100 ≤ b ∧ b ≤ 100) : Small2 [a, b] := ⟨rfl, fun z hz => by
  simp only [List.mem_cons, List.not_mem_nil, or_false] at hz
  rcases hz with rfl | rfl
  · exact h1
  · exact h2⟩

set_option maxHeartbeats 8000000 in
set_option maxRecDepth 100000 in
theorem walk_any (g : Nat) (w : World)  (k lo hi : Nat) (v : Value) (bs : List Int) (hC : Cur w g v k) (hk : k < 1000000000) (hB : ByS w lo hi v bs) (hb : Bytes bs) (hl : bs.length ≤ 1048576) (hg : g < lo ∨ hi ≤ g) (hh : hi ≤ w.heap.size) :
    Calls Try.prog 43 #[.pointer (some ⟨g, 0, none⟩)] w fun e w' => ∃ (L : Int) (r : Value) (P : List (List Int)), e = .returned (.agg #[.int .i64 L, r]) ∧ 1 ≤ L ∧ L ≤ 9 ∧ P.length ≤ 60 ∧ Small P ∧ OwnR w' w.heap.size 29 r P ∧ Cur w' g v (k + 200) ∧ w.grownBy w' (some g) := by
  have hgw := hC.lt
  have HC := Lib.hid hC; clear hC
  have HBB := Lib.hid hB; clear hB
  have HBY := Lib.hid hb; clear hb
  go_enter Try.func43, Try.ntmps43
  go_upto_region 1 with (fail)
  refine nameC ?_
  intro W1 HW1
  have hg1 : w.grownBy W1 none := by rw [HW1.out]; exact grown_alloc _ _
  have hs1 := hg1.size
  have HF1 := Lib.hid ((Turned.refl g (g + 1) w).still hg1)
  have C1 := Lib.hid (Cur.still HC.out hg1); clear HC
  have HRB := Lib.hid (show BoxN W1 w.heap.size #[.int .i64 0, .slice none 0 0] 26 by rw [HW1.out]; exact BoxN.new _ _ _)
  have hzr : w.heap.size + 1 ≤ W1.heap.size := by rw [HW1.out]; simp
  clear HW1
  go_wp2_with fail
  refine (pick_any 5 g k lo hi _ bs _ C1.out (by omega) (ByS.turned HBB.out HF1.out (by omega) (by omega)) HBY.out (by omega) (by omega) (by omega)).mono ?_
  rintro e W2 ⟨x, rfl, _, hx, hC2, hg2⟩
  have hs2 := hg2.size
  have HF2 := Lib.hid (HF1.out.grown hg2 (fun b e => by cases e; omega)); clear HF1
  have RB2 := Lib.hid (BoxN.far HRB.out hg2 (fun b e => by cases e; omega)); clear HRB
  have HC2 := Lib.hid hC2; clear hC2 C1
  have hx5 : (x : Int) < 5 := hx (by decide)
  clear hx
  have hwx : IntKind.i64.wrap (1 + (x : Int)) = ((x + 1 : Nat) : Int) := by rw [IntWalk.i64_in _ (by omega)]; omega
  obtain ⟨L0, HL0⟩ : ∃ N, Hid (x + 1 = N) := ⟨_, Lib.hid rfl⟩
  rw [HL0.out] at hwx
  have hL1 : 1 ≤ L0 := by have := HL0.out; omega
  have hL5 : L0 ≤ 5 := by have := HL0.out; omega
  go_upto_region 2 with (fail)
  refine nameC ?_
  intro W3 HW3
  have hg3 : W2.grownBy W3 none := by rw [HW3.out]; exact grown_alloc _ _
  have hs3 := hg3.size
  have HF3 := Lib.hid (HF2.out.still hg3); clear HF2
  have C3 := Lib.hid (Cur.still HC2.out hg3); clear HC2
  have RB3 := Lib.hid (BoxN.still RB2.out hg3); clear RB2
  have HX := Lib.hid (show BoxN W3 W2.heap.size #[.int .i64 (L0 : Nat), .slice none 0 0] 26 by rw [HW3.out]; first | exact BoxN.new _ _ _ | exact ((BoxN.new _ _ _).set 0 _).set 1 _)
  have hzx : W2.heap.size + 1 ≤ W3.heap.size := by rw [HW3.out]; simp
  have HO := Lib.hid (OwnR.nil W3 (W2.heap.size + 1) 29)
  have HSM := Lib.hid Small.nil
  clear HW3
  go_wp2_with fail
  refine (pick_any 5 g (k + 2) lo hi _ bs _ C3.out (by omega) (ByS.turned HBB.out HF3.out (by omega) (by omega)) HBY.out (by omega) (by omega) (by omega)).mono ?_
  rintro e W4 ⟨y, rfl, _, hy, hC4, hg4⟩
  have hs4 := hg4.size
  have HF4 := Lib.hid (HF3.out.grown hg4 (fun b e => by cases e; omega)); clear HF3
  have RB4 := Lib.hid (BoxN.far RB3.out hg4 (fun b e => by cases e; omega)); clear RB3
  have X4 := Lib.hid (BoxN.far HX.out hg4 (fun b e => by cases e; omega)); clear HX
  have O4 := Lib.hid (OwnR.far HO.out hg4 (fun b e => by cases e; omega)); clear HO
  have HC4 := Lib.hid hC4; clear hC4 C3
  clear hy
  by_cases y0 : y = 0
  case pos =>
    subst y0
    go_wp2_with fail
    refine (pick_any 8 g (k + 2 + 2) lo hi _ bs _ HC4.out (by omega) (ByS.turned HBB.out HF4.out (by omega) (by omega)) HBY.out (by omega) (by omega) (by omega)).mono ?_
    rintro e W5 ⟨z, rfl, _, hz, hC5, hg5⟩
    have hs5 := hg5.size
    have HF5 := Lib.hid (HF4.out.grown hg5 (fun b e => by cases e; omega)); clear HF4
    have RB5 := Lib.hid (BoxN.far RB4.out hg5 (fun b e => by cases e; omega)); clear RB4
    have X5 := Lib.hid (BoxN.far X4.out hg5 (fun b e => by cases e; omega)); clear X4
    have O5 := Lib.hid (OwnR.far O4.out hg5 (fun b e => by cases e; omega)); clear O4
    have HC5 := Lib.hid hC5; clear hC5 HC4
    have kx6_0 : W5.cell? ⟨W2.heap.size, 0, none⟩ = some (.int .i64 (L0 : Nat)) := X5.out.cell 0 (by simp)
    have kx6_1 : W5.cell? ⟨W2.heap.size, 1, none⟩ = some (.slice none 0 0) := X5.out.cell 1 (by simp)
    have kxf6 := X5.out.frozen 0
    have hz8 : (z : Int) < 8 := hz (by decide)
    clear hz
    have hwz : IntKind.i64.wrap (2 + (z : Int)) = ((z + 2 : Nat) : Int) := by rw [IntWalk.i64_in _ (by omega)]; omega
    obtain ⟨LN, HLN⟩ : ∃ N, Hid (z + 2 = N) := ⟨_, Lib.hid rfl⟩
    rw [HLN.out] at hwz
    have hN1 : 1 < LN := by have := HLN.out; omega
    have hN9 : LN ≤ 9 := by have := HLN.out; omega
    go_upto_region 5 with (fail)
    clear hwz kx6_0 kx6_1 kxf6
    refine nameC ?_
    intro W7 HW7
    have hg7 : W5.grownBy W7 (some W2.heap.size) := by rw [HW7.out]; exact grown_set _ ⟨W2.heap.size, 0, none⟩ _
    have hs7 := hg7.size
    have HF7 := Lib.hid (HF5.out.grown hg7 (fun b e => by cases e; omega)); clear HF5
    have C7 := Lib.hid (Cur.far HC5.out hg7 (fun b e => by cases e; omega)); clear HC5
    have RB7 := Lib.hid (BoxN.far RB5.out hg7 (fun b e => by cases e; omega)); clear RB5
    have O7 := Lib.hid (OwnR.far O5.out hg7 (fun b e => by cases e; omega)); clear O5
    have HX7 := Lib.hid (show BoxN W7 W2.heap.size #[.int .i64 (LN : Nat), .slice none 0 0] 26 by rw [HW7.out]; exact X5.out.set 0 _)
    clear HW7 X5
    have kx8_0 : W7.cell? ⟨W2.heap.size, 0, none⟩ = some (.int .i64 (LN : Nat)) := HX7.out.cell 0 (by simp)
    have kx8_1 : W7.cell? ⟨W2.heap.size, 1, none⟩ = some (.slice none 0 0) := HX7.out.cell 1 (by simp)
    go_wp2_with fail
    clear kx8_0 kx8_1
    refine (pick_any (LN : Nat) g (k + 2 + 2 + 2) lo hi _ bs _ C7.out (by omega) (ByS.turned HBB.out HF7.out (by omega) (by omega)) HBY.out (by omega) (by omega) (by omega)).mono ?_
    rintro e W9 ⟨q, rfl, _, hq, hC9, hg9⟩
    have hs9 := hg9.size
    have HF9 := Lib.hid (HF7.out.grown hg9 (fun b e => by cases e; omega)); clear HF7
    have RB9 := Lib.hid (BoxN.far RB7.out hg9 (fun b e => by cases e; omega)); clear RB7
    have X9 := Lib.hid (BoxN.far HX7.out hg9 (fun b e => by cases e; omega)); clear HX7
    have O9 := Lib.hid (OwnR.far O7.out hg9 (fun b e => by cases e; omega)); clear O7
    have HC9 := Lib.hid hC9; clear hC9 C7
    have hqL : (q : Int) < LN := hq (by omega)
    clear hq
    have hwq : IntKind.i64.wrap (1 + (q : Int)) = ((q + 1 : Nat) : Int) := by rw [IntWalk.i64_in _ (by omega)]; omega
    go_wp2_with fail
    clear hwq
    go_loopw [5] (fun av wr => ∃ (a : Nat) (v9 : Value) (P : List (List Int)), a ≤ LN ∧ av = .int .i64 a ∧ Hid (BoxN wr W2.heap.size #[.int .i64 (LN : Nat), v9] 26) ∧ Hid (OwnR wr (W2.heap.size + 1) 29 v9 P) ∧ P.length ≤ a ∧ Hid (Small P) ∧ Hid (Cur wr g v (k + 2 + 2 + 2 + 2)) ∧ Hid (BoxN wr w.heap.size #[.int .i64 0, .slice none 0 0] 26) ∧ W2.heap.size + 1 ≤ wr.heap.size ∧ Hid (Turned g (g + 1) w wr)) (fun av _ => LN - (intOf av).toNat)
    case atStart => exact ⟨0, _, [], Nat.zero_le _, rfl, X9, O9, Nat.le_refl _, HSM, HC9, RB9, by omega, HF9⟩
    case round =>
      clear HF9
      obtain ⟨a, v9, P, ha, rfl, HX, HO, hpl, HSM, HC, HRB, hzw, HF10⟩ := hrel
      have hs10 := HF10.out.size
      obtain ⟨wq, rfl⟩ : ∃ wq : World, wq = wr := ⟨_, rfl⟩
      obtain ⟨Av, cv, rfl, hcv, hdv⟩ := HO.out.len
      unfold maxLen at hdv
      by_cases hlt : a < LN
      case pos =>
        have kx11_0 : wq.cell? ⟨W2.heap.size, 0, none⟩ = some (.int .i64 (LN : Nat)) := HX.out.cell 0 (by simp)
        have kx11_1 : wq.cell? ⟨W2.heap.size, 1, none⟩ = some ((.slice Av P.length cv)) := HX.out.cell 1 (by simp)
        have hai : (a : Int) < LN := by omega
        have hwa : IntKind.i64.wrap ((a : Int) + 1) = ((a + 1 : Nat) : Int) := by rw [IntWalk.i64_in _ (by omega)]; omega
        have htm := tmodN (a + 1) LN
        have hmL : (a + 1) % LN < LN := Nat.mod_lt _ (by omega)
        obtain ⟨a1, HA1⟩ : ∃ z, Hid (a + 1 = z) := ⟨_, Lib.hid rfl⟩
        rw [HA1.out] at hwa htm hmL
        obtain ⟨b, HBM⟩ : ∃ z, Hid (a1 % LN = z) := ⟨_, Lib.hid rfl⟩
        rw [HBM.out] at htm hmL
        have hLz : ¬ LN = 0 := by omega
        have hbi : (b : Int) < LN := by omega
        go_wp2_with fail
        clear kx11_0 kx11_1
        refine wp_region_U (fun w' => w'.cell? ⟨W2.heap.size, 0, none⟩ = some (.int .i64 (LN : Nat)) ∧ w'.cell? ⟨W2.heap.size, 1, none⟩ = some ((.slice Av P.length cv))) [11] (by kernel_rfl) ?_
        refine nameU ?_
        intro W12 HW12
        have hg12 : wq.grownBy W12 none := by rw [HW12.out]; exact grown_drew _
        clear HW12
        have hs12 := hg12.size
        have HF12 := Lib.hid (HF10.out.still hg12); clear HF10
        have X12 := Lib.hid (BoxN.still HX.out hg12); clear HX
        have O12 := Lib.hid (OwnR.still HO.out hg12); clear HO
        have C12 := Lib.hid (Cur.still HC.out hg12); clear HC
        have RB12 := Lib.hid (BoxN.still HRB.out hg12); clear HRB
        have hS13 : W12.cell? ⟨W2.heap.size, 0, none⟩ = some (.int .i64 (LN : Nat)) ∧ W12.cell? ⟨W2.heap.size, 1, none⟩ = some ((.slice Av P.length cv)) := ⟨X12.out.cell 0 (by simp), X12.out.cell 1 (by simp)⟩
        refine anyU_take (i := 0) (v := .pointer (some ⟨W2.heap.size, 1, none⟩)) rfl (by kernel_rfl) (by kernel_rfl) (by kernel_rfl) (fun _ _ _ h => h) ⟨by rfl, fun w' hS' => (by obtain ⟨s1, s2⟩ := hS'; go_simp)⟩ hS13 ?_
        simp only [List.getElem_toArray, List.getElem_cons_zero, Act.put, List.setIfInBounds_toArray, List.set_cons_zero, List.set_cons_succ]
        refine anyU_take (i := 1) (v := (.slice Av P.length cv)) rfl (by kernel_rfl) (by kernel_rfl) (by kernel_rfl) (fun _ _ _ h => h) ⟨by rfl, fun w' hS' => (by obtain ⟨s1, s2⟩ := hS'; go_simp)⟩ hS13 ?_
        simp only [List.getElem_toArray, List.getElem_cons_succ, List.getElem_cons_zero, Act.put, List.setIfInBounds_toArray, List.set_cons_zero, List.set_cons_succ]
        refine anyU_take (i := 2) (v := .int .i64 a) rfl (by kernel_rfl) (by kernel_rfl) (by kernel_rfl) (fun _ _ _ h => h) ⟨by rfl, fun w' hS' => (by obtain ⟨s1, s2⟩ := hS'; go_simp)⟩ hS13 ?_
        simp only [List.getElem_toArray, List.getElem_cons_succ, List.getElem_cons_zero, Act.put, List.setIfInBounds_toArray, List.set_cons_zero, List.set_cons_succ]
        refine anyU_take (i := 3) (v := .int .i64 a) rfl (by kernel_rfl) (by kernel_rfl) (by kernel_rfl) (fun _ _ _ h => h) ⟨by rfl, fun w' hS' => (by obtain ⟨s1, s2⟩ := hS'; go_simp)⟩ hS13 ?_
        simp only [List.getElem_toArray, List.getElem_cons_succ, List.getElem_cons_zero, Act.put, List.setIfInBounds_toArray, List.set_cons_zero, List.set_cons_succ]
        refine anyU_take (i := 4) (v := .int .i64 a1) rfl (by kernel_rfl) (by kernel_rfl) (by kernel_rfl) (fun _ _ _ h => h) ⟨by rfl, fun w' hS' => (by obtain ⟨s1, s2⟩ := hS'; simp [go_sem, hwa])⟩ hS13 ?_
        simp only [List.getElem_toArray, List.getElem_cons_succ, List.getElem_cons_zero, Act.put, List.setIfInBounds_toArray, List.set_cons_zero, List.set_cons_succ]
        refine anyU_take (i := 5) (v := .pointer (some ⟨W2.heap.size, 0, none⟩)) rfl (by kernel_rfl) (by kernel_rfl) (by kernel_rfl) (fun _ _ _ h => h) ⟨by rfl, fun w' hS' => (by obtain ⟨s1, s2⟩ := hS'; go_simp)⟩ hS13 ?_
        simp only [List.getElem_toArray, List.getElem_cons_succ, List.getElem_cons_zero, Act.put, List.setIfInBounds_toArray, List.set_cons_zero, List.set_cons_succ]
        refine anyU_take (i := 6) (v := .int .i64 (LN : Nat)) rfl (by kernel_rfl) (by kernel_rfl) (by kernel_rfl) (fun _ _ _ h => h) ⟨by rfl, fun w' hS' => (by obtain ⟨s1, s2⟩ := hS'; go_simp)⟩ hS13 ?_
        simp only [List.getElem_toArray, List.getElem_cons_succ, List.getElem_cons_zero, Act.put, List.setIfInBounds_toArray, List.set_cons_zero, List.set_cons_succ]
        refine anyU_take (i := 7) (v := .int .i64 b) rfl (by kernel_rfl) (by kernel_rfl) (by kernel_rfl) (fun _ _ _ h => h) ⟨by rfl, fun w' hS' => (by obtain ⟨s1, s2⟩ := hS'; simp [go_sem, hLz, htm])⟩ hS13 ?_
        simp only [List.getElem_toArray, List.getElem_cons_succ, List.getElem_cons_zero, Act.put, List.setIfInBounds_toArray, List.set_cons_zero, List.set_cons_succ]
        refine anyU_ready (rs := [8]) (by kernel_rfl) (by simp) ?_
        refine ReadyU.cons (i := 8) rfl (fun K hK => ?_) ReadyU.nil
        simp only [List.getElem_toArray, List.getElem_cons_succ, List.getElem_cons_zero]
        refine ite_is (by rfl) ?_
        simp [go_sem]
        refine hK.out _ _ ⟨fun _ => ⟨(X12.out.still (grown_alloc _ _)).cell 0 (by simp), (X12.out.still (grown_alloc _ _)).cell 1 (by simp)⟩, ?_⟩
        clear hK K hS13
        try simp only [List.getElem_toArray, List.getElem_cons_succ, List.getElem_cons_zero, Act.put, List.setIfInBounds_toArray, List.set_cons_zero, List.set_cons_succ]
        refine nameU ?_
        intro W14 HW14
        have hg14 : W12.grownBy W14 none := by rw [HW14.out]; exact grown_alloc _ _
        have hs14 := hg14.size
        have HF14 := Lib.hid (HF12.out.still hg14); clear HF12
        have X14 := Lib.hid (BoxN.still X12.out hg14); clear X12
        have O14 := Lib.hid (OwnR.still O12.out hg14); clear O12
        have C14 := Lib.hid (Cur.still C12.out hg14); clear C12
        have RB14 := Lib.hid (BoxN.still RB12.out hg14); clear RB12
        have NL14 := Lib.hid (show IntS W14 W12.heap.size (W12.heap.size + 1) (.slice (some ⟨W12.heap.size, 0, none⟩) 2 2) [(a : Int), (b : Int)] by rw [HW14.out]; exact IntS.newN W12 [(a : Int), (b : Int)] _ rfl (by simp))
        have hz14 : W12.heap.size + 1 ≤ W14.heap.size := by rw [HW14.out]; simp
        clear HW14
        have hS15 : W14.cell? ⟨W2.heap.size, 0, none⟩ = some (.int .i64 (LN : Nat)) ∧ W14.cell? ⟨W2.heap.size, 1, none⟩ = some ((.slice Av P.length cv)) := ⟨X14.out.cell 0 (by simp), X14.out.cell 1 (by simp)⟩
        refine anyU_ready (rs := [9]) (by kernel_rfl) (by simp) ?_
        refine ReadyU.cons (i := 9) rfl (fun K hK => ?_) ReadyU.nil
        simp only [List.getElem_toArray, List.getElem_cons_succ, List.getElem_cons_zero]
        refine ite_is (by rfl) ?_
        simp [go_sem]
        refine (prInsert_any (W2.heap.size + 1) _ P _ [(a : Int), (b : Int)] W12.heap.size (W12.heap.size + 1) _ O14.out NL14.out (by omega) (by omega) (by omega) (by omega) HSM.out (small2 (by omega) (by omega))).mono ?_
        rintro e W16 ⟨r16, M16, rfl, ho16, hl16, hm16, hb16⟩
        have hg16 := grown_below hb16; clear hb16
        have hs16 := hg16.size
        have HF16 := Lib.hid (HF14.out.still hg16); clear HF14
        have X16 := Lib.hid (BoxN.still X14.out hg16); clear X14
        have C16 := Lib.hid (Cur.still C14.out hg16); clear C14
        have RB16 := Lib.hid (BoxN.still RB14.out hg16); clear RB14
        have HO16 := Lib.hid ho16; clear ho16 HSM NL14 O14
        have HSM := Lib.hid hm16; clear hm16
        obtain ⟨A16, c16, rfl, hc16, hd16⟩ := HO16.out.len
        unfold maxLen at hd16
        have hS17 : W16.cell? ⟨W2.heap.size, 0, none⟩ = some (.int .i64 (LN : Nat)) ∧ W16.cell? ⟨W2.heap.size, 1, none⟩ = some ((.slice Av P.length cv)) := ⟨X16.out.cell 0 (by simp), X16.out.cell 1 (by simp)⟩
        refine hK.out _ _ ⟨fun _ => hS17, ?_⟩
        clear hK K hS15
        try simp only [List.getElem_toArray, List.getElem_cons_succ, List.getElem_cons_zero, Act.put, List.setIfInBounds_toArray, List.set_cons_zero, List.set_cons_succ]
        refine anyU_take (i := 10) (v := .pointer (some ⟨W2.heap.size, 1, none⟩)) rfl (by kernel_rfl) (by kernel_rfl) (by kernel_rfl) (fun _ _ _ h => h) ⟨by rfl, fun w' hS' => (by obtain ⟨s1, s2⟩ := hS'; go_simp)⟩ hS17 ?_
        simp only [List.getElem_toArray, List.getElem_cons_succ, List.getElem_cons_zero, Act.put, List.setIfInBounds_toArray, List.set_cons_zero, List.set_cons_succ]
        have kxs := X16.out.cell 1 (by simp)
        have kxf := X16.out.frozen 1
        refine anyU_ready (rs := [11]) (by kernel_rfl) (by simp) ?_
        refine ReadyU.cons (i := 11) rfl (fun K hK => ?_) ReadyU.nil
        simp only [List.getElem_toArray, List.getElem_cons_succ, List.getElem_cons_zero]
        refine ite_is (by rfl) ?_
        simp [go_sem, kxs, kxf]
        refine hK.out _ _ ⟨fun h => absurd h (by decide), ?_⟩
        clear hK K
        try simp only [List.getElem_toArray, List.getElem_cons_succ, List.getElem_cons_zero, Act.put, List.setIfInBounds_toArray, List.set_cons_zero, List.set_cons_succ]
        refine nameU ?_
        intro W18 HW18
        have hg18 : W16.grownBy W18 ((some W2.heap.size)) := by rw [HW18.out]; exact grown_set _ _ _
        have hs18 := hg18.size
        have HF18 := Lib.hid (HF16.out.grown hg18 (fun b e => by cases e; omega)); clear HF16
        have O18 := Lib.hid (OwnR.far HO16.out hg18 (fun b e => by cases e; omega)); clear HO16
        have C18 := Lib.hid (Cur.far C16.out hg18 (fun b e => by cases e; omega)); clear C16
        have RB18 := Lib.hid (BoxN.far RB16.out hg18 (fun b e => by cases e; omega)); clear RB16
        have HX18 := Lib.hid (show BoxN W18 W2.heap.size #[.int .i64 (LN : Nat), (.slice A16 M16.length c16)] 26 by rw [HW18.out]; exact X16.out.set 1 _)
        clear HW18 X16 kxs kxf
        clear hS17
        refine anyU_done (by kernel_rfl) ?_ _
        go_wp2_with fail
        go_roundw
        case rel => exact ⟨a + 1, _, M16, by omega, by have := HA1.out; go_num, HX18, O18, by omega, HSM, C18, RB18, by omega, HF18⟩
        case measure => have := HA1.out; simp [intOf]; omega
      obtain rfl : LN = a := by omega
      have hai : ¬ (LN : Int) < LN := by omega
      have kx19_0 : wq.cell? ⟨W2.heap.size, 0, none⟩ = some (.int .i64 (LN : Nat)) := HX.out.cell 0 (by simp)
      have kx19_1 : wq.cell? ⟨W2.heap.size, 1, none⟩ = some ((.slice Av P.length cv)) := HX.out.cell 1 (by simp)
      have kxf19 := HX.out.frozen 1
      have hwq2 : IntKind.i64.wrap (1 + (q : Int)) = ((q + 1 : Nat) : Int) := by rw [IntWalk.i64_in _ (by omega)]; omega
      have hwq3 : IntKind.i64.wrap (((q + 1 : Nat) : Int) - 1) = (q : Int) := by rw [IntWalk.i64_in _ (by omega)]; omega
      go_wp2_with fail
      skip
      refine nameK ?_
      intro W20 HW20
      have hg20 : wq.grownBy W20 none := by rw [HW20.out]; exact grown_alloc _ _
      have hs20 := hg20.size
      have HF20 := Lib.hid (HF10.out.still hg20); clear HF10
      have X20 := Lib.hid (BoxN.still HX.out hg20); clear HX
      have O20 := Lib.hid (OwnR.still HO.out hg20); clear HO
      have C20 := Lib.hid (Cur.still HC.out hg20); clear HC
      have RB20 := Lib.hid (BoxN.still HRB.out hg20); clear HRB
      have NL20 := Lib.hid (show IntS W20 wq.heap.size (wq.heap.size + 1) (.slice (some ⟨wq.heap.size, 0, none⟩) 2 2) [(q : Int), 0] by rw [HW20.out]; exact IntS.newN wq [(q : Int), 0] _ rfl (by simp))
      have hz20 : wq.heap.size + 1 ≤ W20.heap.size := by rw [HW20.out]; simp
      clear HW20
      refine (prInsert_any (W2.heap.size + 1) _ P _ [(q : Int), 0] wq.heap.size (wq.heap.size + 1) _ O20.out NL20.out (by omega) (by omega) (by omega) (by omega) HSM.out (small2 (by omega) (by omega))).mono ?_
      rintro e W21 ⟨r21, M21, rfl, ho21, hl21, hm21, hb21⟩
      have hg21 := grown_below hb21; clear hb21
      have hs21 := hg21.size
      have HF21 := Lib.hid (HF20.out.still hg21); clear HF20
      have X21 := Lib.hid (BoxN.still X20.out hg21); clear X20
      have C21 := Lib.hid (Cur.still C20.out hg21); clear C20
      have RB21 := Lib.hid (BoxN.still RB20.out hg21); clear RB20
      have HO21 := Lib.hid ho21; clear ho21 HSM NL20 O20
      have HSM := Lib.hid hm21; clear hm21
      obtain ⟨A21, c21, rfl, hc21, hd21⟩ := HO21.out.len
      unfold maxLen at hd21
      clear kx19_0 kx19_1 kxf19
      have kx22_0 : W21.cell? ⟨W2.heap.size, 0, none⟩ = some (.int .i64 (LN : Nat)) := X21.out.cell 0 (by simp)
      have kx22_1 : W21.cell? ⟨W2.heap.size, 1, none⟩ = some ((.slice Av P.length cv)) := X21.out.cell 1 (by simp)
      have kxf22 := X21.out.frozen 1
      go_upto_region 11 with (fail)
      clear kx22_0 kx22_1 kxf22
      refine nameC ?_
      intro W23 HW23
      have hg23 : W21.grownBy W23 (some W2.heap.size) := by rw [HW23.out]; exact grown_set _ ⟨W2.heap.size, 1, none⟩ _
      have hs23 := hg23.size
      have HF23 := Lib.hid (HF21.out.grown hg23 (fun b e => by cases e; omega)); clear HF21
      have O23 := Lib.hid (OwnR.far HO21.out hg23 (fun b e => by cases e; omega)); clear HO21
      have C23 := Lib.hid (Cur.far C21.out hg23 (fun b e => by cases e; omega)); clear C21
      have RB23 := Lib.hid (BoxN.far RB21.out hg23 (fun b e => by cases e; omega)); clear RB21
      have HX23 := Lib.hid (show BoxN W23 W2.heap.size #[.int .i64 (LN : Nat), (.slice A21 M21.length c21)] 26 by rw [HW23.out]; exact X21.out.set 1 _)
      clear HW23 X21
      have kx24_0 : W23.cell? ⟨W2.heap.size, 0, none⟩ = some (.int .i64 (LN : Nat)) := HX23.out.cell 0 (by simp)
      have kx24_1 : W23.cell? ⟨W2.heap.size, 1, none⟩ = some ((.slice A21 M21.length c21)) := HX23.out.cell 1 (by simp)
      have kr0 : W23.cell? ⟨w.heap.size, 0, none⟩ = some (.int .i64 0) := RB23.out.cell 0 (by simp)
      have kr1 : W23.cell? ⟨w.heap.size, 1, none⟩ = some (.slice none 0 0) := RB23.out.cell 1 (by simp)
      have kf0 := RB23.out.frozen 0
      have kf1 := RB23.out.frozen 1
      go_wp2_with fail
      ((try simp only [Exit.inBlock, Exit.then]); refine bodyPost_ret (results_cell1Y rfl _ _ _ rfl (load_wp ((RB23.out.set 0 (.int .i64 (LN : Nat))).set 1 (.slice A21 M21.length c21)))) rfl ?_)
      have hg9 : W23.grownBy ((W23.setCell ⟨w.heap.size, 0, none⟩ (.int .i64 (LN : Nat))).setCell ⟨w.heap.size, 1, none⟩ (.slice A21 M21.length c21)) (some w.heap.size) := grownBy_setCell (p := ⟨w.heap.size, 1, none⟩) (grownBy_setCell (p := ⟨w.heap.size, 0, none⟩) (World.grownBy.refl _ _) rfl _) rfl _
      first | exact ⟨_, _, M21, rfl, by omega, by omega, by omega, HSM.out, OwnR.lower (OwnR.far O23.out hg9 (fun b e => by cases e; omega)) (by omega), Cur.mono (Cur.far C23.out hg9 (fun b e => by cases e; omega)) (by omega), turned_grown (HF23.out.grown hg9 fun b e => .inr (by cases e; exact Nat.le_refl _))⟩ | exact ⟨_, _, rfl, by omega, by omega, M21, by omega, HSM.out, OwnR.lower (OwnR.far O23.out hg9 (fun b e => by cases e; omega)) (by omega), Cur.mono (Cur.far C23.out hg9 (fun b e => by cases e; omega)) (by omega), turned_grown (HF23.out.grown hg9 fun b e => .inr (by cases e; exact Nat.le_refl _))⟩ | exact ⟨_, _, rfl, M21, by omega, by omega, by omega, HSM.out, OwnR.lower (OwnR.far O23.out hg9 (fun b e => by cases e; omega)) (by omega), Cur.mono (Cur.far C23.out hg9 (fun b e => by cases e; omega)) (by omega), turned_grown (HF23.out.grown hg9 fun b e => .inr (by cases e; exact Nat.le_refl _))⟩
  have y0i : ¬ (y : Int) = 0 := by omega
  have y0e : ((y : Int) == 0) = false := by simp; omega
  by_cases y1 : y = 1
  case pos =>
    subst y1
    go_wp2_with fail
    go_loopw [6] (fun av wr => ∃ (a : Nat) (v9 : Value) (P : List (List Int)), a ≤ L0 ∧ av = .int .i64 a ∧ Hid (BoxN wr W2.heap.size #[.int .i64 (L0 : Nat), v9] 26) ∧ Hid (OwnR wr (W2.heap.size + 1) 29 v9 P) ∧ P.length ≤ 5 * a ∧ Hid (Small P) ∧ Hid (Cur wr g v (k + 2 + 2)) ∧ Hid (BoxN wr w.heap.size #[.int .i64 0, .slice none 0 0] 26) ∧ W2.heap.size + 1 ≤ wr.heap.size ∧ Hid (Turned g (g + 1) w wr)) (fun av _ => L0 - (intOf av).toNat)
    case atStart => exact ⟨0, _, [], Nat.zero_le _, rfl, X4, O4, Nat.le_refl _, HSM, HC4, RB4, by omega, HF4⟩
    case round =>
      clear HF4
      obtain ⟨a, v9, P, ha, rfl, HX, HO, hpl, HSM, HC, HRB, hzw, HF25⟩ := hrel
      have hs25 := HF25.out.size
      obtain ⟨wq, rfl⟩ : ∃ wq : World, wq = wr := ⟨_, rfl⟩
      obtain ⟨Av, cv, rfl, hcv, hdv⟩ := HO.out.len
      unfold maxLen at hdv
      by_cases hlt : a < L0
      case pos =>
        have kx26_0 : wq.cell? ⟨W2.heap.size, 0, none⟩ = some (.int .i64 (L0 : Nat)) := HX.out.cell 0 (by simp)
        have kx26_1 : wq.cell? ⟨W2.heap.size, 1, none⟩ = some ((.slice Av P.length cv)) := HX.out.cell 1 (by simp)
        have hai : (a : Int) < L0 := by omega
        go_wp2_with fail
        clear kx26_0 kx26_1
        go_loopw [7] (fun bv wr => ∃ (b : Nat) (v9 : Value) (P : List (List Int)), b ≤ L0 ∧ bv = .int .i64 b ∧ Hid (BoxN wr W2.heap.size #[.int .i64 (L0 : Nat), v9] 26) ∧ Hid (OwnR wr (W2.heap.size + 1) 29 v9 P) ∧ P.length ≤ 5 * a + b ∧ Hid (Small P) ∧ Hid (Cur wr g v (k + 2 + 2)) ∧ Hid (BoxN wr w.heap.size #[.int .i64 0, .slice none 0 0] 26) ∧ W2.heap.size + 1 ≤ wr.heap.size ∧ Hid (Turned g (g + 1) w wr)) (fun bv _ => L0 - (intOf bv).toNat)
        case atStart => exact ⟨0, _, P, Nat.zero_le _, rfl, HX, HO, by omega, HSM, HC, HRB, by omega, HF25⟩
        case round =>
          clear HF25
          obtain ⟨b, v9, P, hb, rfl, HX, HO, hpl, HSM, HC, HRB, hzw, HF27⟩ := hrel
          have hs27 := HF27.out.size
          obtain ⟨wi, rfl⟩ : ∃ wi : World, wi = wr := ⟨_, rfl⟩
          obtain ⟨Av, cv, rfl, hcv, hdv⟩ := HO.out.len
          unfold maxLen at hdv
          by_cases hbt : b < L0
          case pos =>
            have kx28_0 : wi.cell? ⟨W2.heap.size, 0, none⟩ = some (.int .i64 (L0 : Nat)) := HX.out.cell 0 (by simp)
            have kx28_1 : wi.cell? ⟨W2.heap.size, 1, none⟩ = some ((.slice Av P.length cv)) := HX.out.cell 1 (by simp)
            have kxf28 := HX.out.frozen 1
            have hbi : (b : Int) < L0 := by omega
            by_cases hab : a = b
            case pos =>
              have habe : ((a : Int) == (b : Int)) = true := by simp; omega
              have habi : (a : Int) = (b : Int) := by omega
              have habn : ((a : Int) != (b : Int)) = false := by simp; omega
              have HAB := Lib.hid hab; clear hab
              go_wp2_with fail
              go_roundw
              case rel => exact ⟨b + 1, _, P, by omega, by go_num, HX, HO, by omega, HSM, HC, HRB, hzw, HF27⟩
              case measure => simp [intOf]; omega
            have habe : ((a : Int) == (b : Int)) = false := by simp; omega
            have habi : ¬ (a : Int) = (b : Int) := by omega
            have habn : ((a : Int) != (b : Int)) = true := by simp; omega
            have HAB := Lib.hid hab; clear hab
            have HLV := Lib.hid HO.out.lt
            have hlv := HO.out.lt
            have HN := Lib.hid (IntS.newN wi [(a : Int), (b : Int)] 3 rfl (by simp))
            have HGA := Lib.hid (grown_alloc wi (.cells #[.int .i64 a, .int .i64 b] 3))
            have HXA := Lib.hid (HX.out.still HGA.out)
            have kg1 : (wi.alloc (.cells #[.int .i64 a, .int .i64 b] 3)).cell? ⟨W2.heap.size, 1, none⟩ = some (.slice Av P.length cv) := HXA.out.cell 1 (by simp)
            have HOA := Lib.hid (HO.out.still HGA.out)
            go_wp2_with (at_builtin; refine append_r (s := .tmp 71) Try.underlying24 infoRowM (by decide) (wi.alloc (.cells #[.int .i64 a, .int .i64 b] 3)) rfl _ rfl HOA.out HN.out (by omega) (by simp) (Nat.le_trans hzw HGA.out.size) (fun g hg => .inl (hlv g hg).2) _ rfl (by simp [Act.eval, go_sem]) (by omega) ?_; intro v2 w7 ho7 hg7 hat7; obtain ⟨A7, c7, hq7, _⟩ := ho7.len; simp only [List.length_append, List.length_cons, List.length_nil, Nat.zero_add] at hq7; subst hq7; have HO7 := Lib.hid ho7; have HG7 := Lib.hid hg7; have HX7 := Lib.hid (BoxN.far HXA.out hg7 (fun g e => by have := HLV.out g e; omega)); have kq7 : w7.cell? ⟨W2.heap.size, 1, none⟩ = some (.slice Av P.length cv) := HX7.out.cell 1 (by simp); have kfq7 := HX7.out.frozen 1; clear ho7 hg7 hat7)
            have hgs7 := HG7.out.size
            have hga := HGA.out.size
            have HGS := Lib.hid (show w7.grownBy (w7.setCell ⟨W2.heap.size, 1, none⟩ (.slice A7 (P.length + 1) c7)) (some (W2.heap.size)) from grown_set w7 ⟨W2.heap.size, 1, none⟩ (.slice A7 (P.length + 1) c7))
            go_roundw
            case rel =>
              refine ⟨b + 1, .slice A7 (P.length + 1) c7, P ++ [[(a : Int), (b : Int)]], by omega, by go_num, Lib.hid (HX7.out.set 1 _), Lib.hid (HO7.out.far HGS.out (fun b e => by cases e; omega)), by simp; omega, Lib.hid (HSM.out.app (Small.one (small2 (by omega) (by omega)))), Lib.hid ?_, Lib.hid ?_, by rw [size_setCell]; omega, Lib.hid ?_⟩
              · exact ((HC.out.still HGA.out).far HG7.out (fun q e => by have := HLV.out q e; omega)).far HGS.out (fun b e => by cases e; omega)
              · exact ((HRB.out.still HGA.out).far HG7.out (fun q e => by have := HLV.out q e; omega)).far HGS.out (fun b e => by cases e; omega)
              · exact ((HF27.out.still HGA.out).grown HG7.out fun q e => .inr (by have := HLV.out q e; omega)).grown HGS.out fun q e => .inr (by cases e; show w.heap.size ≤ W2.heap.size; omega)
            case measure => simp [intOf]; omega
          have kx29_0 : wi.cell? ⟨W2.heap.size, 0, none⟩ = some (.int .i64 (L0 : Nat)) := HX.out.cell 0 (by simp)
          have kx29_1 : wi.cell? ⟨W2.heap.size, 1, none⟩ = some ((.slice Av P.length cv)) := HX.out.cell 1 (by simp)
          obtain rfl : b = L0 := by omega
          have hbi : ¬ (b : Int) < b := by omega
          go_wp2_with fail
          go_roundw
          case rel => exact ⟨a + 1, _, P, by omega, by go_num, HX, HO, by omega, HSM, HC, HRB, hzw, HF27⟩
          case measure => simp [intOf]; omega
      obtain rfl : L0 = a := by omega
      have hai : ¬ (L0 : Int) < L0 := by omega
      have kx30_0 : wq.cell? ⟨W2.heap.size, 0, none⟩ = some (.int .i64 (L0 : Nat)) := HX.out.cell 0 (by simp)
      have kx30_1 : wq.cell? ⟨W2.heap.size, 1, none⟩ = some ((.slice Av P.length cv)) := HX.out.cell 1 (by simp)
      have kr0 : wq.cell? ⟨w.heap.size, 0, none⟩ = some (.int .i64 0) := HRB.out.cell 0 (by simp)
      have kr1 : wq.cell? ⟨w.heap.size, 1, none⟩ = some (.slice none 0 0) := HRB.out.cell 1 (by simp)
      have kf0 := HRB.out.frozen 0
      have kf1 := HRB.out.frozen 1
      go_wp2_with fail
      ((try simp only [Exit.inBlock, Exit.then]); refine bodyPost_ret (results_cell1Y rfl _ _ _ rfl (load_wp ((HRB.out.set 0 (.int .i64 (L0 : Nat))).set 1 (.slice Av P.length cv)))) rfl ?_)
      have hg9 : wq.grownBy ((wq.setCell ⟨w.heap.size, 0, none⟩ (.int .i64 (L0 : Nat))).setCell ⟨w.heap.size, 1, none⟩ (.slice Av P.length cv)) (some w.heap.size) := grownBy_setCell (p := ⟨w.heap.size, 1, none⟩) (grownBy_setCell (p := ⟨w.heap.size, 0, none⟩) (World.grownBy.refl _ _) rfl _) rfl _
      first | exact ⟨_, _, P, rfl, by omega, by omega, by omega, HSM.out, OwnR.lower (OwnR.far HO.out hg9 (fun b e => by cases e; omega)) (by omega), Cur.mono (Cur.far HC.out hg9 (fun b e => by cases e; omega)) (by omega), turned_grown (HF25.out.grown hg9 fun b e => .inr (by cases e; exact Nat.le_refl _))⟩ | exact ⟨_, _, rfl, by omega, by omega, P, by omega, HSM.out, OwnR.lower (OwnR.far HO.out hg9 (fun b e => by cases e; omega)) (by omega), Cur.mono (Cur.far HC.out hg9 (fun b e => by cases e; omega)) (by omega), turned_grown (HF25.out.grown hg9 fun b e => .inr (by cases e; exact Nat.le_refl _))⟩ | exact ⟨_, _, rfl, P, by omega, by omega, by omega, HSM.out, OwnR.lower (OwnR.far HO.out hg9 (fun b e => by cases e; omega)) (by omega), Cur.mono (Cur.far HC.out hg9 (fun b e => by cases e; omega)) (by omega), turned_grown (HF25.out.grown hg9 fun b e => .inr (by cases e; exact Nat.le_refl _))⟩
  have y0i : ¬ (y : Int) = 0 := by omega
  have y0e : ((y : Int) == 0) = false := by simp; omega
  have y1i : ¬ (y : Int) = 1 := by omega
  have y1e : ((y : Int) == 1) = false := by simp; omega
  have kx31_0 : W4.cell? ⟨W2.heap.size, 0, none⟩ = some (.int .i64 (L0 : Nat)) := X4.out.cell 0 (by simp)
  have kx31_1 : W4.cell? ⟨W2.heap.size, 1, none⟩ = some (.slice none 0 0) := X4.out.cell 1 (by simp)
  have hw2 : IntKind.i64.wrap (2 * (L0 : Int)) = ((2 * L0 : Nat) : Int) := by rw [IntWalk.i64_in _ (by omega)]; omega
  obtain ⟨D, HD⟩ : ∃ z, Hid (2 * L0 = z) := ⟨_, Lib.hid rfl⟩
  rw [HD.out] at hw2
  have hw3 : IntKind.i64.wrap ((D : Int) + 2) = ((D + 2 : Nat) : Int) := by rw [IntWalk.i64_in _ (by have := HD.out; omega)]; omega
  obtain ⟨D2, HD2⟩ : ∃ z, Hid (D + 2 = z) := ⟨_, Lib.hid rfl⟩
  rw [HD2.out] at hw3
  have hD12 : D2 ≤ 12 := by have := HD.out; have := HD2.out; omega
  have hD1 : 1 < D2 := by have := HD2.out; omega
  go_wp2_with fail
  clear hw2 hw3 kx31_0 kx31_1
  refine (pick_any (D2 : Nat) g (k + 2 + 2) lo hi _ bs _ HC4.out (by omega) (ByS.turned HBB.out HF4.out (by omega) (by omega)) HBY.out (by omega) (by omega) (by omega)).mono ?_
  rintro e W32 ⟨m, rfl, _, hm, hC32, hg32⟩
  have hs32 := hg32.size
  have HF32 := Lib.hid (HF4.out.grown hg32 (fun b e => by cases e; omega)); clear HF4
  have RB32 := Lib.hid (BoxN.far RB4.out hg32 (fun b e => by cases e; omega)); clear RB4
  have X32 := Lib.hid (BoxN.far X4.out hg32 (fun b e => by cases e; omega)); clear X4
  have O32 := Lib.hid (OwnR.far O4.out hg32 (fun b e => by cases e; omega)); clear O4
  have HC32 := Lib.hid hC32; clear hC32 HC4
  have hm12 : (m : Int) < D2 := hm (by omega)
  clear hm
  go_wp2_with fail
  go_loopw [8] (fun jv wr => ∃ (j : Nat) (v9 : Value) (P : List (List Int)), j ≤ 12 ∧ jv = .int .i64 j ∧ Hid (BoxN wr W2.heap.size #[.int .i64 (L0 : Nat), v9] 26) ∧ Hid (OwnR wr (W2.heap.size + 1) 29 v9 P) ∧ P.length + j ≤ 12 ∧ Hid (Small P) ∧ Hid (Cur wr g v (k + 6 + 6 * (12 - j))) ∧ Hid (BoxN wr w.heap.size #[.int .i64 0, .slice none 0 0] 26) ∧ W2.heap.size + 1 ≤ wr.heap.size ∧ Hid (Turned g (g + 1) w wr)) (fun jv _ => (intOf jv).toNat)
  case atStart => exact ⟨m, _, [], by omega, rfl, X32, O32, by simp; omega, HSM, Lib.hid (HC32.out.mono (by omega)), RB32, by omega, HF32⟩
  case round =>
    clear HF32
    obtain ⟨j, v9, P, hj, rfl, HX, HO, hpl, HSM, HC, HRB, hzw, HF33⟩ := hrel
    have hs33 := HF33.out.size
    obtain ⟨wq, rfl⟩ : ∃ wq : World, wq = wr := ⟨_, rfl⟩
    obtain ⟨Av, cv, rfl, hcv, hdv⟩ := HO.out.len
    unfold maxLen at hdv
    by_cases hj0 : 0 < j
    case neg =>
      obtain rfl : j = 0 := by omega
      have kx34_0 : wq.cell? ⟨W2.heap.size, 0, none⟩ = some (.int .i64 (L0 : Nat)) := HX.out.cell 0 (by simp)
      have kx34_1 : wq.cell? ⟨W2.heap.size, 1, none⟩ = some ((.slice Av P.length cv)) := HX.out.cell 1 (by simp)
      have kr0 : wq.cell? ⟨w.heap.size, 0, none⟩ = some (.int .i64 0) := HRB.out.cell 0 (by simp)
      have kr1 : wq.cell? ⟨w.heap.size, 1, none⟩ = some (.slice none 0 0) := HRB.out.cell 1 (by simp)
      have kf0 := HRB.out.frozen 0
      have kf1 := HRB.out.frozen 1
      go_wp2_with fail
      ((try simp only [Exit.inBlock, Exit.then]); refine bodyPost_ret (results_cell1Y rfl _ _ _ rfl (load_wp ((HRB.out.set 0 (.int .i64 (L0 : Nat))).set 1 (.slice Av P.length cv)))) rfl ?_)
      have hg9 : wq.grownBy ((wq.setCell ⟨w.heap.size, 0, none⟩ (.int .i64 (L0 : Nat))).setCell ⟨w.heap.size, 1, none⟩ (.slice Av P.length cv)) (some w.heap.size) := grownBy_setCell (p := ⟨w.heap.size, 1, none⟩) (grownBy_setCell (p := ⟨w.heap.size, 0, none⟩) (World.grownBy.refl _ _) rfl _) rfl _
      first | exact ⟨_, _, P, rfl, by omega, by omega, by omega, HSM.out, OwnR.lower (OwnR.far HO.out hg9 (fun b e => by cases e; omega)) (by omega), Cur.mono (Cur.far HC.out hg9 (fun b e => by cases e; omega)) (by omega), turned_grown (HF33.out.grown hg9 fun b e => .inr (by cases e; exact Nat.le_refl _))⟩ | exact ⟨_, _, rfl, by omega, by omega, P, by omega, HSM.out, OwnR.lower (OwnR.far HO.out hg9 (fun b e => by cases e; omega)) (by omega), Cur.mono (Cur.far HC.out hg9 (fun b e => by cases e; omega)) (by omega), turned_grown (HF33.out.grown hg9 fun b e => .inr (by cases e; exact Nat.le_refl _))⟩ | exact ⟨_, _, rfl, P, by omega, by omega, by omega, HSM.out, OwnR.lower (OwnR.far HO.out hg9 (fun b e => by cases e; omega)) (by omega), Cur.mono (Cur.far HC.out hg9 (fun b e => by cases e; omega)) (by omega), turned_grown (HF33.out.grown hg9 fun b e => .inr (by cases e; exact Nat.le_refl _))⟩
    obtain ⟨p, HP⟩ : ∃ p, Hid (j = p + 1) := ⟨j - 1, Lib.hid (by omega)⟩
    have hj0i : (0 : Int) < (j : Int) := by omega
    have hwp : IntKind.i64.wrap ((j : Int) - 1) = (p : Int) := by rw [IntWalk.i64_in _ (by omega)]; have := HP.out; omega
    have hpj : p < j := by have := HP.out; omega
    go_wp2_with fail
    refine wp_region_U (fun w' => w'.cell? ⟨W2.heap.size, 0, none⟩ = some (.int .i64 (L0 : Nat)) ∧ w'.cell? ⟨W2.heap.size, 1, none⟩ = some ((.slice Av P.length cv))) [] (by kernel_rfl) ?_
    refine nameU ?_
    intro W35 HW35
    have hg35 : wq.grownBy W35 none := by rw [HW35.out]; exact grown_drew _
    clear HW35
    have hs35 := hg35.size
    have HF35 := Lib.hid (HF33.out.still hg35); clear HF33
    have X35 := Lib.hid (BoxN.still HX.out hg35); clear HX
    have O35 := Lib.hid (OwnR.still HO.out hg35); clear HO
    have C35 := Lib.hid (Cur.still HC.out hg35); clear HC
    have RB35 := Lib.hid (BoxN.still HRB.out hg35); clear HRB
    have hS36 : W35.cell? ⟨W2.heap.size, 0, none⟩ = some (.int .i64 (L0 : Nat)) ∧ W35.cell? ⟨W2.heap.size, 1, none⟩ = some ((.slice Av P.length cv)) := ⟨X35.out.cell 0 (by simp), X35.out.cell 1 (by simp)⟩
    refine anyU_take (i := 0) (v := .pointer (some ⟨g, 0, none⟩)) rfl (by kernel_rfl) (by kernel_rfl) (by kernel_rfl) (fun _ _ _ h => h) ⟨by rfl, fun w' hS' => (by obtain ⟨s1, s2⟩ := hS'; go_simp)⟩ hS36 ?_
    simp only [List.getElem_toArray, List.getElem_cons_zero, Act.put, List.setIfInBounds_toArray, List.set_cons_zero, List.set_cons_succ]
    refine anyU_take (i := 1) (v := .pointer (some ⟨W2.heap.size, 0, none⟩)) rfl (by kernel_rfl) (by kernel_rfl) (by kernel_rfl) (fun _ _ _ h => h) ⟨by rfl, fun w' hS' => (by obtain ⟨s1, s2⟩ := hS'; go_simp)⟩ hS36 ?_
    simp only [List.getElem_toArray, List.getElem_cons_succ, List.getElem_cons_zero, Act.put, List.setIfInBounds_toArray, List.set_cons_zero, List.set_cons_succ]
    refine anyU_take (i := 2) (v := .int .i64 (L0 : Nat)) rfl (by kernel_rfl) (by kernel_rfl) (by kernel_rfl) (fun _ _ _ h => h) ⟨by rfl, fun w' hS' => (by obtain ⟨s1, s2⟩ := hS'; go_simp)⟩ hS36 ?_
    simp only [List.getElem_toArray, List.getElem_cons_succ, List.getElem_cons_zero, Act.put, List.setIfInBounds_toArray, List.set_cons_zero, List.set_cons_succ]
    refine anyU_take (i := 4) (v := .pointer (some ⟨g, 0, none⟩)) rfl (by kernel_rfl) (by kernel_rfl) (by kernel_rfl) (fun _ _ _ h => h) ⟨by rfl, fun w' hS' => (by obtain ⟨s1, s2⟩ := hS'; go_simp)⟩ hS36 ?_
    simp only [List.getElem_toArray, List.getElem_cons_succ, List.getElem_cons_zero, Act.put, List.setIfInBounds_toArray, List.set_cons_zero, List.set_cons_succ]
    refine anyU_take (i := 5) (v := .pointer (some ⟨W2.heap.size, 0, none⟩)) rfl (by kernel_rfl) (by kernel_rfl) (by kernel_rfl) (fun _ _ _ h => h) ⟨by rfl, fun w' hS' => (by obtain ⟨s1, s2⟩ := hS'; go_simp)⟩ hS36 ?_
    simp only [List.getElem_toArray, List.getElem_cons_succ, List.getElem_cons_zero, Act.put, List.setIfInBounds_toArray, List.set_cons_zero, List.set_cons_succ]
    refine anyU_take (i := 6) (v := .int .i64 (L0 : Nat)) rfl (by kernel_rfl) (by kernel_rfl) (by kernel_rfl) (fun _ _ _ h => h) ⟨by rfl, fun w' hS' => (by obtain ⟨s1, s2⟩ := hS'; go_simp)⟩ hS36 ?_
    simp only [List.getElem_toArray, List.getElem_cons_succ, List.getElem_cons_zero, Act.put, List.setIfInBounds_toArray, List.set_cons_zero, List.set_cons_succ]
    refine anyU_ready (rs := [3]) (by kernel_rfl) (by simp) ?_
    refine ReadyU.cons (i := 3) rfl (fun K hK => ?_) ReadyU.nil
    simp only [List.getElem_toArray, List.getElem_cons_succ, List.getElem_cons_zero]
    refine ite_is (by rfl) ?_
    simp [go_sem]
    refine (pick_any (L0 : Nat) g (k + 6 + 6 * (12 - j)) lo hi _ bs _ C35.out (by omega) (ByS.turned HBB.out HF35.out (by omega) (by omega)) HBY.out (by omega) (by omega) (by omega)).mono ?_
    rintro e W37 ⟨a, rfl, _, ha, hC37, hg37⟩
    have hs37 := hg37.size
    have HF37 := Lib.hid (HF35.out.grown hg37 (fun b e => by cases e; omega)); clear HF35
    have X37 := Lib.hid (BoxN.far X35.out hg37 (fun b e => by cases e; omega)); clear X35
    have O37 := Lib.hid (OwnR.far O35.out hg37 (fun b e => by cases e; omega)); clear O35
    have RB37 := Lib.hid (BoxN.far RB35.out hg37 (fun b e => by cases e; omega)); clear RB35
    have HC37 := Lib.hid hC37; clear hC37 C35
    have hS38 : W37.cell? ⟨W2.heap.size, 0, none⟩ = some (.int .i64 (L0 : Nat)) ∧ W37.cell? ⟨W2.heap.size, 1, none⟩ = some ((.slice Av P.length cv)) := ⟨X37.out.cell 0 (by simp), X37.out.cell 1 (by simp)⟩
    refine hK.out _ _ ⟨fun _ => hS38, ?_⟩
    clear hK K hS36
    try simp only [List.getElem_toArray, List.getElem_cons_succ, List.getElem_cons_zero, Act.put, List.setIfInBounds_toArray, List.set_cons_zero, List.set_cons_succ]
    refine anyU_ready (rs := [7]) (by kernel_rfl) (by simp) ?_
    refine ReadyU.cons (i := 7) rfl (fun K hK => ?_) ReadyU.nil
    simp only [List.getElem_toArray, List.getElem_cons_succ, List.getElem_cons_zero]
    refine ite_is (by rfl) ?_
    simp [go_sem]
    refine (pick_any (L0 : Nat) g ((k + 6 + 6 * (12 - j)) + 2) lo hi _ bs _ HC37.out (by omega) (ByS.turned HBB.out HF37.out (by omega) (by omega)) HBY.out (by omega) (by omega) (by omega)).mono ?_
    rintro e W39 ⟨b, rfl, _, hb, hC39, hg39⟩
    have hs39 := hg39.size
    have HF39 := Lib.hid (HF37.out.grown hg39 (fun b e => by cases e; omega)); clear HF37
    have X39 := Lib.hid (BoxN.far X37.out hg39 (fun b e => by cases e; omega)); clear X37
    have O39 := Lib.hid (OwnR.far O37.out hg39 (fun b e => by cases e; omega)); clear O37
    have RB39 := Lib.hid (BoxN.far RB37.out hg39 (fun b e => by cases e; omega)); clear RB37
    have HC39 := Lib.hid hC39; clear hC39 HC37
    have hS40 : W39.cell? ⟨W2.heap.size, 0, none⟩ = some (.int .i64 (L0 : Nat)) ∧ W39.cell? ⟨W2.heap.size, 1, none⟩ = some ((.slice Av P.length cv)) := ⟨X39.out.cell 0 (by simp), X39.out.cell 1 (by simp)⟩
    refine hK.out _ _ ⟨fun _ => hS40, ?_⟩
    clear hK K hS38
    try simp only [List.getElem_toArray, List.getElem_cons_succ, List.getElem_cons_zero, Act.put, List.setIfInBounds_toArray, List.set_cons_zero, List.set_cons_succ]
    have haL : a < L0 := by
      by_cases h : (L0 : Int) ≤ 1
      · have := ‹(L0 : Int) ≤ 1 → a = 0› h; omega
      · have := ha (by omega); omega
    have hbL : b < L0 := by
      by_cases h : (L0 : Int) ≤ 1
      · have := ‹(L0 : Int) ≤ 1 → b = 0› h; omega
      · have := hb (by omega); omega
    clear ha hb
    refine anyU_ready (rs := [8]) (by kernel_rfl) (by simp) ?_
    refine ReadyU.cons (i := 8) rfl (fun K hK => ?_) ReadyU.nil
    simp only [List.getElem_toArray, List.getElem_cons_succ, List.getElem_cons_zero]
    refine ite_is (by rfl) ?_
    simp [go_sem]
    refine hK.out _ _ ⟨fun _ => hS40, ?_⟩
    clear hK K
    try simp only [List.getElem_toArray, List.getElem_cons_succ, List.getElem_cons_zero, Act.put, List.setIfInBounds_toArray, List.set_cons_zero, List.set_cons_succ]
    refine anyU_ready (rs := [9]) (by kernel_rfl) (by simp) ?_
    refine ReadyU.cons (i := 9) rfl (fun K hK => ?_) ReadyU.nil
    simp only [List.getElem_toArray, List.getElem_cons_succ, List.getElem_cons_zero]
    refine ite_is (by rfl) ?_
    simp [go_sem]
    refine hK.out _ _ ⟨fun _ => hS40, ?_⟩
    clear hK K
    try simp only [List.getElem_toArray, List.getElem_cons_succ, List.getElem_cons_zero, Act.put, List.setIfInBounds_toArray, List.set_cons_zero, List.set_cons_succ]
    clear hS40
    refine anyU_done (by kernel_rfl) ?_ _
    by_cases hab : a = b
    case pos =>
      subst hab
      go_wp2_with fail
      refine (one_any 4 g ((k + 6 + 6 * (12 - j)) + 2 + 2) lo hi _ bs _ HC39.out (by omega) (ByS.turned HBB.out HF39.out (by omega) (by omega)) HBY.out (by omega) (by omega) (by omega)).mono ?_
      rintro e W41 ⟨bq, rfl, hC41, hg41⟩
      have hs41 := hg41.size
      have HF41 := Lib.hid (HF39.out.grown hg41 (fun b e => by cases e; omega)); clear HF39
      have X41 := Lib.hid (BoxN.far X39.out hg41 (fun b e => by cases e; omega)); clear X39
      have O41 := Lib.hid (OwnR.far O39.out hg41 (fun b e => by cases e; omega)); clear O39
      have RB41 := Lib.hid (BoxN.far RB39.out hg41 (fun b e => by cases e; omega)); clear RB39
      have HC41 := Lib.hid hC41; clear hC41 HC39
      cases bq with
      | false =>
        go_wp2_with fail
        go_roundw
        case rel => exact ⟨p, _, P, by omega, by go_num, X41, O41, by have := HP.out; omega, HSM, Lib.hid (HC41.out.mono (by have := HP.out; omega)), RB41, by omega, HF41⟩
        case measure => simp [intOf]; omega
      | true =>
        have kx42_0 : W41.cell? ⟨W2.heap.size, 0, none⟩ = some (.int .i64 (L0 : Nat)) := X41.out.cell 0 (by simp)
        have kx42_1 : W41.cell? ⟨W2.heap.size, 1, none⟩ = some ((.slice Av P.length cv)) := X41.out.cell 1 (by simp)
        have kxf42 := X41.out.frozen 1
        go_wp2_with fail
        refine nameK ?_
        intro W43 HW43
        have hg43 : W41.grownBy W43 none := by rw [HW43.out]; exact grown_alloc _ _
        have hs43 := hg43.size
        have HF43 := Lib.hid (HF41.out.still hg43); clear HF41
        have X43 := Lib.hid (BoxN.still X41.out hg43); clear X41
        have O43 := Lib.hid (OwnR.still O41.out hg43); clear O41
        have C43 := Lib.hid (Cur.still HC41.out hg43); clear HC41
        have RB43 := Lib.hid (BoxN.still RB41.out hg43); clear RB41
        have NL43 := Lib.hid (show IntS W43 W41.heap.size (W41.heap.size + 1) (.slice (some ⟨W41.heap.size, 0, none⟩) 2 2) [(a : Int), (a : Int)] by rw [HW43.out]; exact IntS.newN W41 [(a : Int), (a : Int)] _ rfl (by simp))
        have hz43 : W41.heap.size + 1 ≤ W43.heap.size := by rw [HW43.out]; simp
        clear HW43
        refine (prInsert_any (W2.heap.size + 1) _ P _ [(a : Int), (a : Int)] W41.heap.size (W41.heap.size + 1) _ O43.out NL43.out (by omega) (by omega) (by omega) (by omega) HSM.out (small2 (by omega) (by omega))).mono ?_
        rintro e W44 ⟨r44, M44, rfl, ho44, hl44, hm44, hb44⟩
        have hg44 := grown_below hb44; clear hb44
        have hs44 := hg44.size
        have HF44 := Lib.hid (HF43.out.still hg44); clear HF43
        have X44 := Lib.hid (BoxN.still X43.out hg44); clear X43
        have C44 := Lib.hid (Cur.still C43.out hg44); clear C43
        have RB44 := Lib.hid (BoxN.still RB43.out hg44); clear RB43
        have HO44 := Lib.hid ho44; clear ho44 HSM NL43 O43
        have HSM := Lib.hid hm44; clear hm44
        obtain ⟨A44, c44, rfl, hc44, hd44⟩ := HO44.out.len
        unfold maxLen at hd44
        clear kx42_0 kx42_1 kxf42
        have kx45_0 : W44.cell? ⟨W2.heap.size, 0, none⟩ = some (.int .i64 (L0 : Nat)) := X44.out.cell 0 (by simp)
        have kx45_1 : W44.cell? ⟨W2.heap.size, 1, none⟩ = some ((.slice Av P.length cv)) := X44.out.cell 1 (by simp)
        have kxf45 := X44.out.frozen 1
        go_upto_region 24 with (fail)
        clear kx45_0 kx45_1 kxf45
        refine nameC ?_
        intro W46 HW46
        have hg46 : W44.grownBy W46 (some W2.heap.size) := by rw [HW46.out]; exact grown_set _ ⟨W2.heap.size, 1, none⟩ _
        have hs46 := hg46.size
        have HF46 := Lib.hid (HF44.out.grown hg46 (fun b e => by cases e; omega)); clear HF44
        have O46 := Lib.hid (OwnR.far HO44.out hg46 (fun b e => by cases e; omega)); clear HO44
        have C46 := Lib.hid (Cur.far C44.out hg46 (fun b e => by cases e; omega)); clear C44
        have RB46 := Lib.hid (BoxN.far RB44.out hg46 (fun b e => by cases e; omega)); clear RB44
        have HX46 := Lib.hid (show BoxN W46 W2.heap.size #[.int .i64 (L0 : Nat), (.slice A44 M44.length c44)] 26 by rw [HW46.out]; exact X44.out.set 1 _)
        clear HW46 X44
        go_wp2_with fail
        go_roundw
        case rel => exact ⟨p, _, M44, by omega, by go_num, HX46, O46, by have := HP.out; omega, HSM, Lib.hid (C46.out.mono (by have := HP.out; omega)), RB46, by omega, HF46⟩
        case measure => simp [intOf]; omega
    have habe : ((a : Int) == (b : Int)) = false := by simp; omega
    have habi : ¬ (a : Int) = (b : Int) := by omega
    have habn : ((a : Int) != (b : Int)) = true := by simp; omega
    have HAB := Lib.hid hab; clear hab
    have kx47_0 : W39.cell? ⟨W2.heap.size, 0, none⟩ = some (.int .i64 (L0 : Nat)) := X39.out.cell 0 (by simp)
    have kx47_1 : W39.cell? ⟨W2.heap.size, 1, none⟩ = some ((.slice Av P.length cv)) := X39.out.cell 1 (by simp)
    have kxf47 := X39.out.frozen 1
    go_wp2_with fail
    refine nameK ?_
    intro W48 HW48
    have hg48 : W39.grownBy W48 none := by rw [HW48.out]; exact grown_alloc _ _
    have hs48 := hg48.size
    have HF48 := Lib.hid (HF39.out.still hg48); clear HF39
    have X48 := Lib.hid (BoxN.still X39.out hg48); clear X39
    have O48 := Lib.hid (OwnR.still O39.out hg48); clear O39
    have C48 := Lib.hid (Cur.still HC39.out hg48); clear HC39
    have RB48 := Lib.hid (BoxN.still RB39.out hg48); clear RB39
    have NL48 := Lib.hid (show IntS W48 W39.heap.size (W39.heap.size + 1) (.slice (some ⟨W39.heap.size, 0, none⟩) 2 2) [(a : Int), (b : Int)] by rw [HW48.out]; exact IntS.newN W39 [(a : Int), (b : Int)] _ rfl (by simp))
    have hz48 : W39.heap.size + 1 ≤ W48.heap.size := by rw [HW48.out]; simp
    clear HW48
    refine (prInsert_any (W2.heap.size + 1) _ P _ [(a : Int), (b : Int)] W39.heap.size (W39.heap.size + 1) _ O48.out NL48.out (by omega) (by omega) (by omega) (by omega) HSM.out (small2 (by omega) (by omega))).mono ?_
    rintro e W49 ⟨r49, M49, rfl, ho49, hl49, hm49, hb49⟩
    have hg49 := grown_below hb49; clear hb49
    have hs49 := hg49.size
    have HF49 := Lib.hid (HF48.out.still hg49); clear HF48
    have X49 := Lib.hid (BoxN.still X48.out hg49); clear X48
    have C49 := Lib.hid (Cur.still C48.out hg49); clear C48
    have RB49 := Lib.hid (BoxN.still RB48.out hg49); clear RB48
    have HO49 := Lib.hid ho49; clear ho49 HSM NL48 O48
    have HSM := Lib.hid hm49; clear hm49
    obtain ⟨A49, c49, rfl, hc49, hd49⟩ := HO49.out.len
    unfold maxLen at hd49
    clear kx47_0 kx47_1 kxf47
    have kx50_0 : W49.cell? ⟨W2.heap.size, 0, none⟩ = some (.int .i64 (L0 : Nat)) := X49.out.cell 0 (by simp)
    have kx50_1 : W49.cell? ⟨W2.heap.size, 1, none⟩ = some ((.slice Av P.length cv)) := X49.out.cell 1 (by simp)
    have kxf50 := X49.out.frozen 1
    go_upto_region 24 with (fail)
    clear kx50_0 kx50_1 kxf50
    refine nameC ?_
    intro W51 HW51
    have hg51 : W49.grownBy W51 (some W2.heap.size) := by rw [HW51.out]; exact grown_set _ ⟨W2.heap.size, 1, none⟩ _
    have hs51 := hg51.size
    have HF51 := Lib.hid (HF49.out.grown hg51 (fun b e => by cases e; omega)); clear HF49
    have O51 := Lib.hid (OwnR.far HO49.out hg51 (fun b e => by cases e; omega)); clear HO49
    have C51 := Lib.hid (Cur.far C49.out hg51 (fun b e => by cases e; omega)); clear C49
    have RB51 := Lib.hid (BoxN.far RB49.out hg51 (fun b e => by cases e; omega)); clear RB49
    have HX51 := Lib.hid (show BoxN W51 W2.heap.size #[.int .i64 (L0 : Nat), (.slice A49 M49.length c49)] 26 by rw [HW51.out]; exact X49.out.set 1 _)
    clear HW51 X49
    go_wp2_with fail
    go_roundw
    case rel => exact ⟨p, _, M49, by omega, by go_num, HX51, O51, by have := HP.out; omega, HSM, Lib.hid (C51.out.mono (by have := HP.out; omega)), RB51, by omega, HF51⟩
    case measure => simp [intOf]; omega

end Go.Proofs.Ytbfjhehhpgcelaa

/- Contract: the drawn walk problem, seldom a bad one (reference). -/
namespace Go.Proofs.Ytbfjhehhpgcelaa
open Go.ChangeShapes Go.WideShapes Go.ChangeAt Go.RowKit
set_option linter.unusedVariables false

/-- as OwnR, and all lies apart from block x -/
def OwnRX (w : World) (base x : Nat) (e : TypeId) (v : Value) (xss : List (List Int)) : Prop :=
  ∃ vs : List Value, vs.length = xss.length ∧ Own w base e v vs ∧ v.ownBlock ≠ some x ∧
    ∀ j, j < xss.length → ∃ u lo hi, vs[j]? = some u ∧ base ≤ lo ∧ hi ≤ w.heap.size ∧ IntS w lo hi u (nthL xss j) ∧ (x < lo ∨ hi ≤ x) ∧ ∀ g, v.ownBlock = some g → g < lo ∨ hi ≤ g
section
variable {w w' : World} {base x : Nat} {e : TypeId} {v : Value} {xss : List (List Int)} {row : Option Nat}
theorem OwnR.exc (h : OwnR w base e v xss) (hx : w.heap.size ≤ x) : OwnRX w base x e v xss := by
  obtain ⟨vs, h1, h2, h5⟩ := h
  refine ⟨vs, h1, h2, fun e => by have := (h2.lt x e).2; omega, fun j hj => ?_⟩
  obtain ⟨u, lo, hi, a1, a2, a3, a4, a5⟩ := h5 j hj
  exact ⟨u, lo, hi, a1, a2, a3, a4, .inr (by omega), a5⟩
theorem OwnRX.ownR (h : OwnRX w base x e v xss) : OwnR w base e v xss := by
  obtain ⟨vs, h1, h2, _, h5⟩ := h
  refine ⟨vs, h1, h2, fun j hj => ?_⟩
  obtain ⟨u, lo, hi, a1, a2, a3, a4, _, a5⟩ := h5 j hj
  exact ⟨u, lo, hi, a1, a2, a3, a4, a5⟩
theorem OwnRX.len (h : OwnRX w base x e v xss) : ∃ A c, v = .slice A xss.length c ∧ xss.length ≤ c ∧ c ≤ maxLen := h.ownR.len
theorem OwnRX.lt (h : OwnRX w base x e v xss) : ∀ k, v.ownBlock = some k → base ≤ k ∧ k < w.heap.size := h.ownR.lt
theorem OwnRX.ss (h : OwnRX w base x e v xss) : IntSS w base w.heap.size v xss := h.ownR.ss
theorem OwnRX.ne (h : OwnRX w base x e v xss) : ∀ k, v.ownBlock = some k → k ≠ x := fun k hk e => by
  obtain ⟨_, _, _, h3, _⟩ := h
  exact h3 (e ▸ hk)
theorem OwnRX.far (h : OwnRX w base x e v xss) (hg : w.grownBy w' row) (hr : ∀ g, row = some g → g < base ∨ g = x) : OwnRX w' base x e v xss := by
  obtain ⟨vs, h1, h2, h3, h5⟩ := h
  refine ⟨vs, h1, h2.kept hg ?_, h3, fun j hj => ?_⟩
  · cases hv : v.ownBlock with
    | none => exact .inl rfl
    | some k =>
      right; intro e
      have := (h2.lt k hv).1
      have := hr k e.symm
      have hk : k ≠ x := fun e2 => h3 (e2 ▸ hv)
      omega
  · obtain ⟨u, lo, hi, a1, a2, a3, a4, a6, a5⟩ := h5 j hj
    exact ⟨u, lo, hi, a1, a2, Nat.le_trans a3 hg.size, a4.far hg a3 (fun g e => by have := hr g e; omega), a6, a5⟩
theorem OwnRX.still (h : OwnRX w base x e v xss) (hg : w.grownBy w' none) : OwnRX w' base x e v xss := h.far hg (fun g e => by cases e)
theorem OwnRX.one {lo hi : Nat} {u : Value} {xs : List Int} (hu : IntS w lo hi u xs) (e : TypeId) (hb : base ≤ lo) (hx : x < lo) (hlh : lo ≤ hi) (hh : hi ≤ w.heap.size) {g : Nat} (hg : w.heap.size = g) : OwnRX (w.alloc (.cells #[u] e)) base x e (.slice (some ⟨g, 0, none⟩) 1 1) [xs] := by
  refine ⟨[u], rfl, Own.one w base e u hg (by omega), fun e2 => ?_, fun j hj => ?_⟩
  · have hk' : g = x := by simpa [Value.ownBlock] using e2
    omega
  · obtain rfl : j = 0 := by simpa using hj
    refine ⟨u, lo, hi, rfl, hb, by simp; omega, hu.still (grown_alloc _ _) hh, .inl hx, fun k hk => ?_⟩
    have hk' : g = k := by simpa [Value.ownBlock] using hk
    exact .inr (show hi ≤ k by omega)
theorem OwnRX.open_ (h : OwnRX w base x e v xss) : ∃ vs : List Value, vs.length = xss.length ∧ w.ownsRow base e 1 v vs.length vs ∧
    ∀ (w' : World) (v' u : Value) (xs : List Int) (lo hi : Nat), IntS w lo hi u xs → base ≤ lo → hi ≤ w.heap.size → x < lo ∨ hi ≤ x → x < w.heap.size → (∀ g, v.ownBlock = some g → g < lo ∨ hi ≤ g) →
      w'.ownsRow base e 1 v' (vs.length + 1) (vs ++ [u]) → w.grownBy w' v.ownBlock → (v'.ownBlock = v.ownBlock ∨ ∃ g, v'.ownBlock = some g ∧ w.heap.size ≤ g) → OwnRX w' base x e v' (xss ++ [xs]) := by
  obtain ⟨vs, h1, h2, h3, h5⟩ := h
  refine ⟨vs, h1, h2, fun w' v' u xs lo hi hu hlo hhi hx hxw hfar ho' hg' hat' => ?_⟩
  have hgs := hg'.size
  have keep : ∀ {u lo hi zs}, base ≤ lo → hi ≤ w.heap.size → IntS w lo hi u zs → (x < lo ∨ hi ≤ x) → (∀ g, v.ownBlock = some g → g < lo ∨ hi ≤ g) → base ≤ lo ∧ hi ≤ w'.heap.size ∧ IntS w' lo hi u zs ∧ (x < lo ∨ hi ≤ x) ∧ ∀ g, v'.ownBlock = some g → g < lo ∨ hi ≤ g := fun b1 b2 b3 b6 b4 => by
    refine ⟨b1, by omega, b3.far hg' b2 b4, b6, fun g hg => ?_⟩
    rcases hat' with e1 | ⟨q, e1, hq⟩
    · exact b4 g (by rw [← e1]; exact hg)
    · rw [e1] at hg; injection hg with hg; omega
  refine ⟨vs ++ [u], by simp [h1], by unfold Own; rw [List.length_append]; exact ho', ?_, fun j hj => ?_⟩
  · rcases hat' with e1 | ⟨q, e1, hq⟩
    · rw [e1]; exact h3
    · rw [e1]; intro e2; injection e2 with e2; omega
  · by_cases e1 : j < xss.length
    · obtain ⟨u', lo', hi', b1, b2, b3, b4, b6, b5⟩ := h5 j e1
      rw [nthL_append_left e1]
      exact ⟨u', lo', hi', by rw [List.getElem?_append_left (by omega)]; exact b1, keep b2 b3 b4 b6 b5⟩
    · obtain rfl : j = xss.length := by simp at hj; omega
      rw [nthL_append_at]
      exact ⟨u, lo, hi, by rw [← h1]; simp, keep hlo hhi hu hx hfar⟩
end
/-- append of one row -/
theorem append_rx {P : Program} {ops : Array Oper} {rest : List Oper} {o : Oper} {a : Act} {Q : Exit → Act → World → Prop} {t e : TypeId} {bytes : Nat}
    (ht : P.underlying t = some (.slice e)) (hinfo : (P.info? e).map (fun i => (i.zero, i.size, i.bytes)) = some (some (.slice none 0 0), 1, bytes)) (hby : bytes ≤ 64)
    (w : World) (hgd : o.guard = none) {s : Operand} (y : Operand) (ho : o.op = .call { callee := .builtin .append, args := #[s, y], argTypes := #[t, t] })
    {base x : Nat} {v : Value} {xss : List (List Int)} (hown : OwnRX w base x e v xss) {u : Value} {xs : List Int} {lo hi : Nat} (hu : IntS w lo hi u xs) (hlo : base ≤ lo) (hhi : hi ≤ w.heap.size) (hx : x < lo ∨ hi ≤ x) (hxw : x < w.heap.size) (hbw : base ≤ w.heap.size) (hfar : ∀ g, v.ownBlock = some g → g < lo ∨ hi ≤ g)
    (te : TypeId) (hs : a.eval s = v) (hy : a.eval y = .slice (some ⟨w.heap.size, 0, none⟩) 1 1) (hlen : xss.length < 1000000)
    (h : ∀ v' w', OwnRX w' base x e v' (xss ++ [xs]) → w.grownBy w' v.ownBlock → wpList P ops Q rest (a.put o.dst v') w') :
    wpList P ops Q (o :: rest) a (w.alloc (.cells #[u] te)) := by
  obtain ⟨A, c, rfl⟩ := (show ∃ A c, u = .slice A xs.length c from let ⟨A, c, e, _⟩ := hu; ⟨A, c, e⟩)
  obtain ⟨vs, h1, h2, h3⟩ := hown.open_
  refine append1 ht hinfo rfl hby w hgd y ho (xs := vs) h2 _ te hs hy rfl (by omega) hbw fun v' w' ho' hg' hat' => h v' w' (h3 w' v' _ xs lo hi hu hlo hhi hx hxw hfar (by unfold Own at ho'; simpa using ho') hg' (hat'.imp id fun e => ⟨_, e, by omega⟩)) hg'
theorem mem_inY {zs : List Int} {lo hi : Int} (h : ∀ x ∈ zs, lo ≤ x ∧ x ≤ hi) {j : Nat} (hj : j < zs.length) : lo ≤ nth zs j ∧ nth zs j ≤ hi := h _ (nth_mem hj)

set_option maxHeartbeats 8000000 in
set_option maxRecDepth 100000 in
theorem anyWalk_any (g : Nat) (w : World)  (k lo hi : Nat) (v : Value) (bs : List Int) (hC : Cur w g v k) (hk : k < 1000000000) (hB : ByS w lo hi v bs) (hb : Bytes bs) (hl : bs.length ≤ 1048576) (hg : g < lo ∨ hi ≤ g) (hh : hi ≤ w.heap.size) :
    Calls Try.prog 32 #[.pointer (some ⟨g, 0, none⟩)] w fun e w' => ∃ (L : Int) (r : Value) (P : List (List Int)), e = .returned (.agg #[.int .i64 L, r]) ∧ -1 ≤ L ∧ L ≤ 13 ∧ IntSS w' w.heap.size w'.heap.size r P ∧ Cur w' g v (k + 210) ∧ w.grownBy w' (some g) := by
  have hgw := hC.lt
  have HC := Lib.hid hC; clear hC
  have HBB := Lib.hid hB; clear hB
  have HBY := Lib.hid hb; clear hb
  go_enter Try.func32, Try.ntmps32
  go_upto_region 1 with (fail)
  refine nameC ?_
  intro W1 HW1
  have hg1 : w.grownBy W1 none := by rw [HW1.out]; exact grown_alloc _ _
  have hs1 := hg1.size
  have HF1 := Lib.hid ((Turned.refl g (g + 1) w).still hg1)
  have C1 := Lib.hid (Cur.still HC.out hg1); clear HC
  have HRB := Lib.hid (show BoxN W1 w.heap.size #[.int .i64 0, .slice none 0 0] 26 by rw [HW1.out]; exact BoxN.new _ _ _)
  have hzr : w.heap.size + 1 ≤ W1.heap.size := by rw [HW1.out]; simp
  clear HW1
  go_wp2_with fail
  refine (walk_any g _ k lo hi _ bs C1.out (by omega) (ByS.turned HBB.out HF1.out (by omega) (by omega)) HBY.out (by omega) (by omega) (by omega)).mono ?_
  rintro e W2 ⟨L, r, P, rfl, L1, L9, hpl, hsm, ho, hC2, hg2⟩
  have hs2 := hg2.size
  have HF2 := Lib.hid (HF1.out.grown hg2 (fun b e => by cases e; omega)); clear HF1
  have RB2 := Lib.hid (BoxN.far HRB.out hg2 (fun b e => by cases e; omega)); clear HRB
  have HC2 := Lib.hid hC2; clear hC2 C1
  clear hsm
  obtain ⟨Av, cv, rfl, hcv, hdv⟩ := ho.len
  unfold maxLen at hdv
  have HO0 := Lib.hid ho; clear ho
  have HQ := Lib.hid (OwnR.exc HO0.out (Nat.le_refl _)); clear HO0
  go_upto_region 2 with (fail)
  refine nameC ?_
  intro W3 HW3
  have hg3 : W2.grownBy W3 none := by rw [HW3.out]; exact grown_alloc _ _
  have hs3 := hg3.size
  have HF3 := Lib.hid (HF2.out.still hg3); clear HF2
  have C3 := Lib.hid (Cur.still HC2.out hg3); clear HC2
  have RB3 := Lib.hid (BoxN.still RB2.out hg3); clear RB2
  have O3 := Lib.hid (OwnRX.still HQ.out hg3); clear HQ
  have HX := Lib.hid (show BoxN W3 W2.heap.size #[.int .i64 L, (.slice Av P.length cv)] 26 by rw [HW3.out]; first | exact BoxN.new _ _ _ | exact ((BoxN.new _ _ _).set 0 _).set 1 _)
  have hzx : W2.heap.size + 1 ≤ W3.heap.size := by rw [HW3.out]; simp
  clear HW3
  go_wp2_with fail
  refine (pick_any 40 g (k + 200) lo hi _ bs _ C3.out (by omega) (ByS.turned HBB.out HF3.out (by omega) (by omega)) HBY.out (by omega) (by omega) (by omega)).mono ?_
  rintro e W4 ⟨x, rfl, _, hx, hC4, hg4⟩
  have hs4 := hg4.size
  have HF4 := Lib.hid (HF3.out.grown hg4 (fun b e => by cases e; omega)); clear HF3
  have RB4 := Lib.hid (BoxN.far RB3.out hg4 (fun b e => by cases e; omega)); clear RB3
  have O4 := Lib.hid (OwnRX.far O3.out hg4 (fun b e => by cases e; omega)); clear O3
  have X4 := Lib.hid (BoxN.far HX.out hg4 (fun b e => by cases e; omega)); clear HX
  have HC4 := Lib.hid hC4; clear hC4 C3
  clear hx
  by_cases x0 : x = 0
  case pos =>
    have kx5_0 : W4.cell? ⟨W2.heap.size, 0, none⟩ = some (.int .i64 L) := X4.out.cell 0 (by simp)
    have kx5_1 : W4.cell? ⟨W2.heap.size, 1, none⟩ = some ((.slice Av P.length cv)) := X4.out.cell 1 (by simp)
    subst x0
    have hwl : IntKind.i64.wrap (L - 1) = L - 1 := IntWalk.i64_in _ (by omega)
    have kh0 : ∀ q, (W4.alloc (.cells #[.int .i64 0, .int .i64 12, .int .i64 13, .int .i64 (L - 1)] q)).cell? ⟨W2.heap.size, 0, none⟩ = some (.int .i64 L) := fun q => (X4.out.still (grown_alloc _ _)).cell 0 (by simp)
    go_wp2_with fail
    clear kx5_0 kx5_1 kh0
    refine nameK ?_
    intro W6 HW6
    have hg6 : W4.grownBy W6 none := by rw [HW6.out]; exact grown_alloc _ _
    have hs6 := hg6.size
    have HF6 := Lib.hid (HF4.out.still hg6); clear HF4
    have C6 := Lib.hid (Cur.still HC4.out hg6); clear HC4
    have RB6 := Lib.hid (BoxN.still RB4.out hg6); clear RB4
    have O6 := Lib.hid (OwnRX.still O4.out hg6); clear O4
    have X6 := Lib.hid (BoxN.still X4.out hg6); clear X4
    have AL6 := Lib.hid (show IntS W6 W4.heap.size (W4.heap.size + 1) (.slice (some ⟨W4.heap.size, 0, none⟩) 4 4) [0, 12, 13, L - 1] by rw [HW6.out]; exact IntS.newN W4 [0, 12, 13, L - 1] _ rfl (by simp))
    have hz6 : W4.heap.size + 1 ≤ W6.heap.size := by rw [HW6.out]; simp
    clear HW6
    refine (among_any g ((k + 200) + 2) lo hi _ bs _ ([0, 12, 13, L - 1] : List Int) W4.heap.size (W4.heap.size + 1) _ C6.out (by omega) (ByS.turned HBB.out HF6.out (by omega) (by omega)) HBY.out (by omega) (by omega) (by omega) AL6.out (by simp) (by omega) (by omega)).mono ?_
    rintro e W7 ⟨j, hj, rfl, hC7, hg7⟩
    have hs7 := hg7.size
    have HF7 := Lib.hid (HF6.out.grown hg7 (fun b e => by cases e; omega)); clear HF6
    have RB7 := Lib.hid (BoxN.far RB6.out hg7 (fun b e => by cases e; omega)); clear RB6
    have O7 := Lib.hid (OwnRX.far O6.out hg7 (fun b e => by cases e; omega)); clear O6
    have X7 := Lib.hid (BoxN.far X6.out hg7 (fun b e => by cases e; omega)); clear X6
    have HC7 := Lib.hid hC7; clear hC7 C6
    have hbd := mem_inY (zs := [0, 12, 13, L - 1]) (lo := (-1)) (hi := 13) (by intro x hx; simp at hx; omega) hj
    obtain ⟨av, Hav⟩ : ∃ z : Int, Hid (nth [0, 12, 13, L - 1] j = z) := ⟨_, Lib.hid rfl⟩
    rw [Hav.out] at hbd
    rw [Hav.out]
    obtain ⟨av1, av2⟩ := hbd
    clear hj Hav AL6
    have kx8_0 : W7.cell? ⟨W2.heap.size, 0, none⟩ = some (.int .i64 L) := X7.out.cell 0 (by simp)
    have kx8_1 : W7.cell? ⟨W2.heap.size, 1, none⟩ = some ((.slice Av P.length cv)) := X7.out.cell 1 (by simp)
    have kxf8 := X7.out.frozen 0
    go_upto_region 11 with (fail)
    clear kx8_0 kx8_1 kxf8
    refine nameC ?_
    intro W9 HW9
    have hg9 : W7.grownBy W9 (some W2.heap.size) := by rw [HW9.out]; exact grown_set _ ⟨W2.heap.size, 0, none⟩ _
    have hs9 := hg9.size
    have HF9 := Lib.hid (HF7.out.grown hg9 (fun b e => by cases e; omega)); clear HF7
    have C9 := Lib.hid (Cur.far HC7.out hg9 (fun b e => by cases e; omega)); clear HC7
    have RB9 := Lib.hid (BoxN.far RB7.out hg9 (fun b e => by cases e; omega)); clear RB7
    have O9 := Lib.hid (OwnRX.far O7.out hg9 (fun b e => by cases e; omega)); clear O7
    have HX9 := Lib.hid (show BoxN W9 W2.heap.size #[.int .i64 av, (.slice Av P.length cv)] 26 by rw [HW9.out]; exact X7.out.set 0 _)
    clear HW9 X7
    have kx10_0 : W9.cell? ⟨W2.heap.size, 0, none⟩ = some (.int .i64 av) := HX9.out.cell 0 (by simp)
    have kx10_1 : W9.cell? ⟨W2.heap.size, 1, none⟩ = some ((.slice Av P.length cv)) := HX9.out.cell 1 (by simp)
    have kr0 : W9.cell? ⟨w.heap.size, 0, none⟩ = some (.int .i64 0) := RB9.out.cell 0 (by simp)
    have kr1 : W9.cell? ⟨w.heap.size, 1, none⟩ = some (.slice none 0 0) := RB9.out.cell 1 (by simp)
    have kf0 := RB9.out.frozen 0
    have kf1 := RB9.out.frozen 1
    have HSS := Lib.hid (O9.out.ss)
    go_wp2_with fail
    ((try simp only [Exit.inBlock, Exit.then]); refine bodyPost_ret (results_cell1Y rfl _ _ _ rfl (load_wp ((RB9.out.set 0 (.int .i64 av)).set 1 (.slice Av P.length cv)))) rfl ?_)
    have hg9 : W9.grownBy ((W9.setCell ⟨w.heap.size, 0, none⟩ (.int .i64 av)).setCell ⟨w.heap.size, 1, none⟩ (.slice Av P.length cv)) (some w.heap.size) := grownBy_setCell (p := ⟨w.heap.size, 1, none⟩) (grownBy_setCell (p := ⟨w.heap.size, 0, none⟩) (World.grownBy.refl _ _) rfl _) rfl _
    have HRES := Lib.hid (ISS.mono (ISS.far HSS.out hg9 (Nat.le_refl _) fun b e => .inl (by cases e; omega)) (show w.heap.size ≤ W1.heap.size by omega) hg9.size)
    first | exact ⟨_, _, P, rfl, by omega, by omega, HRES.out, Cur.mono (Cur.far C9.out hg9 (fun b e => by cases e; omega)) (by omega), turned_grown (HF9.out.grown hg9 fun b e => .inr (by cases e; exact Nat.le_refl _))⟩ | exact ⟨_, _, rfl, by omega, by omega, P, HRES.out, Cur.mono (Cur.far C9.out hg9 (fun b e => by cases e; omega)) (by omega), turned_grown (HF9.out.grown hg9 fun b e => .inr (by cases e; exact Nat.le_refl _))⟩
  have x0i : ¬ (x : Int) = 0 := by omega
  have x0e : ((x : Int) == 0) = false := by simp; omega
  by_cases x1 : x = 1
  case pos =>
    have kx11_0 : W4.cell? ⟨W2.heap.size, 0, none⟩ = some (.int .i64 L) := X4.out.cell 0 (by simp)
    have kx11_1 : W4.cell? ⟨W2.heap.size, 1, none⟩ = some ((.slice Av P.length cv)) := X4.out.cell 1 (by simp)
    have kxf11 := X4.out.frozen 1
    subst x1
    have HLV := Lib.hid O4.out.lt
    have HNE := Lib.hid O4.out.ne
    have hlv := O4.out.lt
    have HN := Lib.hid (IntS.newN W4 [(0 : Int), 0] 3 rfl (by simp))
    have HGA := Lib.hid (grown_alloc W4 (.cells #[.int .i64 0, .int .i64 0] 3))
    have HXA := Lib.hid (X4.out.still HGA.out)
    have kg1 : (W4.alloc (.cells #[.int .i64 0, .int .i64 0] 3)).cell? ⟨W2.heap.size, 1, none⟩ = some (.slice Av P.length cv) := HXA.out.cell 1 (by simp)
    have HOA := Lib.hid (O4.out.still HGA.out)
    go_upto_region 11 with (at_builtin; refine append_rx (s := .tmp 20) Try.underlying24 infoRowM (by decide) (W4.alloc (.cells #[.int .i64 0, .int .i64 0] 3)) rfl _ rfl HOA.out HN.out (by omega) (by simp) (.inl (by omega)) (by simp; omega) (by simp; omega) (fun g hg => .inl (hlv g hg).2) _ rfl (by simp [Act.eval, go_sem]) (by omega) ?_; intro v2 w7 ho7 hg7; obtain ⟨A7, c7, hq7, _⟩ := ho7.len; simp only [List.length_append, List.length_cons, List.length_nil, Nat.zero_add] at hq7; subst hq7; have HO7 := Lib.hid ho7; have HG7 := Lib.hid hg7; have HX7 := Lib.hid (BoxN.far HXA.out hg7 (fun g e => HNE.out g e)); have kq7 : w7.cell? ⟨W2.heap.size, 1, none⟩ = some (.slice Av P.length cv) := HX7.out.cell 1 (by simp); have kfq7 := HX7.out.frozen 1; clear ho7 hg7)
    clear kq7 kfq7 kg1 kx11_0 kx11_1 kxf11
    have hgs7 := HG7.out.size
    have hga := HGA.out.size
    have HC7 := Lib.hid ((HC4.out.still HGA.out).far HG7.out (fun q e => by have := HLV.out q e; omega))
    have RB7 := Lib.hid ((RB4.out.still HGA.out).far HG7.out (fun q e => by have := HLV.out q e; omega))
    have HF7 := Lib.hid ((HF4.out.still HGA.out).grown HG7.out fun q e => .inr (by have := HLV.out q e; omega))
    have hz7 : W2.heap.size + 1 ≤ w7.heap.size := by omega
    refine nameC ?_
    intro W12 HW12
    have hg12 : w7.grownBy W12 (some W2.heap.size) := by rw [HW12.out]; exact grown_set _ ⟨W2.heap.size, 1, none⟩ _
    have hs12 := hg12.size
    have HF12 := Lib.hid (HF7.out.grown hg12 (fun b e => by cases e; omega)); clear HF7
    have C12 := Lib.hid (Cur.far HC7.out hg12 (fun b e => by cases e; omega)); clear HC7
    have RB12 := Lib.hid (BoxN.far RB7.out hg12 (fun b e => by cases e; omega)); clear RB7
    have O12 := Lib.hid (OwnRX.far HO7.out hg12 (fun b e => by cases e; omega)); clear HO7
    have HX12 := Lib.hid (show BoxN W12 W2.heap.size #[.int .i64 L, (.slice A7 (P.length + 1) c7)] 26 by rw [HW12.out]; exact HX7.out.set 1 _)
    clear HW12 HX7
    have kx13_0 : W12.cell? ⟨W2.heap.size, 0, none⟩ = some (.int .i64 L) := HX12.out.cell 0 (by simp)
    have kx13_1 : W12.cell? ⟨W2.heap.size, 1, none⟩ = some ((.slice A7 (P.length + 1) c7)) := HX12.out.cell 1 (by simp)
    have kr0 : W12.cell? ⟨w.heap.size, 0, none⟩ = some (.int .i64 0) := RB12.out.cell 0 (by simp)
    have kr1 : W12.cell? ⟨w.heap.size, 1, none⟩ = some (.slice none 0 0) := RB12.out.cell 1 (by simp)
    have kf0 := RB12.out.frozen 0
    have kf1 := RB12.out.frozen 1
    have HSS := Lib.hid (O12.out.ss)
    go_wp2_with fail
    ((try simp only [Exit.inBlock, Exit.then]); refine bodyPost_ret (results_cell1Y rfl _ _ _ rfl (load_wp ((RB12.out.set 0 (.int .i64 L)).set 1 (.slice A7 (P.length + 1) c7)))) rfl ?_)
    have hg9 : W12.grownBy ((W12.setCell ⟨w.heap.size, 0, none⟩ (.int .i64 L)).setCell ⟨w.heap.size, 1, none⟩ (.slice A7 (P.length + 1) c7)) (some w.heap.size) := grownBy_setCell (p := ⟨w.heap.size, 1, none⟩) (grownBy_setCell (p := ⟨w.heap.size, 0, none⟩) (World.grownBy.refl _ _) rfl _) rfl _
    have HRES := Lib.hid (ISS.mono (ISS.far HSS.out hg9 (Nat.le_refl _) fun b e => .inl (by cases e; omega)) (show w.heap.size ≤ W1.heap.size by omega) hg9.size)
    first | exact ⟨_, _, (P ++ [[(0 : Int), 0]]), rfl, by omega, by omega, HRES.out, Cur.mono (Cur.far C12.out hg9 (fun b e => by cases e; omega)) (by omega), turned_grown (HF12.out.grown hg9 fun b e => .inr (by cases e; exact Nat.le_refl _))⟩ | exact ⟨_, _, rfl, by omega, by omega, (P ++ [[(0 : Int), 0]]), HRES.out, Cur.mono (Cur.far C12.out hg9 (fun b e => by cases e; omega)) (by omega), turned_grown (HF12.out.grown hg9 fun b e => .inr (by cases e; exact Nat.le_refl _))⟩
  have x1i : ¬ (x : Int) = 1 := by omega
  have x1e : ((x : Int) == 1) = false := by simp; omega
  by_cases x2 : x = 2
  case pos =>
    have kx14_0 : W4.cell? ⟨W2.heap.size, 0, none⟩ = some (.int .i64 L) := X4.out.cell 0 (by simp)
    have kx14_1 : W4.cell? ⟨W2.heap.size, 1, none⟩ = some ((.slice Av P.length cv)) := X4.out.cell 1 (by simp)
    have kxf14 := X4.out.frozen 1
    subst x2
    have hwl : IntKind.i64.wrap (L - 1) = L - 1 := IntWalk.i64_in _ (by omega)
    have HLV := Lib.hid O4.out.lt
    have HNE := Lib.hid O4.out.ne
    go_wp2_with fail
    clear kx14_0 kx14_1 kxf14
    refine wp_region_U (fun w' => w'.cell? ⟨W2.heap.size, 0, none⟩ = some (.int .i64 L) ∧ w'.cell? ⟨W2.heap.size, 1, none⟩ = some ((.slice Av P.length cv))) [17] (by kernel_rfl) ?_
    refine nameU ?_
    intro W15 HW15
    have hg15 : W4.grownBy W15 none := by rw [HW15.out]; exact grown_drew _
    clear HW15
    have hs15 := hg15.size
    have HF15 := Lib.hid (HF4.out.still hg15); clear HF4
    have C15 := Lib.hid (Cur.still HC4.out hg15); clear HC4
    have RB15 := Lib.hid (BoxN.still RB4.out hg15); clear RB4
    have O15 := Lib.hid (OwnRX.still O4.out hg15); clear O4
    have X15 := Lib.hid (BoxN.still X4.out hg15); clear X4
    have hS16 : W15.cell? ⟨W2.heap.size, 0, none⟩ = some (.int .i64 L) ∧ W15.cell? ⟨W2.heap.size, 1, none⟩ = some ((.slice Av P.length cv)) := ⟨X15.out.cell 0 (by simp), X15.out.cell 1 (by simp)⟩
    refine anyU_take (i := 0) (v := .pointer (some ⟨W2.heap.size, 1, none⟩)) rfl (by kernel_rfl) (by kernel_rfl) (by kernel_rfl) (fun _ _ _ h => h) ⟨by rfl, fun w' hS' => (by obtain ⟨s1, s2⟩ := hS'; go_simp)⟩ hS16 ?_
    simp only [List.getElem_toArray, List.getElem_cons_zero, Act.put, List.setIfInBounds_toArray, List.set_cons_zero, List.set_cons_succ]
    refine anyU_take (i := 1) (v := (.slice Av P.length cv)) rfl (by kernel_rfl) (by kernel_rfl) (by kernel_rfl) (fun _ _ _ h => h) ⟨by rfl, fun w' hS' => (by obtain ⟨s1, s2⟩ := hS'; go_simp)⟩ hS16 ?_
    simp only [List.getElem_toArray, List.getElem_cons_succ, List.getElem_cons_zero, Act.put, List.setIfInBounds_toArray, List.set_cons_zero, List.set_cons_succ]
    refine anyU_take (i := 2) (v := .pointer (some ⟨W2.heap.size, 0, none⟩)) rfl (by kernel_rfl) (by kernel_rfl) (by kernel_rfl) (fun _ _ _ h => h) ⟨by rfl, fun w' hS' => (by obtain ⟨s1, s2⟩ := hS'; go_simp)⟩ hS16 ?_
    simp only [List.getElem_toArray, List.getElem_cons_succ, List.getElem_cons_zero, Act.put, List.setIfInBounds_toArray, List.set_cons_zero, List.set_cons_succ]
    refine anyU_take (i := 3) (v := .int .i64 L) rfl (by kernel_rfl) (by kernel_rfl) (by kernel_rfl) (fun _ _ _ h => h) ⟨by rfl, fun w' hS' => (by obtain ⟨s1, s2⟩ := hS'; go_simp)⟩ hS16 ?_
    simp only [List.getElem_toArray, List.getElem_cons_succ, List.getElem_cons_zero, Act.put, List.setIfInBounds_toArray, List.set_cons_zero, List.set_cons_succ]
    refine anyU_take (i := 4) (v := .int .i64 (L - 1)) rfl (by kernel_rfl) (by kernel_rfl) (by kernel_rfl) (fun _ _ _ h => h) ⟨by rfl, fun w' hS' => (by obtain ⟨s1, s2⟩ := hS'; simp [go_sem, hwl])⟩ hS16 ?_
    simp only [List.getElem_toArray, List.getElem_cons_succ, List.getElem_cons_zero, Act.put, List.setIfInBounds_toArray, List.set_cons_zero, List.set_cons_succ]
    refine anyU_take (i := 5) (v := .pointer (some ⟨g, 0, none⟩)) rfl (by kernel_rfl) (by kernel_rfl) (by kernel_rfl) (fun _ _ _ h => h) ⟨by rfl, fun w' hS' => (by obtain ⟨s1, s2⟩ := hS'; go_simp)⟩ hS16 ?_
    simp only [List.getElem_toArray, List.getElem_cons_succ, List.getElem_cons_zero, Act.put, List.setIfInBounds_toArray, List.set_cons_zero, List.set_cons_succ]
    refine anyU_take (i := 6) (v := .pointer (some ⟨W2.heap.size, 0, none⟩)) rfl (by kernel_rfl) (by kernel_rfl) (by kernel_rfl) (fun _ _ _ h => h) ⟨by rfl, fun w' hS' => (by obtain ⟨s1, s2⟩ := hS'; go_simp)⟩ hS16 ?_
    simp only [List.getElem_toArray, List.getElem_cons_succ, List.getElem_cons_zero, Act.put, List.setIfInBounds_toArray, List.set_cons_zero, List.set_cons_succ]
    refine anyU_take (i := 7) (v := .int .i64 L) rfl (by kernel_rfl) (by kernel_rfl) (by kernel_rfl) (fun _ _ _ h => h) ⟨by rfl, fun w' hS' => (by obtain ⟨s1, s2⟩ := hS'; go_simp)⟩ hS16 ?_
    simp only [List.getElem_toArray, List.getElem_cons_succ, List.getElem_cons_zero, Act.put, List.setIfInBounds_toArray, List.set_cons_zero, List.set_cons_succ]
    refine anyU_take (i := 8) (v := .pointer (some ⟨W2.heap.size, 0, none⟩)) rfl (by kernel_rfl) (by kernel_rfl) (by kernel_rfl) (fun _ _ _ h => h) ⟨by rfl, fun w' hS' => (by obtain ⟨s1, s2⟩ := hS'; go_simp)⟩ hS16 ?_
    simp only [List.getElem_toArray, List.getElem_cons_succ, List.getElem_cons_zero, Act.put, List.setIfInBounds_toArray, List.set_cons_zero, List.set_cons_succ]
    refine anyU_take (i := 9) (v := .int .i64 L) rfl (by kernel_rfl) (by kernel_rfl) (by kernel_rfl) (fun _ _ _ h => h) ⟨by rfl, fun w' hS' => (by obtain ⟨s1, s2⟩ := hS'; go_simp)⟩ hS16 ?_
    simp only [List.getElem_toArray, List.getElem_cons_succ, List.getElem_cons_zero, Act.put, List.setIfInBounds_toArray, List.set_cons_zero, List.set_cons_succ]
    refine anyU_take (i := 10) (v := .int .i64 (L - 1)) rfl (by kernel_rfl) (by kernel_rfl) (by kernel_rfl) (fun _ _ _ h => h) ⟨by rfl, fun w' hS' => (by obtain ⟨s1, s2⟩ := hS'; simp [go_sem, hwl])⟩ hS16 ?_
    simp only [List.getElem_toArray, List.getElem_cons_succ, List.getElem_cons_zero, Act.put, List.setIfInBounds_toArray, List.set_cons_zero, List.set_cons_succ]
    refine anyU_ready (rs := [11]) (by kernel_rfl) (by simp) ?_
    refine ReadyU.cons (i := 11) rfl (fun K hK => ?_) ReadyU.nil
    simp only [List.getElem_toArray, List.getElem_cons_succ, List.getElem_cons_zero]
    refine ite_is (by rfl) ?_
    simp [go_sem]
    refine hK.out _ _ ⟨fun _ => ⟨(X15.out.still (grown_alloc _ _)).cell 0 (by simp), (X15.out.still (grown_alloc _ _)).cell 1 (by simp)⟩, ?_⟩
    clear hK K hS16
    try simp only [List.getElem_toArray, List.getElem_cons_succ, List.getElem_cons_zero, Act.put, List.setIfInBounds_toArray, List.set_cons_zero, List.set_cons_succ]
    refine nameU ?_
    intro W17 HW17
    have hg17 : W15.grownBy W17 none := by rw [HW17.out]; exact grown_alloc _ _
    have hs17 := hg17.size
    have HF17 := Lib.hid (HF15.out.still hg17); clear HF15
    have C17 := Lib.hid (Cur.still C15.out hg17); clear C15
    have RB17 := Lib.hid (BoxN.still RB15.out hg17); clear RB15
    have O17 := Lib.hid (OwnRX.still O15.out hg17); clear O15
    have X17 := Lib.hid (BoxN.still X15.out hg17); clear X15
    have AL17 := Lib.hid (show IntS W17 W15.heap.size (W15.heap.size + 1) (.slice (some ⟨W15.heap.size, 0, none⟩) 3 3) [-1, L, L - 1] by rw [HW17.out]; exact IntS.newN W15 [-1, L, L - 1] _ rfl (by simp))
    have hz17 : W15.heap.size + 1 ≤ W17.heap.size := by rw [HW17.out]; simp
    clear HW17
    have hS18 : W17.cell? ⟨W2.heap.size, 0, none⟩ = some (.int .i64 L) ∧ W17.cell? ⟨W2.heap.size, 1, none⟩ = some ((.slice Av P.length cv)) := ⟨X17.out.cell 0 (by simp), X17.out.cell 1 (by simp)⟩
    refine anyU_ready (rs := [12]) (by kernel_rfl) (by simp) ?_
    refine ReadyU.cons (i := 12) rfl (fun K hK => ?_) ReadyU.nil
    simp only [List.getElem_toArray, List.getElem_cons_succ, List.getElem_cons_zero]
    refine ite_is (by rfl) ?_
    simp [go_sem]
    refine (among_any g ((k + 200) + 2) lo hi _ bs _ ([-1, L, L - 1] : List Int) W15.heap.size (W15.heap.size + 1) _ C17.out (by omega) (ByS.turned HBB.out HF17.out (by omega) (by omega)) HBY.out (by omega) (by omega) (by omega) AL17.out (by simp) (by omega) (by omega)).mono ?_
    rintro e W19 ⟨j, hj, rfl, hC19, hg19⟩
    have hs19 := hg19.size
    have HF19 := Lib.hid (HF17.out.grown hg19 (fun b e => by cases e; omega)); clear HF17
    have RB19 := Lib.hid (BoxN.far RB17.out hg19 (fun b e => by cases e; omega)); clear RB17
    have O19 := Lib.hid (OwnRX.far O17.out hg19 (fun b e => by cases e; omega)); clear O17
    have X19 := Lib.hid (BoxN.far X17.out hg19 (fun b e => by cases e; omega)); clear X17
    have HC19 := Lib.hid hC19; clear hC19 C17
    have hbd := mem_inY (zs := [-1, L, L - 1]) (lo := (-1)) (hi := 13) (by intro x hx; simp at hx; omega) hj
    obtain ⟨av, Hav⟩ : ∃ z : Int, Hid (nth [-1, L, L - 1] j = z) := ⟨_, Lib.hid rfl⟩
    rw [Hav.out] at hbd
    rw [Hav.out]
    obtain ⟨av1, av2⟩ := hbd
    clear hj Hav AL17
    have hS20 : W19.cell? ⟨W2.heap.size, 0, none⟩ = some (.int .i64 L) ∧ W19.cell? ⟨W2.heap.size, 1, none⟩ = some ((.slice Av P.length cv)) := ⟨X19.out.cell 0 (by simp), X19.out.cell 1 (by simp)⟩
    refine hK.out _ _ ⟨fun _ => hS20, ?_⟩
    clear hK K hS18
    try simp only [List.getElem_toArray, List.getElem_cons_succ, List.getElem_cons_zero, Act.put, List.setIfInBounds_toArray, List.set_cons_zero, List.set_cons_succ]
    refine anyU_ready (rs := [13]) (by kernel_rfl) (by simp) ?_
    refine ReadyU.cons (i := 13) rfl (fun K hK => ?_) ReadyU.nil
    simp only [List.getElem_toArray, List.getElem_cons_succ, List.getElem_cons_zero]
    refine ite_is (by rfl) ?_
    simp [go_sem]
    refine hK.out _ _ ⟨fun _ => ⟨(X19.out.still (grown_alloc _ _)).cell 0 (by simp), (X19.out.still (grown_alloc _ _)).cell 1 (by simp)⟩, ?_⟩
    clear hK K hS20
    try simp only [List.getElem_toArray, List.getElem_cons_succ, List.getElem_cons_zero, Act.put, List.setIfInBounds_toArray, List.set_cons_zero, List.set_cons_succ]
    refine nameU ?_
    intro W21 HW21
    have hg21 : W19.grownBy W21 none := by rw [HW21.out]; exact grown_alloc _ _
    have hs21 := hg21.size
    have HF21 := Lib.hid (HF19.out.still hg21); clear HF19
    have C21 := Lib.hid (Cur.still HC19.out hg21); clear HC19
    have RB21 := Lib.hid (BoxN.still RB19.out hg21); clear RB19
    have O21 := Lib.hid (OwnRX.still O19.out hg21); clear O19
    have X21 := Lib.hid (BoxN.still X19.out hg21); clear X19
    have NL21 := Lib.hid (show IntS W21 W19.heap.size (W19.heap.size + 1) (.slice (some ⟨W19.heap.size, 0, none⟩) 2 2) [L - 1, av] by rw [HW21.out]; exact IntS.newN W19 [L - 1, av] _ rfl (by simp))
    have hz21 : W19.heap.size + 1 ≤ W21.heap.size := by rw [HW21.out]; simp
    clear HW21
    have hS22 : W21.cell? ⟨W2.heap.size, 0, none⟩ = some (.int .i64 L) ∧ W21.cell? ⟨W2.heap.size, 1, none⟩ = some ((.slice Av P.length cv)) := ⟨X21.out.cell 0 (by simp), X21.out.cell 1 (by simp)⟩
    refine anyU_ready (rs := [14]) (by kernel_rfl) (by simp) ?_
    refine ReadyU.cons (i := 14) rfl (fun K hK => ?_) ReadyU.nil
    simp only [List.getElem_toArray, List.getElem_cons_succ, List.getElem_cons_zero]
    refine ite_is (by rfl) ?_
    simp [go_sem]
    refine nameA ?_
    intro W23 HW23
    have hg23 : W21.grownBy W23 none := by rw [HW23.out]; exact grown_alloc _ _
    have BV := Lib.hid (show BoxN W23 W21.heap.size #[.slice (some ⟨W19.heap.size, 0, none⟩) 2 2] 29 by rw [HW23.out]; exact BoxN.new _ _ _)
    have hzv : W21.heap.size < W23.heap.size := BV.out.lt
    have HNV := Lib.hid (IntS.still NL21.out hg23 (by omega))
    clear HW23 NL21
    have hs23 := hg23.size
    have HF23 := Lib.hid (HF21.out.still hg23); clear HF21
    have C23 := Lib.hid (Cur.still C21.out hg23); clear C21
    have RB23 := Lib.hid (BoxN.still RB21.out hg23); clear RB21
    have O23 := Lib.hid (OwnRX.still O21.out hg23); clear O21
    have X23 := Lib.hid (BoxN.still X21.out hg23); clear X21
    have hS24 : W23.cell? ⟨W2.heap.size, 0, none⟩ = some (.int .i64 L) ∧ W23.cell? ⟨W2.heap.size, 1, none⟩ = some ((.slice Av P.length cv)) := ⟨X23.out.cell 0 (by simp), X23.out.cell 1 (by simp)⟩
    refine hK.out _ _ ⟨fun _ => hS24, ?_⟩
    clear hK K hS22
    try simp only [List.getElem_toArray, List.getElem_cons_succ, List.getElem_cons_zero, Act.put, List.setIfInBounds_toArray, List.set_cons_zero, List.set_cons_succ]
    obtain ⟨vs, hvs, HOV, HOP⟩ := O23.out.open_
    have HOV1 := Lib.hid HOV; have HOP1 := Lib.hid HOP; clear HOV HOP
    refine anyU_ready (rs := [15]) (by kernel_rfl) (by simp) ?_
    refine ReadyU.cons (i := 15) rfl (fun K hK => ?_) ReadyU.nil
    refine step_append_own2 Try.underlying24 infoRowM rfl (by omega) (by omega) W23 (by rfl) _ (by rfl) HOV1.out (by rfl) _ (owns_box BV.out rfl 0 (Nat.zero_le _)) (by rfl) (by intro u hu; simp only [List.mem_cons, List.not_mem_nil, or_false] at hu; rcases hu with rfl; rfl) (by omega) (by omega) ?_
    intro v6 W25 ho6 hg25 hat6
    have HO6 := Lib.hid (HOP1.out W25 v6 (.slice (some ⟨W19.heap.size, 0, none⟩) 2 2) [L - 1, av] W19.heap.size (W19.heap.size + 1) HNV.out (by omega) (by omega) (.inl (by omega)) (by omega) (fun g e => .inl (by have := HLV.out g e; omega)) ho6 hg25 hat6)
    have hs25 := hg25.size
    have HF25 := Lib.hid (HF23.out.grown hg25 (fun g e => by have := HLV.out g e; have := HNE.out g e; omega)); clear HF23
    have C25 := Lib.hid (Cur.far C23.out hg25 (fun g e => by have := HLV.out g e; have := HNE.out g e; omega)); clear C23
    have RB25 := Lib.hid (BoxN.far RB23.out hg25 (fun g e => by have := HLV.out g e; have := HNE.out g e; omega)); clear RB23
    have X25 := Lib.hid (BoxN.far X23.out hg25 (fun g e => by have := HLV.out g e; have := HNE.out g e; omega)); clear X23
    obtain ⟨A6, c6, hq6, _⟩ := HO6.out.len
    simp only [List.length_append, List.length_cons, List.length_nil, Nat.zero_add] at hq6
    subst hq6
    clear ho6 hat6 HOV1 HOP1 BV HNV O23
    have hS26 : W25.cell? ⟨W2.heap.size, 0, none⟩ = some (.int .i64 L) ∧ W25.cell? ⟨W2.heap.size, 1, none⟩ = some ((.slice Av P.length cv)) := ⟨X25.out.cell 0 (by simp), X25.out.cell 1 (by simp)⟩
    refine hK.out _ _ ⟨fun _ => hS26, ?_⟩
    clear hK K hS24
    try simp only [List.getElem_toArray, List.getElem_cons_succ, List.getElem_cons_zero, Act.put, List.setIfInBounds_toArray, List.set_cons_zero, List.set_cons_succ]
    refine anyU_take (i := 16) (v := .pointer (some ⟨W2.heap.size, 1, none⟩)) rfl (by kernel_rfl) (by kernel_rfl) (by kernel_rfl) (fun _ _ _ h => h) ⟨by rfl, fun w' hS' => (by obtain ⟨s1, s2⟩ := hS'; go_simp)⟩ hS26 ?_
    simp only [List.getElem_toArray, List.getElem_cons_succ, List.getElem_cons_zero, Act.put, List.setIfInBounds_toArray, List.set_cons_zero, List.set_cons_succ]
    have kxs := X25.out.cell 1 (by simp)
    have kxf := X25.out.frozen 1
    refine anyU_ready (rs := [17]) (by kernel_rfl) (by simp) ?_
    refine ReadyU.cons (i := 17) rfl (fun K hK => ?_) ReadyU.nil
    simp only [List.getElem_toArray, List.getElem_cons_succ, List.getElem_cons_zero]
    refine ite_is (by rfl) ?_
    simp [go_sem, kxs, kxf]
    refine hK.out _ _ ⟨fun h => absurd h (by decide), ?_⟩
    clear hK K
    try simp only [List.getElem_toArray, List.getElem_cons_succ, List.getElem_cons_zero, Act.put, List.setIfInBounds_toArray, List.set_cons_zero, List.set_cons_succ]
    refine nameU ?_
    intro W27 HW27
    have hg27 : W25.grownBy W27 ((some W2.heap.size)) := by rw [HW27.out]; exact grown_set _ _ _
    have hs27 := hg27.size
    have HF27 := Lib.hid (HF25.out.grown hg27 (fun b e => by cases e; omega)); clear HF25
    have C27 := Lib.hid (Cur.far C25.out hg27 (fun b e => by cases e; omega)); clear C25
    have RB27 := Lib.hid (BoxN.far RB25.out hg27 (fun b e => by cases e; omega)); clear RB25
    have O27 := Lib.hid (OwnRX.far HO6.out hg27 (fun b e => by cases e; omega)); clear HO6
    have HX27 := Lib.hid (show BoxN W27 W2.heap.size #[.int .i64 L, (.slice A6 (P.length + 1) c6)] 26 by rw [HW27.out]; exact X25.out.set 1 _)
    clear HW27 X25 kxs kxf
    clear hS26
    refine anyU_done (by kernel_rfl) ?_ _
    have kx28_0 : W27.cell? ⟨W2.heap.size, 0, none⟩ = some (.int .i64 L) := HX27.out.cell 0 (by simp)
    have kx28_1 : W27.cell? ⟨W2.heap.size, 1, none⟩ = some ((.slice A6 (P.length + 1) c6)) := HX27.out.cell 1 (by simp)
    have kr0 : W27.cell? ⟨w.heap.size, 0, none⟩ = some (.int .i64 0) := RB27.out.cell 0 (by simp)
    have kr1 : W27.cell? ⟨w.heap.size, 1, none⟩ = some (.slice none 0 0) := RB27.out.cell 1 (by simp)
    have kf0 := RB27.out.frozen 0
    have kf1 := RB27.out.frozen 1
    have HSS := Lib.hid (O27.out.ss)
    go_wp2_with fail
    ((try simp only [Exit.inBlock, Exit.then]); refine bodyPost_ret (results_cell1Y rfl _ _ _ rfl (load_wp ((RB27.out.set 0 (.int .i64 L)).set 1 (.slice A6 (P.length + 1) c6)))) rfl ?_)
    have hg9 : W27.grownBy ((W27.setCell ⟨w.heap.size, 0, none⟩ (.int .i64 L)).setCell ⟨w.heap.size, 1, none⟩ (.slice A6 (P.length + 1) c6)) (some w.heap.size) := grownBy_setCell (p := ⟨w.heap.size, 1, none⟩) (grownBy_setCell (p := ⟨w.heap.size, 0, none⟩) (World.grownBy.refl _ _) rfl _) rfl _
    have HRES := Lib.hid (ISS.mono (ISS.far HSS.out hg9 (Nat.le_refl _) fun b e => .inl (by cases e; omega)) (show w.heap.size ≤ W1.heap.size by omega) hg9.size)
    first | exact ⟨_, _, (P ++ [[L - 1, av]]), rfl, by omega, by omega, HRES.out, Cur.mono (Cur.far C27.out hg9 (fun b e => by cases e; omega)) (by omega), turned_grown (HF27.out.grown hg9 fun b e => .inr (by cases e; exact Nat.le_refl _))⟩ | exact ⟨_, _, rfl, by omega, by omega, (P ++ [[L - 1, av]]), HRES.out, Cur.mono (Cur.far C27.out hg9 (fun b e => by cases e; omega)) (by omega), turned_grown (HF27.out.grown hg9 fun b e => .inr (by cases e; exact Nat.le_refl _))⟩
  have x2i : ¬ (x : Int) = 2 := by omega
  have x2e : ((x : Int) == 2) = false := by simp; omega
  by_cases x3 : x = 3
  case pos =>
    have kx29_0 : W4.cell? ⟨W2.heap.size, 0, none⟩ = some (.int .i64 L) := X4.out.cell 0 (by simp)
    have kx29_1 : W4.cell? ⟨W2.heap.size, 1, none⟩ = some ((.slice Av P.length cv)) := X4.out.cell 1 (by simp)
    have kxf29 := X4.out.frozen 1
    subst x3
    have HXA := Lib.hid ((X4.out.still (grown_alloc W4 (.cells #[.int .i64 0] 3))).still (grown_alloc (W4.alloc (.cells #[.int .i64 0] 3)) (.cells #[(.slice (some ⟨W4.heap.size, 0, none⟩) 1 1)] 29)))
    have kg1 : ((W4.alloc (.cells #[.int .i64 0] 3)).alloc (.cells #[(.slice (some ⟨W4.heap.size, 0, none⟩) 1 1)] 29)).cell? ⟨W2.heap.size, 1, none⟩ = some (.slice Av P.length cv) := HXA.out.cell 1 (by simp)
    have kgf := HXA.out.frozen 1
    go_upto_region 11 with (fail)
    clear kg1 kgf kx29_0 kx29_1 kxf29
    refine nameC ?_
    intro W30 HW30
    have hg30 : W4.grownBy W30 (some (W2.heap.size)) := by rw [HW30.out]; exact grownBy_trans (grown_any (grown_alloc _ _)) (grownBy_trans (grown_any (grown_alloc _ _)) (grown_set _ ⟨W2.heap.size, 1, none⟩ _))
    have hs30 := hg30.size
    have HF30 := Lib.hid (HF4.out.grown hg30 (fun b e => by cases e; omega)); clear HF4
    have C30 := Lib.hid (Cur.far HC4.out hg30 (fun b e => by cases e; omega)); clear HC4
    have RB30 := Lib.hid (BoxN.far RB4.out hg30 (fun b e => by cases e; omega)); clear RB4
    have HX30 := Lib.hid (show BoxN W30 W2.heap.size #[.int .i64 L, (.slice (some ⟨W4.heap.size + 1, 0, none⟩) 1 1)] 26 by rw [HW30.out]; exact HXA.out.set 1 _)
    have HO30 := Lib.hid (show OwnRX W30 W1.heap.size W2.heap.size 29 (.slice (some ⟨W4.heap.size + 1, 0, none⟩) 1 1) [[(0 : Int)]] by
      rw [HW30.out]
      exact OwnRX.far (OwnRX.one (w := W4.alloc (.cells #[.int .i64 0] 3)) (IntS.newN W4 [(0 : Int)] _ rfl (by simp)) _ (by omega) (by omega) (by omega) (by simp) (by simp)) (show World.grownBy _ _ (some (W2.heap.size)) from grown_set _ ⟨W2.heap.size, 1, none⟩ _) (fun b e => by cases e; exact .inr rfl))
    clear HW30 HXA X4 O4
    have kx31_0 : W30.cell? ⟨W2.heap.size, 0, none⟩ = some (.int .i64 L) := HX30.out.cell 0 (by simp)
    have kx31_1 : W30.cell? ⟨W2.heap.size, 1, none⟩ = some ((.slice (some ⟨W4.heap.size + 1, 0, none⟩) 1 1)) := HX30.out.cell 1 (by simp)
    have kr0 : W30.cell? ⟨w.heap.size, 0, none⟩ = some (.int .i64 0) := RB30.out.cell 0 (by simp)
    have kr1 : W30.cell? ⟨w.heap.size, 1, none⟩ = some (.slice none 0 0) := RB30.out.cell 1 (by simp)
    have kf0 := RB30.out.frozen 0
    have kf1 := RB30.out.frozen 1
    have HSS := Lib.hid (HO30.out.ss)
    go_wp2_with fail
    ((try simp only [Exit.inBlock, Exit.then]); refine bodyPost_ret (results_cell1Y rfl _ _ _ rfl (load_wp ((RB30.out.set 0 (.int .i64 L)).set 1 (.slice (some ⟨W4.heap.size + 1, 0, none⟩) 1 1)))) rfl ?_)
    have hg9 : W30.grownBy ((W30.setCell ⟨w.heap.size, 0, none⟩ (.int .i64 L)).setCell ⟨w.heap.size, 1, none⟩ (.slice (some ⟨W4.heap.size + 1, 0, none⟩) 1 1)) (some w.heap.size) := grownBy_setCell (p := ⟨w.heap.size, 1, none⟩) (grownBy_setCell (p := ⟨w.heap.size, 0, none⟩) (World.grownBy.refl _ _) rfl _) rfl _
    have HRES := Lib.hid (ISS.mono (ISS.far HSS.out hg9 (Nat.le_refl _) fun b e => .inl (by cases e; omega)) (show w.heap.size ≤ W1.heap.size by omega) hg9.size)
    first | exact ⟨_, _, [[(0 : Int)]], rfl, by omega, by omega, HRES.out, Cur.mono (Cur.far C30.out hg9 (fun b e => by cases e; omega)) (by omega), turned_grown (HF30.out.grown hg9 fun b e => .inr (by cases e; exact Nat.le_refl _))⟩ | exact ⟨_, _, rfl, by omega, by omega, [[(0 : Int)]], HRES.out, Cur.mono (Cur.far C30.out hg9 (fun b e => by cases e; omega)) (by omega), turned_grown (HF30.out.grown hg9 fun b e => .inr (by cases e; exact Nat.le_refl _))⟩
  have x3i : ¬ (x : Int) = 3 := by omega
  have x3e : ((x : Int) == 3) = false := by simp; omega
  have kx32_0 : W4.cell? ⟨W2.heap.size, 0, none⟩ = some (.int .i64 L) := X4.out.cell 0 (by simp)
  have kx32_1 : W4.cell? ⟨W2.heap.size, 1, none⟩ = some ((.slice Av P.length cv)) := X4.out.cell 1 (by simp)
  have kr0 : W4.cell? ⟨w.heap.size, 0, none⟩ = some (.int .i64 0) := RB4.out.cell 0 (by simp)
  have kr1 : W4.cell? ⟨w.heap.size, 1, none⟩ = some (.slice none 0 0) := RB4.out.cell 1 (by simp)
  have kf0 := RB4.out.frozen 0
  have kf1 := RB4.out.frozen 1
  have HSS := Lib.hid (O4.out.ss)
  go_wp2_with fail
  ((try simp only [Exit.inBlock, Exit.then]); refine bodyPost_ret (results_cell1Y rfl _ _ _ rfl (load_wp ((RB4.out.set 0 (.int .i64 L)).set 1 (.slice Av P.length cv)))) rfl ?_)
  have hg9 : W4.grownBy ((W4.setCell ⟨w.heap.size, 0, none⟩ (.int .i64 L)).setCell ⟨w.heap.size, 1, none⟩ (.slice Av P.length cv)) (some w.heap.size) := grownBy_setCell (p := ⟨w.heap.size, 1, none⟩) (grownBy_setCell (p := ⟨w.heap.size, 0, none⟩) (World.grownBy.refl _ _) rfl _) rfl _
  have HRES := Lib.hid (ISS.mono (ISS.far HSS.out hg9 (Nat.le_refl _) fun b e => .inl (by cases e; omega)) (show w.heap.size ≤ W1.heap.size by omega) hg9.size)
  first | exact ⟨_, _, P, rfl, by omega, by omega, HRES.out, Cur.mono (Cur.far HC4.out hg9 (fun b e => by cases e; omega)) (by omega), turned_grown (HF4.out.grown hg9 fun b e => .inr (by cases e; exact Nat.le_refl _))⟩ | exact ⟨_, _, rfl, by omega, by omega, P, HRES.out, Cur.mono (Cur.far HC4.out hg9 (fun b e => by cases e; omega)) (by omega), turned_grown (HF4.out.grown hg9 fun b e => .inr (by cases e; exact Nat.le_refl _))⟩

end Go.Proofs.Ytbfjhehhpgcelaa
