/-
  Several texts in one: PrLaw, PrV. No condition on any program.
-/
import Derived.Test.YtkcbocoimbhhaaaGreatOlB
import Derived.Test.YtkcbocoimbhhaaaGreatOlA
import Derived.Test.YtkcbocoimbhhaaaGreatOlF
import Derived.Test.YtkcbocoimbhhaaaGreatOlE

/- Contracts of the law's helpers on problems, and how a problem that came in reads. -/
namespace Go.Proofs.YtkcbocoimbhhaaaGreat
open Go.ChangeShapes Go.WideShapes Go.ChangeAt Go.RowKit Go.Joins Go.Deep
set_option linter.unusedVariables false

/-- a block of four cells, known whole -/
def Box4 (w : World) (g : Nat) (t : TypeId) (a b c d : Value) : Prop := w.heap[g]? = some (.cells #[a, b, c, d] t (0, 0))
section
variable {w w' : World} {g : Nat} {t : TypeId} {a b c d : Value}
theorem Box4.lt (h : Box4 w g t a b c d) : g < w.heap.size := (Array.getElem?_eq_some_iff.1 h).1
theorem Box4.cells (h : Box4 w g t a b c d) : w.cell? ⟨g, 0, none⟩ = some a ∧ w.cell? ⟨g, 1, none⟩ = some b ∧ w.cell? ⟨g, 2, none⟩ = some c ∧ w.cell? ⟨g, 3, none⟩ = some d := by
  refine ⟨?_, ?_, ?_, ?_⟩ <;> rw [cell_of_row w g _ _ t (0, 0) h] <;> rfl
theorem Box4.frozen (h : Box4 w g t a b c d) (i : Nat) : w.frozen? ⟨g, i, none⟩ = false := by
  have h' : w.heap[g]? = some (.cells #[a, b, c, d] t (0, 0)) := h
  simp [World.frozen?, h']
theorem Box4.new (w : World) (t : TypeId) (a b c d : Value) : Box4 (w.alloc (.cells #[a, b, c, d] t)) w.heap.size t a b c d := heap_alloc_new w _
theorem Box4.alloc (h : Box4 w g t a b c d) (o : Obj) : Box4 (w.alloc o) g t a b c d := (Below.heap_alloc w o g h.lt).trans h
theorem Box4.below {B : Nat} (h : Box4 w g t a b c d) (hb : Below B w w') (hg : g < B) : Box4 w' g t a b c d := (hb.block g hg).trans h
theorem Box4.far (h : Box4 w g t a b c d) {p : Addr} (hp : g ≠ p.block) (u : Value) : Box4 (w.setCell p u) g t a b c d := (Below.heap_setCell w p u g hp).trans h
end
theorem results_cell1P {fn : Func} {t : Tmp} {ty : TypeId} (h : fn.results = #[.cell t ty]) (tmps : Array Value) (P : Program) (w : World) {p : Addr} {v : Value} (ha : tmps.getD t undef = .pointer (some p)) (hl : (loadVar ty p).run P w = .ok v w) :
    (results fn tmps).run P w = .ok v w := by
  have ha' : tmps[t]?.getD undef = .pointer (some p) := by simpa using ha
  simp [results, h, ha', asAddr, hl]
theorem load_pr {w : World} {g : Nat} {a b c d : Value} (h : BoxN w g #[a, b, c, d] 34) : (loadVar 34 ⟨g, 0, none⟩).run Tryz.prog w = .ok (.agg #[a, b, c, d]) w := by
  have k0 : w.cell? ⟨g, 0, none⟩ = some a := h.cell 0 (by simp)
  have k1 : w.cell? ⟨g, 1, none⟩ = some b := h.cell 1 (by simp)
  have k2 : w.cell? ⟨g, 2, none⟩ = some c := h.cell 2 (by simp)
  have k3 : w.cell? ⟨g, 3, none⟩ = some d := h.cell 3 (by simp)
  unfold loadVar
  simp [go_sem, k0, k1, k2, k3]
/-- what mark leaves in a problem -/
def PrD.mk_ (k : Int) (P : PrD) : PrD := ⟨P.L, P.D, mkIntSS k P.nodes, mkIntSS (k + cntSS P.nodes) P.edges⟩

set_option maxHeartbeats 1000000 in
set_option maxRecDepth 100000 in
theorem szProblemT (v1 : Value) (P : PrD) (lo1 hi1 : Nat) (left : Int) (w : World) (h1 : Pro w lo1 hi1 v1 P) (hh1 : hi1 ≤ w.heap.size) (l0 : 0 ≤ left) (l1 : left ≤ 1048576) :
    Calls Tryz.prog 4 #[v1, .int .i64 left] w fun e w' => e = .returned (.int .i64 (szr left P.sz)) ∧ Below w.heap.size w w' := by
  have HZ := Lib.hid (show P.sz = szSS P.nodes + szSS P.edges from rfl)
  have F1 := Lib.hid h1
  obtain ⟨A1, c1, A1', c1', rfl, hc1, hd1⟩ := h1.parts
  clear h1
  obtain ⟨WA, HWA⟩ : ∃ W, Hid (W = (w.alloc (.cells #[.int .i64 P.L, .int .i64 P.D, .slice A1 P.nodes.length c1, .slice A1' P.edges.length c1'] 24))) := ⟨_, Lib.hid rfl⟩
  have hbA : Below w.heap.size w WA := by rw [HWA.out]; exact ((Below.refl _ _).alloc (Nat.le_refl _) _)
  have hsA : w.heap.size + 1 ≤ WA.heap.size := by rw [HWA.out]; simp; try omega
  have bx1 : BoxN WA (w.heap.size) #[.int .i64 P.L, .int .i64 P.D, .slice A1 P.nodes.length c1, .slice A1' P.edges.length c1'] 24 := by rw [HWA.out]; exact (BoxN.new' _ _ _ (by simp))
  have G1 := Lib.hid (Pro.below F1.out hbA hh1); clear F1
  go_enter Tryz.func4, Tryz.ntmps4
  go_upto_region 1 with (fail)
  rw [← HWA.out]; clear HWA
  have kbx1_0 : WA.cell? ⟨w.heap.size, 0, none⟩ = some (.int .i64 P.L) := bx1.cell 0 (by simp)
  have kbx1_1 : WA.cell? ⟨w.heap.size, 1, none⟩ = some (.int .i64 P.D) := bx1.cell 1 (by simp)
  have kbx1_2 : WA.cell? ⟨w.heap.size, 2, none⟩ = some (.slice A1 P.nodes.length c1) := bx1.cell 2 (by simp)
  have kbx1_3 : WA.cell? ⟨w.heap.size, 3, none⟩ = some (.slice A1' P.edges.length c1') := bx1.cell 3 (by simp)
  go_wp2_with fail
  refine (szIntSS_any _ P.nodes left _ _ _ (Pro.nodesS G1.out) l0 l1).mono ?_
  rintro e w' ⟨rfl, rfl⟩
  by_cases c1 : (szSS P.nodes : Int) ≤ left
  case neg =>
    rw [szr_neg c1]
    go_wp2_with fail
    go_ret
    have := HZ.out
    exact ⟨ret_int (szr_neg (by omega)).symm, hbA⟩
  rw [szr_pos c1]
  go_wp2_with fail
  refine (szIntSS_any _ P.edges (left - szSS P.nodes) _ _ _ (Pro.edgesS G1.out) (by omega) (by omega)).mono ?_
  rintro e w' ⟨rfl, rfl⟩
  by_cases c2 : (szSS P.edges : Int) ≤ left - szSS P.nodes
  case neg =>
    rw [szr_neg c2]
    go_wp2_with fail
    go_ret
    have := HZ.out
    exact ⟨ret_int (szr_neg (by omega)).symm, hbA⟩
  rw [szr_pos c2]
  go_wp2_with fail
  go_ret
  have := HZ.out
  exact ⟨ret_int (by rw [szr_pos (by omega)]; omega), hbA⟩

theorem szProblem_any (v : Value) (P : PrD) (left : Int) (lo hi : Nat) (w : World) (h : Pro w lo hi v P) (hhi : hi ≤ w.heap.size) (h0 : 0 ≤ left) (h1 : left ≤ 1048576) :
    Calls Tryz.prog 4 #[v, .int .i64 left] w fun e w' => e = .returned (.int .i64 (szr left P.sz)) ∧ Below w.heap.size w w' := szProblemT v P lo hi left w h hhi h0 h1
theorem szProblem_yes (v : Value) (P : PrD) (left : Int) (lo hi : Nat) (w : World) (h : Pro w lo hi v P) (hhi : hi ≤ w.heap.size) (h1 : left ≤ 1048576) (h2 : (P.sz : Int) ≤ left) :
    Calls Tryz.prog 4 #[v, .int .i64 left] w fun e w' => e = .returned (.int .i64 (left - P.sz)) ∧ Below w.heap.size w w' :=
  (szProblem_any v P left lo hi w h hhi (by omega) h1).mono fun e w' ⟨a, b⟩ => ⟨by rw [a, szr_pos h2], b⟩
theorem szProblem_no (v : Value) (P : PrD) (left : Int) (lo hi : Nat) (w : World) (h : Pro w lo hi v P) (hhi : hi ≤ w.heap.size) (h0 : 0 ≤ left) (h1 : left ≤ 1048576) (h2 : ¬ (P.sz : Int) ≤ left) :
    Calls Tryz.prog 4 #[v, .int .i64 left] w fun e w' => e = .returned (.int .i64 (-1)) ∧ Below w.heap.size w w' :=
  (szProblem_any v P left lo hi w h hhi h0 h1).mono fun e w' ⟨a, b⟩ => ⟨by rw [a, szr_neg h2], b⟩

set_option maxHeartbeats 1000000 in
set_option maxRecDepth 100000 in
theorem toProblemT (v1 : Value) (P : PrD) (lo1 hi1 : Nat) (w : World) (h1 : Pro w lo1 hi1 v1 P) (hh1 : hi1 ≤ w.heap.size) (hsz : P.sz ≤ 1048576) :
    Calls Tryz.prog 8 #[v1] w fun e w' => ∃ r, e = .returned r ∧ ProX w' w.heap.size w'.heap.size r P ∧ Below w.heap.size w w' := by
  unfold PrD.sz at hsz
  have F1 := Lib.hid h1
  obtain ⟨A1, c1, A1', c1', rfl, hc1, hd1⟩ := h1.parts
  clear h1
  obtain ⟨WA, HWA⟩ : ∃ W, Hid (W = (((w.alloc (.cells #[.int .i64 P.L, .int .i64 P.D, .slice A1 P.nodes.length c1, .slice A1' P.edges.length c1'] 24)).alloc (.cells #[.int .i64 0, .int .i64 0, .slice none 0 0, .slice none 0 0] 34)).alloc (.cells #[.int .i64 0, .int .i64 0, .slice none 0 0, .slice none 0 0] 34))) := ⟨_, Lib.hid rfl⟩
  have hbA : Below w.heap.size w WA := by rw [HWA.out]; exact ((((Below.refl _ _).alloc (Nat.le_refl _) _).alloc (by simp; try omega) _).alloc (by simp; try omega) _)
  have hsA : w.heap.size + 3 ≤ WA.heap.size := by rw [HWA.out]; simp; try omega
  have bx1 : BoxN WA (w.heap.size) #[.int .i64 P.L, .int .i64 P.D, .slice A1 P.nodes.length c1, .slice A1' P.edges.length c1'] 24 := by rw [HWA.out]; exact (((BoxN.new' _ _ _ (by simp)).still (grown_alloc _ _)).still (grown_alloc _ _))
  have bxx0 : BoxN WA (w.heap.size + 1) #[.int .i64 0, .int .i64 0, .slice none 0 0, .slice none 0 0] 34 := by rw [HWA.out]; exact ((BoxN.new' _ _ _ (by simp)).still (grown_alloc _ _))
  have bxx1 : BoxN WA (w.heap.size + 2) #[.int .i64 0, .int .i64 0, .slice none 0 0, .slice none 0 0] 34 := by rw [HWA.out]; exact (BoxN.new' _ _ _ (by simp))
  have G1 := Lib.hid (Pro.below F1.out hbA hh1); clear F1
  go_enter Tryz.func8, Tryz.ntmps8
  go_upto_region 2 with (fail)
  rw [← HWA.out]; clear HWA
  have HX1 := Lib.hid bxx0; have HX2 := Lib.hid bxx1
  have kbx1_0 : WA.cell? ⟨w.heap.size, 0, none⟩ = some (.int .i64 P.L) := bx1.cell 0 (by simp)
  have kbx1_1 : WA.cell? ⟨w.heap.size, 1, none⟩ = some (.int .i64 P.D) := bx1.cell 1 (by simp)
  have kbx1_2 : WA.cell? ⟨w.heap.size, 2, none⟩ = some (.slice A1 P.nodes.length c1) := bx1.cell 2 (by simp)
  have kbx1_3 : WA.cell? ⟨w.heap.size, 3, none⟩ = some (.slice A1' P.edges.length c1') := bx1.cell 3 (by simp)
  have kX21_0 : WA.cell? ⟨(w.heap.size + 2), 0, none⟩ = some (.int .i64 0) := HX2.out.cell 0 (by simp)
  have kX21_1 : WA.cell? ⟨(w.heap.size + 2), 1, none⟩ = some (.int .i64 0) := HX2.out.cell 1 (by simp)
  have kX21_2 : WA.cell? ⟨(w.heap.size + 2), 2, none⟩ = some (.slice none 0 0) := HX2.out.cell 2 (by simp)
  have kX21_3 : WA.cell? ⟨(w.heap.size + 2), 3, none⟩ = some (.slice none 0 0) := HX2.out.cell 3 (by simp)
  have fX21_0 := HX2.out.frozen 0
  have fX21_1 := HX2.out.frozen 1
  go_wp2_with fail
  clear kbx1_0 kbx1_1 kbx1_2 kbx1_3 kX21_0 kX21_1 kX21_2 kX21_3 fX21_0 fX21_1
  refine nameK ?_
  intro W2 HW2
  have hg2 : WA.grownBy W2 (some (w.heap.size + 2)) := by rw [HW2.out]; exact grownBy_setCell (p := ⟨(w.heap.size + 2), 1, none⟩) (grownBy_setCell (p := ⟨(w.heap.size + 2), 0, none⟩) (World.grownBy.refl _ _) rfl _) rfl _
  have hs2 := hg2.size
  have HF2 := Lib.hid ((Turned.refl (w.heap.size + 1) WA.heap.size WA).grown hg2 (fun b e => by cases e; omega))
  have X12 := Lib.hid (BoxN.far HX1.out hg2 (fun b e => by cases e; omega)); clear HX1
  have X22 := Lib.hid (show BoxN W2 (w.heap.size + 2) #[.int .i64 P.L, .int .i64 P.D, .slice none 0 0, .slice none 0 0] 34 by rw [HW2.out]; exact ((HX2.out.set 0 _).set 1 _))
  clear HW2 HX2
  refine (toIntSS_any _ P.nodes _ _ _ (Pro.nodesS (Pro.turned G1.out HF2.out (by omega) (by omega))) (by omega) (by omega)).mono ?_
  rintro e W3 ⟨r1, rfl, hr1, hb3⟩
  have hg3 := grown_below hb3; clear hb3
  have hs3 := hg3.size
  have HF3 := Lib.hid (HF2.out.still hg3); clear HF2
  have X13 := Lib.hid (BoxN.still X12.out hg3); clear X12
  have X23 := Lib.hid (BoxN.still X22.out hg3); clear X22
  obtain ⟨B1, d1, rfl⟩ := hr1.ss.shape
  have HR1 := Lib.hid hr1; clear hr1
  have kbx1_0 : W3.cell? ⟨w.heap.size, 0, none⟩ = some (.int .i64 P.L) := (HF3.out.boxN bx1 (by omega)).cell 0 (by simp)
  have kbx1_1 : W3.cell? ⟨w.heap.size, 1, none⟩ = some (.int .i64 P.D) := (HF3.out.boxN bx1 (by omega)).cell 1 (by simp)
  have kbx1_2 : W3.cell? ⟨w.heap.size, 2, none⟩ = some (.slice A1 P.nodes.length c1) := (HF3.out.boxN bx1 (by omega)).cell 2 (by simp)
  have kbx1_3 : W3.cell? ⟨w.heap.size, 3, none⟩ = some (.slice A1' P.edges.length c1') := (HF3.out.boxN bx1 (by omega)).cell 3 (by simp)
  have kX24_0 : W3.cell? ⟨(w.heap.size + 2), 0, none⟩ = some (.int .i64 P.L) := X23.out.cell 0 (by simp)
  have kX24_1 : W3.cell? ⟨(w.heap.size + 2), 1, none⟩ = some (.int .i64 P.D) := X23.out.cell 1 (by simp)
  have kX24_2 : W3.cell? ⟨(w.heap.size + 2), 2, none⟩ = some (.slice none 0 0) := X23.out.cell 2 (by simp)
  have kX24_3 : W3.cell? ⟨(w.heap.size + 2), 3, none⟩ = some (.slice none 0 0) := X23.out.cell 3 (by simp)
  have fX24_2 := X23.out.frozen 2
  go_wp2_with fail
  clear kbx1_0 kbx1_1 kbx1_2 kbx1_3 kX24_0 kX24_1 kX24_2 kX24_3 fX24_2
  refine nameK ?_
  intro W5 HW5
  have hg5 : W3.grownBy W5 (some (w.heap.size + 2)) := by rw [HW5.out]; exact grownBy_setCell (p := ⟨(w.heap.size + 2), 2, none⟩) (World.grownBy.refl _ _) rfl _
  have hs5 := hg5.size
  have HF5 := Lib.hid (HF3.out.grown hg5 (fun b e => by cases e; omega)); clear HF3
  have X15 := Lib.hid (BoxN.far X13.out hg5 (fun b e => by cases e; omega)); clear X13
  have R15 := Lib.hid (ISSx.far HR1.out hg5 (by omega) (fun b e => by cases e; omega)); clear HR1
  have X25 := Lib.hid (show BoxN W5 (w.heap.size + 2) #[.int .i64 P.L, .int .i64 P.D, .slice B1 P.nodes.length d1, .slice none 0 0] 34 by rw [HW5.out]; exact (X23.out.set 2 _))
  clear HW5 X23
  refine (toIntSS_any _ P.edges _ _ _ (Pro.edgesS (Pro.turned G1.out HF5.out (by omega) (by omega))) (by omega) (by omega)).mono ?_
  rintro e W6 ⟨r2, rfl, hr2, hb6⟩
  have hg6 := grown_below hb6; clear hb6
  have hs6 := hg6.size
  have HF6 := Lib.hid (HF5.out.still hg6); clear HF5
  have X16 := Lib.hid (BoxN.still X15.out hg6); clear X15
  have X26 := Lib.hid (BoxN.still X25.out hg6); clear X25
  have R16 := Lib.hid (ISSx.still R15.out hg6 (by omega)); clear R15
  obtain ⟨B2, d2, rfl⟩ := hr2.ss.shape
  have HR2 := Lib.hid hr2; clear hr2
  have kbx1_0 : W6.cell? ⟨w.heap.size, 0, none⟩ = some (.int .i64 P.L) := (HF6.out.boxN bx1 (by omega)).cell 0 (by simp)
  have kbx1_1 : W6.cell? ⟨w.heap.size, 1, none⟩ = some (.int .i64 P.D) := (HF6.out.boxN bx1 (by omega)).cell 1 (by simp)
  have kbx1_2 : W6.cell? ⟨w.heap.size, 2, none⟩ = some (.slice A1 P.nodes.length c1) := (HF6.out.boxN bx1 (by omega)).cell 2 (by simp)
  have kbx1_3 : W6.cell? ⟨w.heap.size, 3, none⟩ = some (.slice A1' P.edges.length c1') := (HF6.out.boxN bx1 (by omega)).cell 3 (by simp)
  have kX27_0 : W6.cell? ⟨(w.heap.size + 2), 0, none⟩ = some (.int .i64 P.L) := X26.out.cell 0 (by simp)
  have kX27_1 : W6.cell? ⟨(w.heap.size + 2), 1, none⟩ = some (.int .i64 P.D) := X26.out.cell 1 (by simp)
  have kX27_2 : W6.cell? ⟨(w.heap.size + 2), 2, none⟩ = some (.slice B1 P.nodes.length d1) := X26.out.cell 2 (by simp)
  have kX27_3 : W6.cell? ⟨(w.heap.size + 2), 3, none⟩ = some (.slice none 0 0) := X26.out.cell 3 (by simp)
  have fX27_3 := X26.out.frozen 3
  go_upto_region 6 with (fail)
  clear kbx1_0 kbx1_1 kbx1_2 kbx1_3 kX27_0 kX27_1 kX27_2 kX27_3 fX27_3
  refine nameC ?_
  intro W8 HW8
  have hg8 : W6.grownBy W8 (some (w.heap.size + 2)) := by rw [HW8.out]; exact grownBy_setCell (p := ⟨(w.heap.size + 2), 3, none⟩) (World.grownBy.refl _ _) rfl _
  have hs8 := hg8.size
  have HF8 := Lib.hid (HF6.out.grown hg8 (fun b e => by cases e; omega)); clear HF6
  have X18 := Lib.hid (BoxN.far X16.out hg8 (fun b e => by cases e; omega)); clear X16
  have R18 := Lib.hid (ISSx.far R16.out hg8 (by omega) (fun b e => by cases e; omega)); clear R16
  have R28 := Lib.hid (ISSx.far HR2.out hg8 (by omega) (fun b e => by cases e; omega)); clear HR2
  have X28 := Lib.hid (show BoxN W8 (w.heap.size + 2) #[.int .i64 P.L, .int .i64 P.D, .slice B1 P.nodes.length d1, .slice B2 P.edges.length d2] 34 by rw [HW8.out]; exact (X26.out.set 3 _))
  clear HW8 X26
  have kX29_0 : W8.cell? ⟨(w.heap.size + 2), 0, none⟩ = some (.int .i64 P.L) := X28.out.cell 0 (by simp)
  have kX29_1 : W8.cell? ⟨(w.heap.size + 2), 1, none⟩ = some (.int .i64 P.D) := X28.out.cell 1 (by simp)
  have kX29_2 : W8.cell? ⟨(w.heap.size + 2), 2, none⟩ = some (.slice B1 P.nodes.length d1) := X28.out.cell 2 (by simp)
  have kX29_3 : W8.cell? ⟨(w.heap.size + 2), 3, none⟩ = some (.slice B2 P.edges.length d2) := X28.out.cell 3 (by simp)
  have kX110_0 : W8.cell? ⟨(w.heap.size + 1), 0, none⟩ = some (.int .i64 0) := X18.out.cell 0 (by simp)
  have kX110_1 : W8.cell? ⟨(w.heap.size + 1), 1, none⟩ = some (.int .i64 0) := X18.out.cell 1 (by simp)
  have kX110_2 : W8.cell? ⟨(w.heap.size + 1), 2, none⟩ = some (.slice none 0 0) := X18.out.cell 2 (by simp)
  have kX110_3 : W8.cell? ⟨(w.heap.size + 1), 3, none⟩ = some (.slice none 0 0) := X18.out.cell 3 (by simp)
  have fX110_0 := X18.out.frozen 0
  have fX110_1 := X18.out.frozen 1
  have fX110_2 := X18.out.frozen 2
  have fX110_3 := X18.out.frozen 3
  go_wp2_with fail
  ((try simp only [Exit.inBlock, Exit.then]); refine bodyPost_ret (results_cell1P rfl _ _ _ rfl (load_pr ((((X18.out.set 0 (.int .i64 P.L)).set 1 (.int .i64 P.D)).set 2 (.slice B1 P.nodes.length d1)).set 3 (.slice B2 P.edges.length d2)))) rfl ?_)
  have hg9 : W8.grownBy ((((W8.setCell ⟨(w.heap.size + 1), 0, none⟩ (.int .i64 P.L)).setCell ⟨(w.heap.size + 1), 1, none⟩ (.int .i64 P.D)).setCell ⟨(w.heap.size + 1), 2, none⟩ (.slice B1 P.nodes.length d1)).setCell ⟨(w.heap.size + 1), 3, none⟩ (.slice B2 P.edges.length d2)) (some (w.heap.size + 1)) := grownBy_setCell (p := ⟨(w.heap.size + 1), 3, none⟩) (grownBy_setCell (p := ⟨(w.heap.size + 1), 2, none⟩) (grownBy_setCell (p := ⟨(w.heap.size + 1), 1, none⟩) (grownBy_setCell (p := ⟨(w.heap.size + 1), 0, none⟩) (World.grownBy.refl _ _) rfl _) rfl _) rfl _) rfl _
  have hs9 := hg9.size
  have hap : ∀ g, (some (w.heap.size + 1) : Option Nat) = some g → g < W2.heap.size := fun g e => by cases e; omega
  exact ⟨_, rfl, ⟨_, _, W3.heap.size, rfl, by omega, by omega, ISSx.mono (ISSx.far R18.out hg9 (by omega) (fun g e => .inl (hap g e))) (by omega) (Nat.le_refl _), ISSx.mono (ISSx.far R28.out hg9 (by omega) (fun g e => .inl (by have := hap g e; omega))) (by omega) (by omega)⟩, (HF8.out.grown hg9 fun g e => .inl (by cases e; omega)).below_of hbA (by omega) (by omega)⟩

theorem toProblem_any (v : Value) (P : PrD) (lo hi : Nat) (w : World) (h : Pro w lo hi v P) (hhi : hi ≤ w.heap.size) (hsz : P.sz ≤ 1048576) :
    Calls Tryz.prog 8 #[v] w fun e w' => ∃ r, e = .returned r ∧ ProX w' w.heap.size w'.heap.size r P ∧ Below w.heap.size w w' := toProblemT v P lo hi w h hhi hsz

set_option maxHeartbeats 1000000 in
set_option maxRecDepth 100000 in
theorem eqProblemT (v1 : Value) (P : PrD) (lo1 hi1 : Nat) (v2 : Value) (Q : PrD) (lo2 hi2 : Nat) (w : World) (h1 : Pro w lo1 hi1 v1 P) (hh1 : hi1 ≤ w.heap.size) (h2 : Pro w lo2 hi2 v2 Q) (hh2 : hi2 ≤ w.heap.size) (hpq : P = Q) :
    Calls Tryz.prog 13 #[v1, v2] w fun e w' => e = .returned (.bool true) ∧ Below w.heap.size w w' := by
  subst hpq
  have F1 := Lib.hid h1; have F2 := Lib.hid h2
  obtain ⟨A1, c1, A1', c1', rfl, hc1, hd1⟩ := h1.parts
  obtain ⟨A2, c2, A2', c2', rfl, hc2, hd2⟩ := h2.parts
  clear h1 h2
  obtain ⟨WA, HWA⟩ : ∃ W, Hid (W = ((w.alloc (.cells #[.int .i64 P.L, .int .i64 P.D, .slice A1 P.nodes.length c1, .slice A1' P.edges.length c1'] 34)).alloc (.cells #[.int .i64 P.L, .int .i64 P.D, .slice A2 P.nodes.length c2, .slice A2' P.edges.length c2'] 34))) := ⟨_, Lib.hid rfl⟩
  have hbA : Below w.heap.size w WA := by rw [HWA.out]; exact ((Below.refl _ _).alloc (Nat.le_refl _) _).alloc (by simp) _
  have hsA : w.heap.size + 2 ≤ WA.heap.size := by rw [HWA.out]; simp
  have bx1 : BoxN WA w.heap.size #[.int .i64 P.L, .int .i64 P.D, .slice A1 P.nodes.length c1, .slice A1' P.edges.length c1'] 34 := by rw [HWA.out]; exact (BoxN.new' _ _ _ rfl).still (grown_alloc _ _)
  have bx2 : BoxN WA (w.heap.size + 1) #[.int .i64 P.L, .int .i64 P.D, .slice A2 P.nodes.length c2, .slice A2' P.edges.length c2'] 34 := by rw [HWA.out]; exact BoxN.new' _ _ _ (by simp)
  have G1 := Lib.hid (Pro.below F1.out hbA hh1); have G2 := Lib.hid (Pro.below F2.out hbA hh2)
  clear F1 F2
  go_enter Tryz.func13, Tryz.ntmps13
  go_upto_region 1 with (fail)
  rw [← HWA.out]; clear HWA
  have hn1 : (P.L != P.L) = false := by simp
  have hn2 : (P.D != P.D) = false := by simp
  have kbx1_0 : WA.cell? ⟨w.heap.size, 0, none⟩ = some (.int .i64 P.L) := bx1.cell 0 (by simp)
  have kbx1_1 : WA.cell? ⟨w.heap.size, 1, none⟩ = some (.int .i64 P.D) := bx1.cell 1 (by simp)
  have kbx1_2 : WA.cell? ⟨w.heap.size, 2, none⟩ = some (.slice A1 P.nodes.length c1) := bx1.cell 2 (by simp)
  have kbx1_3 : WA.cell? ⟨w.heap.size, 3, none⟩ = some (.slice A1' P.edges.length c1') := bx1.cell 3 (by simp)
  have kbx2_0 : WA.cell? ⟨w.heap.size + 1, 0, none⟩ = some (.int .i64 P.L) := bx2.cell 0 (by simp)
  have kbx2_1 : WA.cell? ⟨w.heap.size + 1, 1, none⟩ = some (.int .i64 P.D) := bx2.cell 1 (by simp)
  have kbx2_2 : WA.cell? ⟨w.heap.size + 1, 2, none⟩ = some (.slice A2 P.nodes.length c2) := bx2.cell 2 (by simp)
  have kbx2_3 : WA.cell? ⟨w.heap.size + 1, 3, none⟩ = some (.slice A2' P.edges.length c2') := bx2.cell 3 (by simp)
  go_wp2_with fail
  clear kbx1_0 kbx1_1 kbx1_2 kbx1_3 kbx2_0 kbx2_1 kbx2_2 kbx2_3
  refine (eqIntSS_same _ _ P.nodes _ _ _ _ _ (Pro.nodesS G1.out) (Pro.nodesS G2.out) (by omega) (by omega)).mono ?_
  rintro e W1 ⟨rfl, hb1⟩
  have hg1 := grown_below hb1; clear hb1
  have hs1 := hg1.size
  have HF1 := Lib.hid ((Turned.refl WA.heap.size WA.heap.size WA).still hg1)
  have kbx1_0 : W1.cell? ⟨w.heap.size, 0, none⟩ = some (.int .i64 P.L) := (HF1.out.boxN bx1 (by omega)).cell 0 (by simp)
  have kbx1_1 : W1.cell? ⟨w.heap.size, 1, none⟩ = some (.int .i64 P.D) := (HF1.out.boxN bx1 (by omega)).cell 1 (by simp)
  have kbx1_2 : W1.cell? ⟨w.heap.size, 2, none⟩ = some (.slice A1 P.nodes.length c1) := (HF1.out.boxN bx1 (by omega)).cell 2 (by simp)
  have kbx1_3 : W1.cell? ⟨w.heap.size, 3, none⟩ = some (.slice A1' P.edges.length c1') := (HF1.out.boxN bx1 (by omega)).cell 3 (by simp)
  have kbx2_0 : W1.cell? ⟨w.heap.size + 1, 0, none⟩ = some (.int .i64 P.L) := (HF1.out.boxN bx2 (by omega)).cell 0 (by simp)
  have kbx2_1 : W1.cell? ⟨w.heap.size + 1, 1, none⟩ = some (.int .i64 P.D) := (HF1.out.boxN bx2 (by omega)).cell 1 (by simp)
  have kbx2_2 : W1.cell? ⟨w.heap.size + 1, 2, none⟩ = some (.slice A2 P.nodes.length c2) := (HF1.out.boxN bx2 (by omega)).cell 2 (by simp)
  have kbx2_3 : W1.cell? ⟨w.heap.size + 1, 3, none⟩ = some (.slice A2' P.edges.length c2') := (HF1.out.boxN bx2 (by omega)).cell 3 (by simp)
  go_wp2_with fail
  clear kbx1_0 kbx1_1 kbx1_2 kbx1_3 kbx2_0 kbx2_1 kbx2_2 kbx2_3
  refine (eqIntSS_same _ _ P.edges _ _ _ _ _ (Pro.edgesS (Pro.turned G1.out HF1.out (by omega) (by omega))) (Pro.edgesS (Pro.turned G2.out HF1.out (by omega) (by omega))) (by omega) (by omega)).mono ?_
  rintro e W2 ⟨rfl, hb2⟩
  have hg2 := grown_below hb2; clear hb2
  have hs2 := hg2.size
  have HF2 := Lib.hid (HF1.out.still hg2); clear HF1
  go_wp2_with fail
  go_ret
  exact ⟨rfl, (HF2.out.below_of hbA (by omega) (by omega))⟩

theorem eqProblem_same (v1 v2 : Value) (P : PrD) (lo1 hi1 lo2 hi2 : Nat) (w : World) (h1 : Pro w lo1 hi1 v1 P) (h2 : Pro w lo2 hi2 v2 P) (hh1 : hi1 ≤ w.heap.size) (hh2 : hi2 ≤ w.heap.size) :
    Calls Tryz.prog 13 #[v1, v2] w fun e w' => e = .returned (.bool true) ∧ Below w.heap.size w w' := eqProblemT v1 P lo1 hi1 v2 P lo2 hi2 w h1 hh1 h2 hh2 rfl

set_option maxHeartbeats 1000000 in
set_option maxRecDepth 100000 in
theorem markProblemT (v1 : Value) (P : PrD) (lo1 hi1 : Nat) (k : Int) (w : World) (h1 : ProX w lo1 hi1 v1 P) (hh1 : hi1 ≤ w.heap.size) (hk0 : 0 ≤ k) (hk1 : k ≤ 1073741824) (hn : P.cnt ≤ 1073741824) :
    Calls Tryz.prog 15 #[v1, .int .i64 k] w fun e w' => e = .returned (.int .i64 (k + P.cnt)) ∧ ProX w' lo1 hi1 v1 (P.mk_ k) ∧ Turned lo1 hi1 w w' := by
  obtain ⟨A, c, A2, c2, m, rfl, m1, m2, hn0, he0⟩ := h1.parts
  have hz : P.cnt = cntSS P.nodes + cntSS P.edges := rfl
  rw [hz] at hn
  have HZ := Lib.hid hz; clear hz
  have HN := Lib.hid hn0; have HE := Lib.hid he0
  clear hn0 he0 h1
  obtain ⟨A', c', e1, hc, hd⟩ := SS.dims HN.out.ss
  cases e1
  obtain ⟨A2', c2', e1, hc2, hd2⟩ := SS.dims HE.out.ss
  cases e1
  go_enter Tryz.func15, Tryz.ntmps15
  go_wp2_with fail
  obtain ⟨W0, HW0⟩ : ∃ W0, Hid (W0 = w.alloc (.cells #[.int .i64 P.L, .int .i64 P.D, .slice A P.nodes.length c, .slice A2 P.edges.length c2] 34)) := ⟨_, Lib.hid rfl⟩
  rw [← HW0.out]
  have hb0 : Below w.heap.size w W0 := by rw [HW0.out]; exact below_a1 _ _
  have hs0 : w.heap.size + 1 ≤ W0.heap.size := by rw [HW0.out]; simp
  have b0 : BoxN W0 w.heap.size #[.int .i64 P.L, .int .i64 P.D, .slice A P.nodes.length c, .slice A2 P.edges.length c2] 34 := by rw [HW0.out]; exact BoxN.new _ _ _
  have N1 := Lib.hid (ISSx.below HN.out hb0 (by omega))
  have E1 := Lib.hid (ISSx.below HE.out hb0 (by omega))
  clear HW0
  refine (markIntSS_any _ P.nodes _ lo1 m _ N1.out (by omega) (by omega) (by omega) (by omega)).mono ?_
  rintro e w2 ⟨rfl, hr2, ht2⟩
  have hs2 := ht2.size
  have R2 := Lib.hid hr2
  have a0 : BoxN w2 w.heap.size #[.int .i64 P.L, .int .i64 P.D, .slice A P.nodes.length c, .slice A2 P.edges.length c2] 34 := (ht2.block _ (by omega) (by omega)).trans b0
  have T2 := (Turned.of_below hb0 (Nat.le_refl _)).trans (ht2.mono (Nat.le_refl _) m2)
  have E2 := Lib.hid (ISSx.turned E1.out ht2 (by omega) (by omega))
  clear hr2 ht2 E1 b0 hb0 N1
  have e0 : w2.cell? ⟨w.heap.size, 3, none⟩ = some (.slice A2 P.edges.length c2) := a0.cell 3 (by simp)
  go_wp2_with fail
  clear e0
  refine (markIntSS_any _ P.edges _ m hi1 _ E2.out (by omega) (by omega) (by omega) (by omega)).mono ?_
  rintro e w3 ⟨rfl, hr3, ht3⟩
  go_wp2_with fail
  go_ret
  have hzz := HZ.out
  refine ⟨ret_int (by omega), ⟨_, _, m, rfl, m1, m2, ?_, hr3⟩, T2.trans (ht3.mono m1 (Nat.le_refl _))⟩
  exact ISSx.turned R2.out ht3 (by omega) (by omega)

theorem markProblem_any (v : Value) (P : PrD) (k : Int) (lo hi : Nat) (w : World) (h : ProX w lo hi v P) (hhi : hi ≤ w.heap.size) (hk0 : 0 ≤ k) (hk1 : k ≤ 1073741824) (hn : P.cnt ≤ 1073741824) :
    Calls Tryz.prog 15 #[v, .int .i64 k] w fun e w' => e = .returned (.int .i64 (k + P.cnt)) ∧ ProX w' lo hi v (P.mk_ k) ∧ Turned lo hi w w' := markProblemT v P lo hi k w h hhi hk0 hk1 hn

section
variable {H : Type} {enc : TypeId × Value → H} {W : World}
set_option maxRecDepth 100000 in
theorem open_Pro {r : Reach} {b0 : Nat} {v : Value} {d : DataW H} {p : List MemPlace}
    (hv : Value.okWide Tryz.prog W r b0 24 v) (h : DataW.Trod enc Tryz.prog W 0 (fun _ => true) true 24 v d p) (hfz : W.noneFrozen p) :
    ∃ P, Pro W 0 W.heap.size v P ∧ P.Ok := by
  obtain ⟨v0, v1, v2, v3, y0, y1, y2, y3, n, rfl, rfl, rfl, h0, h1, h2, h3⟩ := open_agg4 Tryz.underlying24 (by kernel_rfl) (by kernel_rfl) hv h
  have z2 : W.noneFrozen y2.2 := fun b off hb => hfz b off (by simp [hb])
  have z3 : W.noneFrozen y3.2 := fun b off hb => hfz b off (by simp [hb])
  obtain ⟨x, ex, _, wx⟩ := DataW.trod_int Tryz.underlying3 h0
  simp only [List.cons.injEq, and_true] at ex
  subst ex
  obtain ⟨y, ey, _, wy⟩ := DataW.trod_int Tryz.underlying3 h1
  simp only [List.cons.injEq, and_true] at ey
  subst ey
  obtain ⟨ns, n1, n2⟩ := open_SS_trod (R := IntS) (Q := fun l => ∀ z ∈ l, I64 z) Tryz.underlying22 (by kernel_rfl) (fun fuel v x hx hz => open_IntS_trod Tryz.underlying26 Tryz.underlying3 (by kernel_rfl) hx hz) h2 z2
  obtain ⟨es, e1, e2⟩ := open_SS_trod (R := IntS) (Q := fun l => ∀ z ∈ l, I64 z) Tryz.underlying22 (by kernel_rfl) (fun fuel v x hx hz => open_IntS_trod Tryz.underlying26 Tryz.underlying3 (by kernel_rfl) hx hz) h3 z3
  exact ⟨⟨x, y, ns, es⟩, ⟨v2, v3, rfl, n1, e1⟩, ⟨I64.of_wf wx, I64.of_wf wy, n2, e2⟩⟩
end

end Go.Proofs.YtkcbocoimbhhaaaGreat

/- Contracts of OrientedLabeling in the form that its law asks for; how many labels there are. -/
namespace Go.Proofs.YtkcbocoimbhhaaaGreat
open Go.ChangeShapes Go.WideShapes Go.ChangeAt Go.RowKit
set_option linter.unusedVariables false

theorem sum_le_map {α : Type} {f g : α → Nat} (h : ∀ x, g x ≤ f x) : ∀ l : List α, (l.map g).sum ≤ (l.map f).sum
  | [] => Nat.le_refl _
  | x :: l => by
    have := sum_le_map h l
    have := h x
    simp only [List.map_cons, List.sum_cons]
    omega
theorem olL_cnt (P : PrD) (N : NetD) (o : List (List Int)) : cntSS (olL P N o) ≤ cntSS o := by
  unfold olL
  split
  · unfold cntSS sumL
    rw [List.take_length, List.take_length, List.map_map]
    refine sum_le_map (fun row => ?_) o
    show ((rowO P ((zoS P).getD 0) row).getD []).length ≤ row.length
    cases h : rowO P ((zoS P).getD 0) row with
    | none => simp
    | some l =>
      have := firstC_len h
      simp only [Option.getD_some]
      simp at this
      omega
  · show 0 ≤ _; omega
theorem PrD.cnt_le (P : PrD) : P.cnt ≤ P.sz := by unfold PrD.cnt PrD.sz szSS; omega

theorem OrientedLabeling_impl (v1 : Value) (P : PrD) (lo1 hi1 : Nat) (v2 : Value) (N : NetD) (lo2 hi2 : Nat) (v3 : Value) (o : List (List Int)) (lo3 hi3 : Nat) (w : World) (h1 : Pro w lo1 hi1 v1 P) (hh1 : hi1 ≤ w.heap.size) (h2 : Net w lo2 hi2 v2 N) (hh2 : hi2 ≤ w.heap.size) (h3 : IntSS w lo3 hi3 v3 o) (hh3 : hi3 ≤ w.heap.size) (z1 : P.sz ≤ 1048576) (z2 : N.sz ≤ 1048576) (z3 : szSS o ≤ 1048576) (i1 : P.Ok) (i2 : N.Ok) (i3 : ∀ l ∈ o, ∀ z ∈ l, I64 z) :
    Calls Tryz.prog 11 #[v1, v2, v3] w fun e w' => ∃ r, e = .returned (.tuple #[r, .bool (olOk P N o)]) ∧ IntSSx w' w.heap.size w'.heap.size r (olL P N o) ∧ Below w.heap.size w w' :=
  OrientedLabeling_any v1 P lo1 hi1 v2 N lo2 hi2 v3 o lo3 hi3 w h1 hh1 h2 hh2 h3 hh3 z2

theorem OrientedLabeling_spec (v1 : Value) (P : PrD) (lo1 hi1 : Nat) (v2 : Value) (N : NetD) (lo2 hi2 : Nat) (v3 : Value) (o : List (List Int)) (lo3 hi3 : Nat) (w : World) (h1 : Pro w lo1 hi1 v1 P) (hh1 : hi1 ≤ w.heap.size) (h2 : Net w lo2 hi2 v2 N) (hh2 : hi2 ≤ w.heap.size) (h3 : IntSS w lo3 hi3 v3 o) (hh3 : hi3 ≤ w.heap.size) (z1 : P.sz ≤ 1048576) (z2 : N.sz ≤ 1048576) (z3 : szSS o ≤ 1048576) (i1 : P.Ok) (i2 : N.Ok) (i3 : ∀ l ∈ o, ∀ z ∈ l, I64 z) :
    Calls Tryz.prog 7 #[v1, v2, v3] w fun e w' => ∃ r, e = .returned (.tuple #[r, .bool (olOk P N o)]) ∧ IntSSx w' w.heap.size w'.heap.size r (olL P N o) ∧ Below w.heap.size w w' :=
  OrientedLabeling_ref v1 P lo1 hi1 v2 N lo2 hi2 v3 o lo3 hi3 w h1 hh1 h2 hh2 h3 hh3 z2

end Go.Proofs.YtkcbocoimbhhaaaGreat
