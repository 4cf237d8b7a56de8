/-
  Contracts of the laws' helpers on tables, and how a table that came in reads.
-/
import Derived.Test.YtlfdhhmccjkogaaRowS
import Derived.Test.YtlfdhhmccjkogaaEnds
import Derived.Test.YtlfdhhmccjkogaaReg
import Derived.Test.YtlfdhhmccjkogaaFrame0
import Derived.Outline
import Derived.Deep.Cut
import Derived.IntWalk
import Derived.Deep.Slices
import Derived.Deep.Fields
import Derived.Lib.SmallJoins
namespace Go.Proofs.Ytlfdhhmccjkogaa
open Go.ChangeShapes Go.WideShapes Go.ChangeAt Go.RowKit Go.Joins Go.Deep
set_option linter.unusedVariables false

/-- a block of two cells, known whole -/
def Box2 (w : World) (g : Nat) (t : TypeId) (a b : Value) : Prop := w.heap[g]? = some (.cells #[a, b] t (0, 0))
section
variable {w w' : World} {g : Nat} {t : TypeId} {a b : Value}
theorem Box2.lt (h : Box2 w g t a b) : g < w.heap.size := (Array.getElem?_eq_some_iff.1 h).1
theorem Box2.cells (h : Box2 w g t a b) : w.cell? ⟨g, 0, none⟩ = some a ∧ w.cell? ⟨g, 1, none⟩ = some b := by
  refine ⟨?_, ?_⟩ <;> rw [cell_of_row w g _ _ t (0, 0) h] <;> rfl
theorem Box2.frozen (h : Box2 w g t a b) (i : Nat) : w.frozen? ⟨g, i, none⟩ = false := by
  have h' : w.heap[g]? = some (.cells #[a, b] t (0, 0)) := h
  simp [World.frozen?, h']
theorem Box2.new (w : World) (t : TypeId) (a b : Value) : Box2 (w.alloc (.cells #[a, b] t)) w.heap.size t a b := heap_alloc_new w _
theorem Box2.alloc (h : Box2 w g t a b) (o : Obj) : Box2 (w.alloc o) g t a b := (Below.heap_alloc w o g h.lt).trans h
theorem Box2.below {B : Nat} (h : Box2 w g t a b) (hb : Below B w w') (hg : g < B) : Box2 w' g t a b := (hb.block g hg).trans h
theorem Box2.far (h : Box2 w g t a b) {p : Addr} (hp : g ≠ p.block) (u : Value) : Box2 (w.setCell p u) g t a b := (Below.heap_setCell w p u g hp).trans h
theorem Box2.set0 (h : Box2 w g t a b) (u : Value) : Box2 (w.setCell ⟨g, 0, none⟩ u) g t u b := by
  have h' : w.heap[g]? = some (.cells #[a, b] t (0, 0)) := h
  simp [Box2, World.setCell, Array.getElem?_modify, h']
theorem Box2.set1 (h : Box2 w g t a b) (u : Value) : Box2 (w.setCell ⟨g, 1, none⟩ u) g t a u := by
  have h' : w.heap[g]? = some (.cells #[a, b] t (0, 0)) := h
  simp [Box2, World.setCell, Array.getElem?_modify, h']
end

theorem szRow_any (s : ByteArray) (o left : Int) (w : World) (h0 : 0 ≤ left) (h1 : left ≤ 1048576) (hs : s.size ≤ maxLen) :
    Calls Try.prog 22 #[.agg #[.string s, .int .i64 o], .int .i64 left] w fun e w' => e = .returned (.int .i64 (szr left s.size)) ∧ Below w.heap.size w w' := by
  unfold maxLen at hs
  by_cases hl : (s.size : Int) ≤ left
  · have : ¬ left - s.size < 0 := by omega
    go_enter Try.func22, Try.ntmps22
    go_wp2
    go_ret
    exact ⟨ret_int (by unfold szr; rw [if_pos hl]), below_a1 _ _⟩
  · have : left - s.size < 0 := by omega
    go_enter Try.func22, Try.ntmps22
    go_wp2
    go_ret
    exact ⟨ret_int (by unfold szr; rw [if_neg (by omega)]), below_a1 _ _⟩
theorem szr_lt {left : Int} {a b : Nat} (h : (a : Int) ≤ left) : szr (left - a) b = szr left (a + b) := by unfold szr; split <;> split <;> omega

set_option maxHeartbeats 1000000 in
theorem szRowS_any (v : Value) (zs : List (ByteArray × Int)) (left : Int) (lo hi : Nat) (w : World) (h : RowS w lo hi v zs) (hhi : hi ≤ w.heap.size) (h0 : 0 ≤ left) (h1 : left ≤ 1048576) (hok : rowsOk zs) :
    Calls Try.prog 11 #[v, .int .i64 left] w fun e w' => e = .returned (.int .i64 (szr left (szR zs))) ∧ Below w.heap.size w w' := by
  obtain ⟨A, c, rfl, hc1, hc2, hcell⟩ := h.form
  have HC := Lib.hid hcell; have HOK := Lib.hid hok
  have HH := Lib.hid h
  clear hcell hok h
  unfold maxLen at hc2
  by_cases hl : (zs.length : Int) ≤ left
  case neg =>
    have : left - zs.length < 0 := by omega
    go_enter Try.func11, Try.ntmps11
    go_wp2
    go_ret
    exact ⟨ret_int (by unfold szr szR; rw [if_neg (by omega)]), Below.refl _ _⟩
  have : ¬ left - zs.length < 0 := by omega
  go_enter Try.func11, Try.ntmps11
  go_wp2
  go_loopw [5, 1] (fun i x wr => ∃ k : Nat, k ≤ zs.length ∧ i = .int .i64 k ∧ x = .int .i64 (left - zs.length - sumB zs k) ∧ Hid ((sumB zs k : Int) ≤ left - zs.length) ∧ Below w.heap.size w wr) (fun i _ _ => zs.length - (intOf i).toNat)
  case atStart => exact ⟨0, Nat.zero_le _, rfl, by rw [sumB_zero]; simp, Lib.hid (by rw [sumB_zero]; omega), Below.refl _ _⟩
  case round =>
    obtain ⟨k, hk, rfl, rfl, HSU, hb⟩ := hrel
    by_cases hlt : k < zs.length
    · obtain ⟨b, off, rfl, hb1, hb2, hcs⟩ := HC.out (by omega)
      obtain ⟨x1, x2⟩ := hcs k hlt
      have p1 := (hb.cell (p := ⟨b, off + k * 2, none⟩) (by show b < _; omega)).trans x1
      have p2 := (hb.cell (p := ⟨b, off + k * 2 + 1, none⟩) (by show b < _; omega)).trans x2
      clear hcs x1 x2
      have hsu := HSU.out
      have hsz := (HOK.out _ (nthR_mem hlt)).1
      obtain ⟨s, HS⟩ : ∃ s, Hid ((nthR zs k).1 = s) := ⟨_, Lib.hid rfl⟩
      obtain ⟨o, HO⟩ : ∃ o, Hid ((nthR zs k).2 = o) := ⟨_, Lib.hid rfl⟩
      obtain ⟨m, HM⟩ : ∃ m, Hid (sumB zs k = m) := ⟨_, Lib.hid rfl⟩
      have HSS := Lib.hid (show sumB zs (k + 1) = m + s.size by rw [sumB_succ zs k hlt, HM.out, HS.out])
      have HMO := Lib.hid (sumB_mono zs (show k + 1 ≤ zs.length by omega) (Nat.le_refl _))
      rw [HS.out] at p1 hsz
      rw [HO.out] at p2
      rw [HM.out] at hsu ⊢
      clear HSU
      by_cases hle : (s.size : Int) ≤ left - zs.length - m
      case neg =>
        go_wp2_with fail
        refine (szRow_any s o _ _ (by omega) (by omega) hsz).mono ?_
        rintro e w1 ⟨rfl, hbq⟩
        rw [show szr (left - zs.length - m) s.size = -1 by unfold szr; rw [if_neg (by omega)]]
        go_wp2_with fail
        go_ret
        have q1 := HSS.out
        have q2 := HMO.out
        exact ⟨ret_int (by unfold szr szR; rw [if_neg (by omega)]), hb.trans (hbq.mono hb.size)⟩
      go_wp2_with fail
      refine (szRow_any s o _ _ (by omega) (by omega) hsz).mono ?_
      rintro e w1 ⟨rfl, hbq⟩
      rw [show szr (left - zs.length - m) s.size = left - zs.length - m - s.size by unfold szr; rw [if_pos (by omega)]]
      have hnn : ¬ left - zs.length - m - s.size < 0 := by omega
      clear p1 p2
      go_wp2_with fail
      go_roundw
      case rel => exact ⟨k + 1, by omega, by go_num, by rw [HSS.out]; congr 1; omega, Lib.hid (by rw [HSS.out]; omega), hb.trans (hbq.mono hb.size)⟩
      case measure => simp [intOf]; omega
    · obtain rfl : k = zs.length := by omega
      have hsu := HSU.out
      go_wp2_with fail
      go_ret
      exact ⟨ret_int (by unfold szr szR; rw [if_pos (by omega)]; omega), hb⟩
set_option maxHeartbeats 1000000 in
theorem szTable_any (v : Value) (D : TabD) (left : Int) (lo hi : Nat) (w : World) (h : Tab w lo hi v D) (hhi : hi ≤ w.heap.size) (h0 : 0 ≤ left) (h1 : left ≤ 1048576) (hok : D.Ok) :
    Calls Try.prog 4 #[v, .int .i64 left] w fun e w' => e = .returned (.int .i64 (szr left D.sz)) ∧ Below w.heap.size w w' := by
  obtain ⟨A, c, rfl, h⟩ := h
  have HR := Lib.hid (h.below (below_a1 w (.cells #[.int .i64 D.depth, .slice A D.rows.length c] 24)) hhi)
  have HOK := Lib.hid hok
  clear h hok
  go_enter Try.func4, Try.ntmps4
  go_wp2_with fail
  refine (szRowS_any _ D.rows _ lo hi _ HR.out (by simp; omega) h0 h1 HOK.out.2).mono ?_
  rintro e w' ⟨rfl, hb⟩
  have hb2 := (below_a1 w (.cells #[.int .i64 D.depth, .slice A D.rows.length c] 24)).trans (hb.mono (by simp))
  by_cases c1 : (szR D.rows : Int) ≤ left
  case neg =>
    have hz : szr left (szR D.rows) = -1 := by unfold szr; rw [if_neg c1]
    have HZ := Lib.hid (show szr left D.sz = -1 from hz)
    rw [hz]
    clear hz
    go_wp2_with fail
    go_ret
    exact ⟨ret_int HZ.out.symm, hb2⟩
  have hz : szr left (szR D.rows) = left - szR D.rows := by unfold szr; rw [if_pos c1]
  have HZ := Lib.hid (show szr left D.sz = left - szR D.rows from hz)
  rw [hz]
  have hnn : ¬ left - szR D.rows < 0 := by omega
  clear hz
  go_wp2_with fail
  go_ret
  exact ⟨ret_int HZ.out.symm, hb2⟩
theorem szTable_yes (v : Value) (D : TabD) (left : Int) (lo hi : Nat) (w : World) (h : Tab w lo hi v D) (hok : D.Ok) (hhi : hi ≤ w.heap.size) (h1 : left ≤ 1048576) (h2 : (D.sz : Int) ≤ left) :
    Calls Try.prog 4 #[v, .int .i64 left] w fun e w' => e = .returned (.int .i64 (left - D.sz)) ∧ Below w.heap.size w w' :=
  (szTable_any v D left lo hi w h hhi (by omega) h1 hok).mono fun e w' ⟨a, b⟩ => ⟨by rw [a]; unfold szr; rw [if_pos h2], b⟩
theorem szTable_no (v : Value) (D : TabD) (left : Int) (lo hi : Nat) (w : World) (h : Tab w lo hi v D) (hok : D.Ok) (hhi : hi ≤ w.heap.size) (h0 : 0 ≤ left) (h1 : left ≤ 1048576) (h2 : ¬ (D.sz : Int) ≤ left) :
    Calls Try.prog 4 #[v, .int .i64 left] w fun e w' => e = .returned (.int .i64 (-1)) ∧ Below w.heap.size w w' :=
  (szTable_any v D left lo hi w h hhi h0 h1 hok).mono fun e w' ⟨a, b⟩ => ⟨by rw [a]; unfold szr; rw [if_neg h2], b⟩

theorem toRow_any (s : ByteArray) (o : Int) (w : World) :
    Calls Try.prog 26 #[.agg #[.string s, .int .i64 o]] w fun e w' => e = .returned (.agg #[.string s, .int .i64 o]) ∧ Below w.heap.size w w' := by
  go_enter Try.func26, Try.ntmps26
  go_wp2
  exact bodyPost_ret (v := .agg #[.string s, .int .i64 o]) (by simp [results, Try.results26, go_sem]) rfl ⟨rfl, below_a3 _ _ _ _⟩
theorem Try.info38 : (Try.prog.info? 38).map (fun i => (i.zero, i.size, i.bytes)) = some (some (.agg #[.string ByteArray.empty, .int .i64 0]), 2, 24) := by kernel_rfl

set_option maxHeartbeats 1000000 in
theorem toRowS_any (v : Value) (zs : List (ByteArray × Int)) (lo hi : Nat) (w : World) (h : RowS w lo hi v zs) (hhi : hi ≤ w.heap.size) (hn : zs.length ≤ 16777216) :
    Calls Try.prog 15 #[v] w fun e w' => ∃ r, e = .returned r ∧ RowS w' w.heap.size w'.heap.size r zs ∧ Below w.heap.size w w' := by
  obtain ⟨A, c, rfl, hc1, hc2, hcell⟩ := h.form
  have hmk := fun W => make_rows (P := Try.prog) 26 38 Try.underlying26 Try.info38 zs.length (by omega) W
  go_enter Try.func15, Try.ntmps15
  go_wp2
  go_loopw [4] (fun i wr => ∃ k : Nat, k ≤ zs.length ∧ i = .int .i64 k ∧ wr.rowIs w.heap.size 38 (zs.length * 2) (fun j => if j < k * 2 then rowCell zs j else zeroCell j) ∧ Below w.heap.size w wr) (fun i _ => zs.length - (intOf i).toNat)
  case atStart => exact ⟨0, Nat.zero_le _, rfl, (rowIs_rows w zs.length 38).congr (fun i _ => by simp), (Below.refl _ _).alloc (Nat.le_refl _) _⟩
  case round =>
    obtain ⟨k, hk, rfl, hrow, hb⟩ := hrel
    clear hmk
    by_cases hlt : k < zs.length
    · obtain ⟨b, off, rfl, hb1, hb2, hcs⟩ := hcell (by omega)
      obtain ⟨h1, h2⟩ := hcs k hlt
      have hck := (hb.cell (p := ⟨b, off + k * 2, none⟩) (by show b < _; omega)).trans h1
      have hck' := (hb.cell (p := ⟨b, off + k * 2 + 1, none⟩) (by show b < _; omega)).trans h2
      clear hcs h1 h2 hcell
      go_wp2_with fail
      refine (toRow_any _ _ _).mono ?_
      rintro e w1 ⟨rfl, hb1'⟩
      have hrow1 : w1.rowIs w.heap.size 38 (zs.length * 2) (fun j => if j < k * 2 then rowCell zs j else zeroCell j) := hrow.of_block (hb1'.block _ hrow.lt)
      have hbw1 := hb.trans (hb1'.mono hb.size)
      have oc := hrow1.cell (i := k * 2) (by omega)
      have oc' := hrow1.cell (i := k * 2 + 1) (by omega)
      have of := hrow1.frozen (k * 2)
      have of' := hrow1.frozen (k * 2 + 1)
      clear hck hck'
      go_wp2_with fail
      go_roundw
      case rel =>
        refine ⟨k + 1, by omega, by go_num, ?_, (hbw1.setCell (by simp) _).setCell (by simp) _⟩
        refine ((hrow1.set (k * 2) (.string (nthR zs k).1)).set (k * 2 + 1) (.int .i64 (nthR zs k).2)).congr fun j hj => ?_
        by_cases e : j = k * 2 + 1
        · subst e; rw [if_pos rfl, if_pos (by omega), rowCell_snd]
        · rw [if_neg e]
          by_cases e2 : j = k * 2
          · subst e2; rw [if_pos rfl, if_pos (by omega), rowCell_fst]
          · rw [if_neg e2]
            by_cases e3 : j < k * 2
            · rw [if_pos e3, if_pos (by omega)]
            · rw [if_neg e3, if_neg (by omega)]
      case measure => simp [intOf]; omega
    · obtain rfl : k = zs.length := by omega
      go_wp2
      go_ret
      refine ⟨_, rfl, ?_, hb⟩
      exact (Sl.of_row hrow (Nat.le_refl _) (Nat.le_refl _) (Nat.le_refl _) (by unfold maxLen; omega)).congr fun j hj => by rw [if_pos hj]

set_option maxHeartbeats 1000000 in
theorem toTable_any (v : Value) (D : TabD) (lo hi : Nat) (w : World) (h : Tab w lo hi v D) (hhi : hi ≤ w.heap.size) (hsz : D.sz ≤ 1048576) :
    Calls Try.prog 6 #[v] w fun e w' => ∃ r, e = .returned r ∧ Tab w' w.heap.size w'.heap.size r D ∧ Below w.heap.size w w' := by
  obtain ⟨A2, c2, rfl, hr⟩ := h
  unfold TabD.sz szR at hsz
  have HI := Lib.hid hr
  clear hr
  obtain ⟨n, HN⟩ : ∃ n, Hid (D.rows.length = n) := ⟨_, Lib.hid rfl⟩
  obtain ⟨dd, HD⟩ : ∃ n, Hid (D.depth = n) := ⟨_, Lib.hid rfl⟩
  rw [HN.out, HD.out]
  rw [HN.out] at HI
  go_enter Try.func6, Try.ntmps6
  go_upto_region 3 with fail
  refine nameC ?_
  intro W0 HW0
  have hb0 : Below w.heap.size w W0 := by rw [HW0.out]; exact below_a3 _ _ _ _
  have hs0 : w.heap.size + 3 ≤ W0.heap.size := by rw [HW0.out]; simp
  have b0 : Box2 W0 w.heap.size 24 (.int .i64 dd) (.slice A2 n c2) := by rw [HW0.out]; exact ((Box2.new _ _ _ _).alloc _).alloc _
  have b1 : Box2 W0 (w.heap.size + 1) 28 (.int .i64 0) (.slice none 0 0) := by
    rw [HW0.out]; refine Box2.alloc ?_ _; have := Box2.new (w.alloc (.cells #[.int .i64 dd, .slice A2 n c2] 24)) 28 (.int .i64 0) (.slice none 0 0); simpa using this
  have b2 : Box2 W0 (w.heap.size + 1 + 1) 28 (.int .i64 dd) (.slice none 0 0) := by
    rw [HW0.out]; have := (Box2.new ((w.alloc (.cells #[.int .i64 dd, .slice A2 n c2] 24)).alloc (.cells #[.int .i64 0, .slice none 0 0] 28)) 28 (.int .i64 dd) (.slice none 0 0)); simpa using this
  clear HW0
  have i0 := b0.cells.2
  go_wp2_with fail
  clear i0
  refine (toRowS_any _ D.rows lo hi _ (HN.out.symm ▸ HI.out.below hb0 hhi) (by omega) (by omega)).mono ?_
  rintro e w2 ⟨r2, rfl, hr2, hb2⟩
  have hs2 := hb2.size
  have R2 := Lib.hid hr2
  obtain ⟨B2, d2, rfl⟩ := hr2.shape
  rw [HN.out] at R2 ⊢
  clear hr2
  have a1 := b1.below hb2 (by omega)
  have a2 := b2.below hb2 (by omega)
  have hw1 := hb0.trans (hb2.mono (by omega))
  clear b0 b1 b2 hb0 hb2
  obtain ⟨e0, e1⟩ := a2.cells
  obtain ⟨g0, g1⟩ := a1.cells
  have f0 := a2.frozen 1
  have k0 := a1.frozen 0
  have k1 := a1.frozen 1
  go_wp2_with fail
  clear e0 e1 g0 g1 f0 k0 k1
  have z := (((a1.far (p := ⟨w.heap.size + 1 + 1, 1, none⟩) (by simp) (.slice B2 n d2)).set0 (.int .i64 dd)).set1 (.slice B2 n d2)).cells
  refine bodyPost_ret (v := .agg #[.int .i64 dd, .slice B2 n d2]) (by simp [results, Try.results6, go_sem, z.1, z.2]) rfl ⟨_, rfl, ?_, ?_⟩
  · have q2 := ((R2.out.setCell (p := ⟨w.heap.size + 1 + 1, 1, none⟩) (by left; simp; omega) (.slice B2 n d2)).setCell (p := ⟨w.heap.size + 1, 0, none⟩) (by left; simp; omega) (.int .i64 dd)).setCell (p := ⟨w.heap.size + 1, 1, none⟩) (by left; simp; omega) (.slice B2 n d2)
    rw [size_setCell, size_setCell, size_setCell]
    have q := Tab.of (T := D) (q2.mono (show w.heap.size ≤ W0.heap.size by omega) (Nat.le_refl _))
    rw [HD.out] at q
    exact q
  · exact ((hw1.setCell (by simp; omega) _).setCell (by simp) _).setCell (by simp) _

theorem eqRow_same (s : ByteArray) (o : Int) (w : World) :
    Calls Try.prog 37 #[.agg #[.string s, .int .i64 o], .agg #[.string s, .int .i64 o]] w fun e w' => e = .returned (.bool true) ∧ Below w.heap.size w w' := by
  have h2 : (o != o) = false := by simp
  go_enter Try.func37, Try.ntmps37
  go_wp2
  go_ret
  exact ⟨rfl, below_a2 _ _ _⟩

set_option maxHeartbeats 1000000 in
theorem eqRowS_same (v1 v2 : Value) (zs : List (ByteArray × Int)) (lo1 hi1 lo2 hi2 : Nat) (w : World) (h1 : RowS w lo1 hi1 v1 zs) (h2 : RowS w lo2 hi2 v2 zs) (hh1 : hi1 ≤ w.heap.size) (hh2 : hi2 ≤ w.heap.size) :
    Calls Try.prog 19 #[v1, v2] w fun e w' => e = .returned (.bool true) ∧ Below w.heap.size w w' := by
  obtain ⟨A, c, rfl, hc1, hc2, hcell⟩ := h1.form
  obtain ⟨A2, c2, rfl, hd1, hd2, hcell2⟩ := h2.form
  unfold maxLen at hc2 hd2
  go_enter Try.func19, Try.ntmps19
  go_wp2
  go_loopw [5] (fun i wr => ∃ k : Nat, k ≤ zs.length ∧ i = .int .i64 k ∧ Below w.heap.size w wr) (fun i _ => zs.length - (intOf i).toNat)
  case atStart => exact ⟨0, Nat.zero_le _, rfl, Below.refl _ _⟩
  case round =>
    obtain ⟨k, hk, rfl, hb⟩ := hrel
    by_cases hlt : k < zs.length
    · obtain ⟨b, off, rfl, hb1, hb2, hcs⟩ := hcell (by omega)
      obtain ⟨b', off', rfl, hb1', hb2', hcs'⟩ := hcell2 (by omega)
      obtain ⟨x1, x2⟩ := hcs k hlt
      obtain ⟨y1, y2⟩ := hcs' k hlt
      have p1 := (hb.cell (p := ⟨b, off + k * 2, none⟩) (by show b < _; omega)).trans x1
      have p2 := (hb.cell (p := ⟨b, off + k * 2 + 1, none⟩) (by show b < _; omega)).trans x2
      have p3 := (hb.cell (p := ⟨b', off' + k * 2, none⟩) (by show b' < _; omega)).trans y1
      have p4 := (hb.cell (p := ⟨b', off' + k * 2 + 1, none⟩) (by show b' < _; omega)).trans y2
      clear hcs hcs' hcell hcell2 x1 x2 y1 y2
      go_wp2
      go_region_with (go_at_call 37; refine (eqRow_same _ _ _).mono ?_; rintro e w1 ⟨rfl, hbq⟩)
      all_goals (try go_wp2)
      all_goals go_roundw
      case rel => exact ⟨k + 1, by omega, by go_num, hb.drew.trans (hbq.mono hb.size)⟩
      case measure => simp [intOf]; omega
      case rel => exact ⟨k + 1, by omega, by go_num, hb.drew.trans (hbq.mono hb.size)⟩
      case measure => simp [intOf]; omega
    · obtain rfl : k = zs.length := by omega
      go_wp2
      go_ret
      exact ⟨rfl, hb⟩

set_option maxHeartbeats 1000000 in
theorem eqTable_same (v1 v2 : Value) (D : TabD) (lo1 hi1 lo2 hi2 : Nat) (w : World) (h1 : Tab w lo1 hi1 v1 D) (h2 : Tab w lo2 hi2 v2 D) (hh1 : hi1 ≤ w.heap.size) (hh2 : hi2 ≤ w.heap.size) :
    Calls Try.prog 8 #[v1, v2] w fun e w' => e = .returned (.bool true) ∧ Below w.heap.size w w' := by
  obtain ⟨A3, c3, rfl, hn⟩ := h1
  obtain ⟨A6, c6, rfl, hn'⟩ := h2
  have HN := Lib.hid hn
  have HN' := Lib.hid hn'
  clear hn hn'
  have hdd : (D.depth != D.depth) = false := by simp
  go_enter Try.func8, Try.ntmps8
  go_wp2_with fail
  have hb0 := below_a2 w (.cells #[.int .i64 D.depth, .slice A3 D.rows.length c3] 28) (.cells #[.int .i64 D.depth, .slice A6 D.rows.length c6] 28)
  refine (eqRowS_same _ _ D.rows lo1 hi1 lo2 hi2 _ (HN.out.below hb0 hh1) (HN'.out.below hb0 hh2) (by simp; omega) (by simp; omega)).mono ?_
  rintro e w3 ⟨rfl, hb3⟩
  go_wp2_with fail
  go_ret
  exact ⟨rfl, hb0.trans (hb3.mono (by simp; omega))⟩
theorem Tab.parts {w : World} {lo hi : Nat} {v : Value} {T : TabD} (h : Tab w lo hi v T) : ∃ A c, v = .agg #[.int .i64 T.depth, .slice A T.rows.length c] ∧ RowS w lo hi (.slice A T.rows.length c) T.rows := h
section
variable {H : Type} {enc : TypeId × Value → H} {P : Program} {W : World}
theorem open_RowS_trod {t e : TypeId} {f0 f1 : Field} {fuel : Nat} {v : Value} {x : DataW H × List MemPlace} (ht : P.underlying t = some (.slice e)) (he : P.underlying e = some (.struct #[f0, f1])) (hone : oneCellFields P #[f0, f1] = true) (hC : P.cellsOf e = 2)
    (t0 : P.underlying f0.type = some .string) (t1 : P.underlying f1.type = some (.int .i64)) (h : DataW.trod enc P W 0 (fun _ => true) true fuel t [v] = some x) (hfz : W.noneFrozen x.2) :
    ∃ es, RowS W 0 W.heap.size v es ∧ rowsOk es := by
  rcases open_slice ht h with ⟨hcs, _⟩ | ⟨a, len, cap, m, n, D, Pl, hcs, _, hl, hm, hmm, hx, hi⟩
  · simp only [List.cons.injEq, and_true] at hcs
    subst hcs
    exact ⟨[], RowS.nil _ _ _, fun r hr => by cases hr⟩
  · simp only [List.cons.injEq, and_true] at hcs
    subst hcs
    simp only [if_true] at hmm
    subst hmm
    have each : ∀ i, i < m → ∃ p : ByteArray × Int, W.cell? (a.add (i * 2)) = some (.string p.1) ∧ W.cell? (a.add (i * 2 + 1)) = some (.int .i64 p.2) ∧ p.1.size ≤ maxLen ∧ I64 p.2 := by
      intro i him
      obtain ⟨cs', hc, ht'⟩ := hi i him
      rw [hC] at hc
      obtain ⟨ys, n', _, _, hlen, hyl, hf⟩ := DataW.trod_struct he ht'
      obtain ⟨_, hcl, hat⟩ := World.cells?_some hc
      match cs', hcl with
      | [c0, c1], _ =>
        obtain ⟨o0, k0⟩ := hone_of hone 0 f0 rfl
        obtain ⟨o1, k1⟩ := hone_of hone 1 f1 rfl
        have g0 := hf 0 f0 rfl
        have g1 := hf 1 f1 rfl
        rw [o0, k0] at g0
        rw [o1, k1] at g1
        simp only [List.drop_zero, List.take_succ_cons, List.take_zero, List.drop_succ_cons] at g0 g1
        match ys, hyl with
        | [y0, y1], _ =>
          simp only [List.getElem?_cons_zero, List.getElem?_cons_succ] at g0 g1
          obtain ⟨x0, e0, _, w0⟩ := DataW.trod_string t0 g0
          obtain ⟨x1, e1, _, w1⟩ := DataW.trod_int t1 g1
          simp only [List.cons.injEq, and_true] at e0 e1
          subst e0 e1
          have a0 := hat 0 (by omega)
          have a1 := hat 1 (by omega)
          rw [Go.Deep.add_add] at a0 a1
          exact ⟨(x0, x1), by simpa using a0, by simpa using a1, w0, I64.of_wf w1⟩
    let f : Nat → ByteArray × Int := fun i => if hh : i < m then Classical.choose (each i hh) else (ByteArray.empty, 0)
    have hf : ∀ i, i < m → W.cell? (a.add (i * 2)) = some (.string (f i).1) ∧ W.cell? (a.add (i * 2 + 1)) = some (.int .i64 (f i).2) ∧ (f i).1.size ≤ maxLen ∧ I64 (f i).2 := by
      intro i hh
      have := Classical.choose_spec (each i hh)
      show W.cell? (a.add (i * 2)) = some (.string (if hh : i < m then Classical.choose (each i hh) else (ByteArray.empty, 0)).1) ∧ _
      simp only [f, dif_pos hh]
      exact this
    have hlen : ((List.range len).map f).length = len := by simp
    refine ⟨(List.range len).map f, ?_, ?_⟩
    · refine ⟨some a, m, by rw [hlen], by rw [hlen]; exact hl, hm, fun hpos => ?_⟩
      rw [hlen] at hpos
      have h0 := (hf 0 (by omega)).1
      obtain ⟨b, off, spot⟩ := a
      have hspot : spot = none := by simpa [Addr.add] using World.cell?_spot h0
      subst hspot
      refine ⟨b, off, rfl, Nat.zero_le _, ?_, fun j hj => ?_⟩
      · have h0' : W.cell? ⟨b, off, none⟩ = some (.string (f 0).1) := by simpa [Addr.add] using h0
        exact World.block_lt_of_cell? W ⟨b, off, none⟩ h0'
      · rw [hlen] at hj
        refine ⟨?_, ?_⟩
        · have hk : j / 2 < m := by omega
          obtain ⟨c0, c1, _, _⟩ := hf (j / 2) hk
          have hn : nthR ((List.range len).map f) (j / 2) = f (j / 2) := by rw [nthR_eq (by rw [hlen]; omega)]; simp
          unfold rowCell
          rw [hn]
          by_cases he : j % 2 = 0
          · rw [if_pos he]
            rw [show j / 2 * 2 = j by omega, Go.WideShapes.add_plain] at c0
            exact c0
          · rw [if_neg he]
            rw [show j / 2 * 2 + 1 = j by omega, Go.WideShapes.add_plain] at c1
            exact c1
        · refine hfz b (off + j) ?_
          rw [hx]
          simp only [MemPlace.row, List.mem_append, List.mem_map, List.mem_range]
          exact .inl ⟨j, by rw [hC]; omega, rfl⟩
    · intro e he
      obtain ⟨i, hi', rfl⟩ := List.mem_map.1 he
      rw [List.mem_range] at hi'
      exact ⟨(hf i (by omega)).2.2.1, (hf i (by omega)).2.2.2⟩

end
section
variable {H : Type} {enc : TypeId × Value → H} {W : World}
set_option maxRecDepth 100000 in
theorem open_Tab {r : Reach} {b0 : Nat} {v : Value} {d : DataW H} {p : List MemPlace}
    (hv : Value.okWide Try.prog W r b0 24 v) (h : DataW.Trod enc Try.prog W 0 (fun _ => true) true 24 v d p) (hfz : W.noneFrozen p) :
    ∃ D, Tab W 0 W.heap.size v D ∧ D.Ok := by
  obtain ⟨v1, v2, y1, y2, n, rfl, rfl, rfl, h1, h2⟩ := open_agg2 Try.underlying24 (by kernel_rfl) (by kernel_rfl) hv h
  have z2 : W.noneFrozen y2.2 := fun b off hb => hfz b off (by simp [hb])
  obtain ⟨x, ex, _, wx⟩ := DataW.trod_int Try.underlying3 h1
  simp only [List.cons.injEq, and_true] at ex
  subst ex
  obtain ⟨rs, i1, i2⟩ := open_RowS_trod Try.underlying22 Try.underlying47 (by kernel_rfl) (by kernel_rfl) Try.underlying9 Try.underlying3 h2 z2
  exact ⟨⟨x, rs⟩, Tab.of (T := ⟨x, rs⟩) i1, ⟨I64.of_wf wx, i2⟩⟩
end

end Go.Proofs.Ytlfdhhmccjkogaa
