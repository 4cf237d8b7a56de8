/-
  Contracts: the reference's taFind, taPut, taIf and MergeTables.
-/
import Derived.Test.YtlfdhhmccjkogaaMrgC
import Derived.Test.YtlfdhhmccjkogaaMrgK
import Derived.Test.YtlfdhhmccjkogaaTab2
namespace Go.Proofs.Ytlfdhhmccjkogaa
open Go.ChangeShapes Go.WideShapes Go.ChangeAt Go.RowKit
set_option linter.unusedVariables false

theorem bin_lss {P : Program} {a b : ByteArray} {r : Bool} (h : sLt a b = r) (t : TypeId) (w : World) : (binOp .lss t (.string a) (.string b)).run P w = .ok (.bool r) w := by
  have : (Op.stringOp .lss a b).run P w = .ok (.bool (sLt a b)) w := rfl
  rw [← h]; exact this
theorem str_lss {P : Program} {a b : ByteArray} {r : Bool} (h : sLt a b = r) (w : World) : (Op.stringOp .lss a b).run P w = .ok (.bool r) w := by
  have : (Op.stringOp .lss a b).run P w = .ok (.bool (sLt a b)) w := rfl
  rw [← h]; exact this
def hitR (M : List Rw) (v : ByteArray) : Bool := decide (findR M v < M.length ∧ (nthR M (findR M v)).1 = v)
theorem ret_ib {a c : Int} {b d : Bool} (h : a = c) (h2 : b = d) : Ending.returned (.tuple #[.int .i64 a, .bool b]) = .returned (.tuple #[.int .i64 c, .bool d]) := by rw [h, h2]
theorem putR_some_eq (M : List Rw) (r : Rw) : (putR M r).isSome = (if hitR M r.1 = true then decide ((nthR M (findR M r.1)).2 = r.2) else true) := by
  unfold putR hitR
  simp only [decide_eq_true_eq]
  split
  · split <;> rename_i h <;> simp [h]
  · rfl

set_option maxHeartbeats 2000000 in
set_option maxRecDepth 100000 in
theorem taFind_any (v : Value) (T : TabD) (view : ByteArray) (lo hi : Nat) (w : World) (h : Tab w lo hi v T) (hh : hi ≤ w.heap.size) (hn : T.rows.length ≤ 1000000) :
    Calls Try.prog 25 #[v, .string view] w fun e w' => e = .returned (.tuple #[.int .i64 (findR T.rows view : Nat), .bool (hitR T.rows view)]) ∧ Below w.heap.size w w' := by
  obtain ⟨A, c, rfl, hr⟩ := h
  have F1 := Lib.hid hr
  obtain ⟨A', c', he, hc1, hc2, hcell⟩ := hr.form
  obtain ⟨rfl, rfl⟩ : A = A' ∧ c = c' := by injection he with h1 _ h2; exact ⟨h1, h2⟩
  have HC := Lib.hid hcell
  clear hcell hr he
  unfold maxLen at hc2
  obtain ⟨n, HN⟩ : ∃ n, Hid (T.rows.length = n) := ⟨_, Lib.hid rfl⟩
  obtain ⟨dd, HD⟩ : ∃ n, Hid (T.depth = n) := ⟨_, Lib.hid rfl⟩
  rw [HN.out] at hc1 hn F1 ⊢
  rw [HD.out]
  go_enter Try.func25, Try.ntmps25
  go_upto_region 1 with fail
  refine nameC ?_
  intro W HW
  have HBX := Lib.hid (show BoxN W w.heap.size #[.int .i64 dd, .slice A n c] 28 by rw [HW.out]; exact BoxN.new _ _ _)
  have hbW : Below w.heap.size w W := by rw [HW.out]; exact (Below.refl _ _).alloc (Nat.le_refl _) _
  have hsW : w.heap.size + 1 ≤ W.heap.size := by rw [HW.out]; simp
  have HBW := Lib.hid hbW
  have FW := Lib.hid (F1.out.below hbW hh)
  have k1 : W.cell? ⟨w.heap.size, 1, none⟩ = some (.slice A n c) := HBX.out.cell 1 (by simp)
  clear HW hbW
  go_wp2_with fail
  go_loop [6] (fun c => ∃ k : Nat, c = .int .i64 k ∧ k ≤ n ∧ Hid (∀ j, j < k → sLt (nthR T.rows j).1 view = true)) (fun c => n - (intOf c).toNat)
  case atStart => exact ⟨0, rfl, Nat.zero_le _, Lib.hid fun j hj => absurd hj (by omega)⟩
  case round =>
    obtain ⟨k, rfl, hk, HU⟩ := hrel
    by_cases hlt : k < n
    case neg =>
      obtain rfl : k = n := by omega
      have HF := Lib.hid (findR_eq (M := T.rows) (v := view) (by rw [HN.out]; exact hk) HU.out (fun h => absurd h (by rw [HN.out]; omega)))
      have HT := Lib.hid (show hitR T.rows view = false by unfold hitR; rw [HF.out, HN.out]; simp)
      have hg : decide ((k : Int) < (k : Int)) = false := decide_eq_false (by omega)
      go_wp2_with fail
      go_quiet (fail)
      go_wp2_with fail
      go_ret2
      exact ⟨ret_ib (by rw [HF.out]) HT.out.symm, below_drewN HBW.out _⟩
    have hki : (k : Int) < n := by omega
    obtain ⟨b, off, rfl, hb1, hb2, hcs⟩ := HC.out (by rw [HN.out]; omega)
    obtain ⟨⟨p1, _⟩, p2, _⟩ := FW.out.at_ (j := k) (by rw [HN.out]; exact hlt)
    obtain ⟨s, HS⟩ : ∃ s, Hid ((nthR T.rows k).1 = s) := ⟨_, Lib.hid rfl⟩
    rw [HS.out] at p1
    clear hcs p2
    cases hss : sLt s view with
    | true =>
      have q1 := fun t w => bin_lss (P := Try.prog) hss t w
      have q2 : Op.bytesLess s.toList view.toList = _ := hss
      have HSS := Lib.hid hss; clear hss
      go_wp2_with fail
      go_round
      case rel =>
        refine ⟨k + 1, by go_num, by omega, Lib.hid fun j hj => ?_⟩
        by_cases e : j = k
        · rw [e, HS.out]; exact HSS.out
        · exact HU.out j (by omega)
      case measure => simp [intOf]; omega
    | false =>
      have q1 := fun t w => bin_lss (P := Try.prog) hss t w
      have q2 : Op.bytesLess s.toList view.toList = _ := hss
      have HF := Lib.hid (findR_eq (M := T.rows) (v := view) (by rw [HN.out]; exact hk) HU.out (fun _ => by rw [HS.out]; exact hss))
      have HSS := Lib.hid hss; clear hss
      have hg : decide ((k : Int) < (n : Int)) = true := decide_eq_true (by omega)
      by_cases hv : s = view
      · subst hv
        have HT := Lib.hid (show hitR T.rows s = true by unfold hitR; rw [HF.out, HN.out, HS.out]; simp [hlt])
        go_wp2_with fail
        go_quiet (fail)
        go_wp2_with fail
        go_ret2
        exact ⟨ret_ib (by rw [HF.out]) HT.out.symm, below_drewN HBW.out _⟩
      · have HT := Lib.hid (show hitR T.rows view = false by unfold hitR; rw [HF.out, HN.out, HS.out]; simp [hv])
        have hv2 : ¬ s.toList = view.toList := fun e => hv (toList_inj e)
        have hv3 : (s.toList == view.toList) = false := by simpa using hv2
        go_wp2_with fail
        go_quiet (fail)
        go_wp2_with fail
        go_ret2
        exact ⟨ret_ib (by rw [HF.out]) HT.out.symm, below_drewN HBW.out _⟩

def PlainA (A : Option Addr) : Prop := A = none ∨ ∃ b off, A = some ⟨b, off, none⟩
def PlainT (v : Value) : Prop := ∃ d A n c, v = .agg #[.int .i64 d, .slice A n c] ∧ PlainA A
theorem OwnR.plain {w : World} {base : Nat} {e : TypeId} {v : Value} {l : List (ByteArray × Int)} (h : OwnR w base e v l) : ∃ A c, v = .slice A l.length c ∧ PlainA A := by
  rcases h.2 with ⟨rfl, h2⟩ | ⟨g, cap, cur, rfl, _⟩
  · exact ⟨none, 0, by rw [h2], .inl rfl⟩
  · exact ⟨_, cap, rfl, .inr ⟨g, 0, rfl⟩⟩
theorem results_tab {fn : Func} {p u : Tmp} (h : fn.results = #[.cell p 28, .tmp u]) (tmps : Array Value) (w : World) (g : Nat) (x y : Value) (hp : tmps.getD p undef = .pointer (some ⟨g, 0, none⟩)) (hb : BoxN w g #[x, y] 28) :
    (results fn tmps).run Try.prog w = .ok (.tuple #[.agg #[x, y], tmps.getD u undef]) w := by
  have hp' : tmps[p]?.getD undef = .pointer (some ⟨g, 0, none⟩) := by simpa using hp
  rw [results_cell_tmp h]
  simp [hp', asAddr, run_loadVar_row (P := Try.prog) w g 28 28 #[x, y] (0, 0) _ hb Try.underlying28 rfl (by kernel_rfl), Result.andThen]
theorem box_store {w : World} {g : Nat} {a b x y : Value} {t : TypeId} (h : BoxN w g #[a, b] t) : BoxN ((w.setCell ⟨g, 0, none⟩ x).setCell ⟨g, 1, none⟩ y) g #[x, y] t := by
  have := (h.set 0 x).set 1 y
  simpa using this
theorem cell_store {w : World} {g : Nat} {x y : Value} {p : Addr} (h : p.block ≠ g) : ((w.setCell ⟨g, 0, none⟩ x).setCell ⟨g, 1, none⟩ y).cell? p = w.cell? p :=
  World.cell?_of_block ((Below.heap_setCell _ _ _ _ h).trans (Below.heap_setCell _ _ _ _ h))
theorem below_store {B g : Nat} {w w' : World} {x y : Value} (h : Below B w w') (hg : B ≤ g) : Below B w ((w'.setCell ⟨g, 0, none⟩ x).setCell ⟨g, 1, none⟩ y) := (h.setCell (p := ⟨g, 0, none⟩) hg x).setCell (p := ⟨g, 1, none⟩) hg y

set_option maxHeartbeats 4000000 in
set_option maxRecDepth 100000 in
theorem taPut_any (v : Value) (T : TabD) (s : ByteArray) (o : Int) (lo hi : Nat) (w : World) (h : Tab w lo hi v T) (hh : hi ≤ w.heap.size) (hn : T.rows.length ≤ 500000) (hpl : PlainT v) :
    Calls Try.prog 13 #[v, .agg #[.string s, .int .i64 o]] w fun e w' => ∃ rv lo' hi', e = .returned (.tuple #[rv, .bool (putR T.rows (s, o)).isSome]) ∧ PlainT rv ∧ Tab w' lo' hi' rv ⟨T.depth, (putR T.rows (s, o)).getD T.rows⟩ ∧ (lo' = lo ∧ hi' = hi ∨ w.heap.size ≤ lo') ∧ hi' ≤ w'.heap.size ∧ Below w.heap.size w w' := by
  obtain ⟨A, c, rfl, hr⟩ := h
  have F1 := Lib.hid hr
  obtain ⟨A', c', he, hc1, hc2, hcell⟩ := hr.form
  obtain ⟨rfl, rfl⟩ : A = A' ∧ c = c' := by injection he with h1 _ h2; exact ⟨h1, h2⟩
  have HC := Lib.hid hcell
  clear hcell hr he
  unfold maxLen at hc2
  have HPL : Hid (PlainA A) := by
    obtain ⟨_, _, _, _, e, h⟩ := hpl
    injection e with e; injection e with e; injection e with _ e; injection e with e; injection e with e
    exact Lib.hid (e ▸ h)
  clear hpl
  obtain ⟨n, HN⟩ : ∃ n, Hid (T.rows.length = n) := ⟨_, Lib.hid rfl⟩
  obtain ⟨dd, HD⟩ : ∃ n, Hid (T.depth = n) := ⟨_, Lib.hid rfl⟩
  rw [HN.out] at hc1 hn F1 ⊢
  rw [HD.out]
  have HPS := Lib.hid (putR_some_eq T.rows (s, o))
  obtain ⟨k, HK⟩ : ∃ k, Hid (findR T.rows s = k) := ⟨_, Lib.hid rfl⟩
  have hkn : k ≤ n := by rw [← HK.out, ← HN.out]; exact findR_le _ _
  obtain ⟨IS, HI⟩ : ∃ x, Hid ((putR T.rows (s, o)).isSome = x) := ⟨_, Lib.hid rfl⟩
  obtain ⟨GD, HG⟩ : ∃ x, Hid ((putR T.rows (s, o)).getD T.rows = x) := ⟨_, Lib.hid rfl⟩
  rw [HI.out, HG.out]
  rw [HI.out] at HPS
  go_enter Try.func13, Try.ntmps13
  go_upto_region 1 with fail
  refine nameC ?_
  intro W HW
  have HB2 := Lib.hid (show BoxN W w.heap.size #[.int .i64 dd, .slice A n c] 28 by rw [HW.out]; exact ((BoxN.new w _ _).still (grown_alloc _ _)).still (grown_alloc _ _))
  have HB3 := Lib.hid (show BoxN W (w.heap.size + 1) #[.string s, .int .i64 o] 38 by rw [HW.out]; exact (BoxN.new' _ _ _ (by simp)).still (grown_alloc _ _))
  have HB4 := Lib.hid (show BoxN W (w.heap.size + 1 + 1) #[.int .i64 0, .slice none 0 0] 28 by rw [HW.out]; exact BoxN.new' _ _ _ (by simp))
  have hbW : Below w.heap.size w W := by rw [HW.out]; exact below_a3 _ _ _ _
  have hsW : w.heap.size + 3 ≤ W.heap.size := by rw [HW.out]; simp
  have HBW := Lib.hid hbW
  have FW := Lib.hid (F1.out.below hbW hh)
  have c20 : W.cell? ⟨w.heap.size, 0, none⟩ = some (.int .i64 dd) := HB2.out.cell 0 (by simp)
  have c21 : W.cell? ⟨w.heap.size, 1, none⟩ = some (.slice A n c) := HB2.out.cell 1 (by simp)
  have c30 : W.cell? ⟨w.heap.size + 1, 0, none⟩ = some (.string s) := HB3.out.cell 0 (by simp)
  have c31 : W.cell? ⟨w.heap.size + 1, 1, none⟩ = some (.int .i64 o) := HB3.out.cell 1 (by simp)
  have HT := Lib.hid (show Tab W lo hi (.agg #[.int .i64 dd, .slice A n c]) T from ⟨A, c, by rw [HD.out, HN.out], by rw [HN.out]; exact FW.out⟩)
  clear HW hbW
  cases hhit : hitR T.rows s with
  | true =>
    have HH := Lib.hid hhit
    have hkl : k < n := by
      have := HH.out; unfold hitR at this; rw [decide_eq_true_eq, HK.out, HN.out] at this; exact this.1
    rw [hhit] at HPS
    obtain ⟨b, off, rfl, hb1, hb2, _⟩ := HC.out (by rw [HN.out]; omega)
    obtain ⟨o', HO'⟩ : ∃ x, Hid ((nthR T.rows k).2 = x) := ⟨_, Lib.hid rfl⟩
    have HIS := Lib.hid (show IS = (o' == o) by rw [HPS.out, if_pos rfl, HK.out, HO'.out]; rfl)
    have HGD := Lib.hid (show GD = T.rows by
      rw [← HG.out]
      have := HH.out; unfold hitR at this; rw [decide_eq_true_eq] at this
      unfold putR; rw [if_pos this]; split <;> rfl)
    obtain rfl := HIS.out
    obtain rfl := HGD.out
    clear HI HG HIS HGD HPS
    go_upto_region 3 with (go_at_call 25; refine (taFind_any _ T s lo hi W HT.out (by omega) (by rw [HN.out]; omega)).mono ?_; rw [HK.out, hhit]; rintro e w1 ⟨rfl, hb1'⟩; have hs1 := hb1'.size; have H1 := Lib.hid hb1')
    clear c20 c21 c30 c31
    have hki : (k : Int) < n := by omega
    refine wp_region_U (fun w' => w'.cell? ⟨w.heap.size, 0, none⟩ = some (.int .i64 dd) ∧ w'.cell? ⟨w.heap.size, 1, none⟩ = some (.slice (some ⟨b, off, none⟩) n c) ∧ w'.cell? ⟨b, off + k * 2 + 1, none⟩ = some (.int .i64 o') ∧ w'.cell? ⟨w.heap.size + 1, 1, none⟩ = some (.int .i64 o)) [] (by kernel_rfl) ?_
    refine nameU ?_
    intro V HV
    have hbV : Below W.heap.size W V := by rw [HV.out]; (first | exact H1.out | exact below_drewN H1.out _ | exact below_drewN H1.out 1)
    have hsV := hbV.size
    clear HV
    have D2 := HB2.out.below hbV (by omega)
    have D3 := HB3.out.below hbV (by omega)
    have B4 := Lib.hid (HB4.out.below hbV (by omega))
    have hS0 : V.cell? ⟨w.heap.size, 0, none⟩ = some (.int .i64 dd) ∧ V.cell? ⟨w.heap.size, 1, none⟩ = some (.slice (some ⟨b, off, none⟩) n c) ∧ V.cell? ⟨b, off + k * 2 + 1, none⟩ = some (.int .i64 o') ∧ V.cell? ⟨w.heap.size + 1, 1, none⟩ = some (.int .i64 o) := ⟨D2.cell 0 (by simp), D2.cell 1 (by simp), by have := ((FW.out.below hbV (by omega)).at_ (j := k) (by rw [HN.out]; exact hkl)).2.1; rwa [HO'.out] at this, D3.cell 1 (by simp)⟩
    refine anyU_take (i := 0) (v := .agg #[.int .i64 dd, .slice (some ⟨b, off, none⟩) n c]) rfl (by kernel_rfl) (by kernel_rfl) (by kernel_rfl) (fun _ _ _ h => h) ⟨by rfl, fun w' hS' => (by obtain ⟨k1, k2, k3, k4⟩ := hS'; go_simp)⟩ hS0 ?_
    simp only [List.getElem_toArray, List.getElem_cons_zero, Act.put, List.setIfInBounds_toArray, List.set_cons_zero, List.set_cons_succ]
    refine anyU_take (i := 1) (v := .pointer (some ⟨w.heap.size, 1, none⟩)) rfl (by kernel_rfl) (by kernel_rfl) (by kernel_rfl) (fun _ _ _ h => h) ⟨by rfl, fun w' hS' => (by obtain ⟨k1, k2, k3, k4⟩ := hS'; go_simp)⟩ hS0 ?_
    simp only [List.getElem_toArray, List.getElem_cons_succ, List.getElem_cons_zero, Act.put, List.setIfInBounds_toArray, List.set_cons_zero, List.set_cons_succ]
    refine anyU_take (i := 2) (v := .slice (some ⟨b, off, none⟩) n c) rfl (by kernel_rfl) (by kernel_rfl) (by kernel_rfl) (fun _ _ _ h => h) ⟨by rfl, fun w' hS' => (by obtain ⟨k1, k2, k3, k4⟩ := hS'; go_simp)⟩ hS0 ?_
    simp only [List.getElem_toArray, List.getElem_cons_succ, List.getElem_cons_zero, Act.put, List.setIfInBounds_toArray, List.set_cons_zero, List.set_cons_succ]
    refine anyU_take (i := 3) (v := .int .i64 k) rfl (by kernel_rfl) (by kernel_rfl) (by kernel_rfl) (fun _ _ _ h => h) ⟨by rfl, fun w' hS' => (by obtain ⟨k1, k2, k3, k4⟩ := hS'; go_simp)⟩ hS0 ?_
    simp only [List.getElem_toArray, List.getElem_cons_succ, List.getElem_cons_zero, Act.put, List.setIfInBounds_toArray, List.set_cons_zero, List.set_cons_succ]
    refine anyU_take (i := 4) (v := .pointer (some ⟨b, off + k * 2, none⟩)) rfl (by kernel_rfl) (by kernel_rfl) (by kernel_rfl) (fun _ _ _ h => h) ⟨by rfl, fun w' hS' => (by obtain ⟨k1, k2, k3, k4⟩ := hS'; simp [go_sem, hki])⟩ hS0 ?_
    simp only [List.getElem_toArray, List.getElem_cons_succ, List.getElem_cons_zero, Act.put, List.setIfInBounds_toArray, List.set_cons_zero, List.set_cons_succ]
    refine anyU_take (i := 5) (v := .pointer (some ⟨b, off + k * 2 + 1, none⟩)) rfl (by kernel_rfl) (by kernel_rfl) (by kernel_rfl) (fun _ _ _ h => h) ⟨by rfl, fun w' hS' => (by obtain ⟨k1, k2, k3, k4⟩ := hS'; go_simp)⟩ hS0 ?_
    simp only [List.getElem_toArray, List.getElem_cons_succ, List.getElem_cons_zero, Act.put, List.setIfInBounds_toArray, List.set_cons_zero, List.set_cons_succ]
    refine anyU_take (i := 6) (v := .int .i64 o') rfl (by kernel_rfl) (by kernel_rfl) (by kernel_rfl) (fun _ _ _ h => h) ⟨by rfl, fun w' hS' => (by obtain ⟨k1, k2, k3, k4⟩ := hS'; go_simp)⟩ hS0 ?_
    simp only [List.getElem_toArray, List.getElem_cons_succ, List.getElem_cons_zero, Act.put, List.setIfInBounds_toArray, List.set_cons_zero, List.set_cons_succ]
    refine anyU_take (i := 7) (v := .pointer (some ⟨w.heap.size + 1, 1, none⟩)) rfl (by kernel_rfl) (by kernel_rfl) (by kernel_rfl) (fun _ _ _ h => h) ⟨by rfl, fun w' hS' => (by obtain ⟨k1, k2, k3, k4⟩ := hS'; go_simp)⟩ hS0 ?_
    simp only [List.getElem_toArray, List.getElem_cons_succ, List.getElem_cons_zero, Act.put, List.setIfInBounds_toArray, List.set_cons_zero, List.set_cons_succ]
    refine anyU_take (i := 8) (v := .int .i64 o) rfl (by kernel_rfl) (by kernel_rfl) (by kernel_rfl) (fun _ _ _ h => h) ⟨by rfl, fun w' hS' => (by obtain ⟨k1, k2, k3, k4⟩ := hS'; go_simp)⟩ hS0 ?_
    simp only [List.getElem_toArray, List.getElem_cons_succ, List.getElem_cons_zero, Act.put, List.setIfInBounds_toArray, List.set_cons_zero, List.set_cons_succ]
    refine anyU_take (i := 9) (v := .bool (o' == o)) rfl (by kernel_rfl) (by kernel_rfl) (by kernel_rfl) (fun _ _ _ h => h) ⟨by rfl, fun w' hS' => (by obtain ⟨k1, k2, k3, k4⟩ := hS'; go_simp)⟩ hS0 ?_
    simp only [List.getElem_toArray, List.getElem_cons_succ, List.getElem_cons_zero, Act.put, List.setIfInBounds_toArray, List.set_cons_zero, List.set_cons_succ]
    refine anyU_ready (rs := [10]) (by kernel_rfl) (by simp) ?_
    refine ReadyU.cons (i := 10) rfl (fun K hK => ?_) ReadyU.nil
    simp only [List.getElem_toArray, List.getElem_cons_succ, List.getElem_cons_zero]
    refine ite_is (by rfl) ?_
    simp [go_sem, B4.out.cell 0 (by simp), B4.out.cell 1 (by simp), B4.out.frozen]
    have hS1 : ((V.setCell ⟨w.heap.size + 1 + 1, 0, none⟩ (.int .i64 dd)).setCell ⟨w.heap.size + 1 + 1, 1, none⟩ (.slice (some ⟨b, off, none⟩) n c)).cell? ⟨w.heap.size, 0, none⟩ = some (.int .i64 dd) ∧ ((V.setCell ⟨w.heap.size + 1 + 1, 0, none⟩ (.int .i64 dd)).setCell ⟨w.heap.size + 1 + 1, 1, none⟩ (.slice (some ⟨b, off, none⟩) n c)).cell? ⟨w.heap.size, 1, none⟩ = some (.slice (some ⟨b, off, none⟩) n c) ∧ ((V.setCell ⟨w.heap.size + 1 + 1, 0, none⟩ (.int .i64 dd)).setCell ⟨w.heap.size + 1 + 1, 1, none⟩ (.slice (some ⟨b, off, none⟩) n c)).cell? ⟨b, off + k * 2 + 1, none⟩ = some (.int .i64 o') ∧ ((V.setCell ⟨w.heap.size + 1 + 1, 0, none⟩ (.int .i64 dd)).setCell ⟨w.heap.size + 1 + 1, 1, none⟩ (.slice (some ⟨b, off, none⟩) n c)).cell? ⟨w.heap.size + 1, 1, none⟩ = some (.int .i64 o) := ⟨(cell_store (by show w.heap.size ≠ w.heap.size + 1 + 1; omega)).trans hS0.1, (cell_store (by show w.heap.size ≠ w.heap.size + 1 + 1; omega)).trans hS0.2.1, (cell_store (by show b ≠ w.heap.size + 1 + 1; omega)).trans hS0.2.2.1, (cell_store (by show w.heap.size + 1 ≠ w.heap.size + 1 + 1; omega)).trans hS0.2.2.2⟩
    refine hK.out _ _ ⟨fun _ => hS1, ?_⟩
    clear hK K
    try simp only [List.getElem_toArray, List.getElem_cons_succ, List.getElem_cons_zero, Act.put, List.setIfInBounds_toArray, List.set_cons_zero, List.set_cons_succ]
    refine anyU_take (i := 11) (v := .bool (o' == o)) rfl (by kernel_rfl) (by kernel_rfl) (by kernel_rfl) (fun _ _ _ h => h) ⟨by rfl, fun w' hS' => (by obtain ⟨k1, k2, k3, k4⟩ := hS'; go_simp)⟩ hS1 ?_
    simp only [List.getElem_toArray, List.getElem_cons_succ, List.getElem_cons_zero, Act.put, List.setIfInBounds_toArray, List.set_cons_zero, List.set_cons_succ]
    refine anyU_done (by kernel_rfl) ?_ _
    go_wp2_with fail
    (try simp only [Exit.inBlock, Exit.then])
    refine bodyPost_ret (results_tab rfl _ _ _ _ _ rfl (box_store B4.out)) rfl ?_
    refine ⟨_, lo, hi, rfl, ⟨_, _, _, _, rfl, HPL.out⟩, ⟨_, c, by rw [HN.out], ?_⟩, .inl ⟨rfl, rfl⟩, ?_, ?_⟩
    · rw [HN.out]
      exact ((FW.out.below hbV (by omega)).setCell (.inr (by show hi ≤ w.heap.size + 1 + 1; omega)) _).setCell (.inr (by show hi ≤ w.heap.size + 1 + 1; omega)) _
    · simp; omega
    · exact below_store (HBW.out.trans (hbV.mono (by omega))) (by omega)
  | false =>
    have HH := Lib.hid hhit
    rw [hhit] at HPS
    have HIS := Lib.hid (show IS = true by rw [HPS.out, if_neg (by simp)])
    obtain ⟨L, HL⟩ : ∃ L, Hid ((([] ++ T.rows.take k) ++ [(s, o)]) ++ T.rows.drop k = L) := ⟨_, Lib.hid rfl⟩
    have HGD := Lib.hid (show GD = L by
      rw [← HG.out, ← HL.out]
      have := HH.out; unfold hitR at this; rw [decide_eq_false_iff_not] at this
      unfold putR; rw [if_neg this, HK.out, List.nil_append]; rfl)
    obtain rfl := HIS.out
    obtain rfl := HGD.out
    clear HI HG HIS HGD HPS
    have hki : (k : Int) ≤ n := by omega
    have hkc : (k : Int) ≤ c := by omega
    have htl : (T.rows.take k).length = k := by rw [List.length_take, HN.out]; omega
    have hdl : (T.rows.drop k).length = n - k := by rw [List.length_drop, HN.out]
    have HTL := Lib.hid htl
    have HDL := Lib.hid hdl
    clear htl hdl
    have HA : Hid (A = none ∨ ∃ b off, A = some ⟨b, off, none⟩) := HPL
    rcases HA.out with rfl | ⟨b, off, rfl⟩
    · obtain rfl : n = 0 := by
        rcases Nat.eq_zero_or_pos n with h0 | h0
        · exact h0
        · obtain ⟨_, _, e, _⟩ := HC.out (by rw [HN.out]; exact h0); cases e
      obtain rfl : k = 0 := by omega
      have hnil : T.rows = [] := List.eq_nil_of_length_eq_zero HN.out
      have HTK : ∀ w', RowS w' lo hi (.slice none 0 c) T.rows → RowS w' lo hi (.slice none 0 c) (T.rows.take 0) := fun w' G1 => by
        rw [hnil]; exact RowS.empty _ _ _ _ _ (by unfold maxLen; omega)
      have HTK := Lib.hid HTK
      have HDR : ∀ w', RowS w' lo hi (.slice none 0 c) T.rows → RowS w' lo hi (.slice none 0 c) (T.rows.drop 0) := fun w' G1 => by
        rw [hnil]; exact RowS.empty _ _ _ _ _ (by unfold maxLen; omega)
      have HDR := Lib.hid HDR
      clear hnil
      go_upto_region 6 with (first
        | (go_at_call 25; refine (taFind_any _ T s lo hi W HT.out (by omega) (by rw [HN.out]; omega)).mono ?_; rw [HK.out, hhit]; rintro e w1 ⟨rfl, hb1'⟩; have hs1 := hb1'.size; have H1 := Lib.hid hb1'; have HE := Lib.hid (OwnR.emptyB (w := w1) (base := W.heap.size) (38) rfl hs1); have G1 := Lib.hid (show RowS (w1.alloc (.cells #[] 38)) lo hi (.slice none 0 c) T.rows from Sl.alloc (FW.out.below H1.out (by omega)) (by omega) _); have ba := (H1.out.alloc hs1 (.cells #[] 38)); have HBA := Lib.hid ba; have d21 := (HB2.out.below H1.out (by omega)).cell 1 (by simp); have d21a := (HB2.out.below ba (by omega)).cell 1 (by simp); clear ba hb1')
        | (at_builtin; refine append_rows (s := .tmp 27) Try.underlying26 Try.info38 (by decide) (by decide) (w1.alloc (.cells #[] 38)) rfl (.tmp 31) rfl HE.out rfl (HTK.out _ G1.out) rfl (by rw [HTL.out]; simp <;> omega) (by simp; omega) ?_; intro v2 w2 ho2 hg2 _; have HO2 := Lib.hid ho2; have hb2 : Below W.heap.size W w2 := HBA.out.grown hg2 (by simp; omega) (fun g hg => (HE.out.lt g hg).1); have HB := Lib.hid hb2; have hs2 := hb2.size; have e30 := (HB3.out.below hb2 (by omega)).cell 0 (by simp); have e31 := (HB3.out.below hb2 (by omega)).cell 1 (by simp); clear ho2 hg2 hb2)
        | (at_builtin; refine append_rw1 (s := .tmp 33) Try.underlying26 Try.info38 (by decide) (by decide) w2 rfl (.tmp 35) rfl HO2.out (s, o) 38 rfl rfl (by rw [List.nil_append, HTL.out]; omega) hs2 ?_; intro v3 w3 ho3 hg3 _; have HO3 := Lib.hid ho3; have HB' := Lib.hid (HB.out.grown hg3 hs2 (fun g hg => (HO2.out.lt g hg).1)); have hs3 := HB'.out.size; clear ho3 hg3))
      clear c20 c21 c30 c31 d21 d21a e30 e31
      refine wp_region_U (fun w' => w'.cell? ⟨w.heap.size, 0, none⟩ = some (.int .i64 dd) ∧ w'.cell? ⟨w.heap.size, 1, none⟩ = some (.slice none 0 c)) [9, 10] (by kernel_rfl) ?_
      refine nameU ?_
      intro V HV
      have hbV : Below W.heap.size W V := by rw [HV.out]; (first | exact HB'.out | exact below_drewN HB'.out 1)
      have HOV := Lib.hid (show OwnR V W.heap.size 38 v3 (([] ++ T.rows.take 0) ++ [(s, o)]) by rw [HV.out]; exact HO3.out)
      have hsV := hbV.size
      clear HV
      have HBV := Lib.hid hbV
      have D2 := HB2.out.below hbV (by omega)
      have hS0 : V.cell? ⟨w.heap.size, 0, none⟩ = some (.int .i64 dd) ∧ V.cell? ⟨w.heap.size, 1, none⟩ = some (.slice none 0 c) := ⟨D2.cell 0 (by simp), D2.cell 1 (by simp)⟩
      have GV := Lib.hid (FW.out.below hbV (by omega))
      refine anyU_take (i := 0) (v := .pointer (some ⟨w.heap.size, 0, none⟩)) rfl (by kernel_rfl) (by kernel_rfl) (by kernel_rfl) (fun _ _ _ h => h) ⟨by rfl, fun w' hS' => (by obtain ⟨k1, k2⟩ := hS'; go_simp)⟩ hS0 ?_
      simp only [List.getElem_toArray, List.getElem_cons_zero, Act.put, List.setIfInBounds_toArray, List.set_cons_zero, List.set_cons_succ]
      refine anyU_take (i := 1) (v := .int .i64 dd) rfl (by kernel_rfl) (by kernel_rfl) (by kernel_rfl) (fun _ _ _ h => h) ⟨by rfl, fun w' hS' => (by obtain ⟨k1, k2⟩ := hS'; go_simp)⟩ hS0 ?_
      simp only [List.getElem_toArray, List.getElem_cons_succ, List.getElem_cons_zero, Act.put, List.setIfInBounds_toArray, List.set_cons_zero, List.set_cons_succ]
      refine anyU_take (i := 2) (v := v3) rfl (by kernel_rfl) (by kernel_rfl) (by kernel_rfl) (fun _ _ _ h => h) ⟨by rfl, fun w' hS' => (by obtain ⟨k1, k2⟩ := hS'; go_simp)⟩ hS0 ?_
      simp only [List.getElem_toArray, List.getElem_cons_succ, List.getElem_cons_zero, Act.put, List.setIfInBounds_toArray, List.set_cons_zero, List.set_cons_succ]
      refine anyU_take (i := 3) (v := .pointer (some ⟨w.heap.size, 1, none⟩)) rfl (by kernel_rfl) (by kernel_rfl) (by kernel_rfl) (fun _ _ _ h => h) ⟨by rfl, fun w' hS' => (by obtain ⟨k1, k2⟩ := hS'; go_simp)⟩ hS0 ?_
      simp only [List.getElem_toArray, List.getElem_cons_succ, List.getElem_cons_zero, Act.put, List.setIfInBounds_toArray, List.set_cons_zero, List.set_cons_succ]
      refine anyU_take (i := 4) (v := .slice none 0 c) rfl (by kernel_rfl) (by kernel_rfl) (by kernel_rfl) (fun _ _ _ h => h) ⟨by rfl, fun w' hS' => (by obtain ⟨k1, k2⟩ := hS'; go_simp)⟩ hS0 ?_
      simp only [List.getElem_toArray, List.getElem_cons_succ, List.getElem_cons_zero, Act.put, List.setIfInBounds_toArray, List.set_cons_zero, List.set_cons_succ]
      refine anyU_take (i := 5) (v := .int .i64 0) rfl (by kernel_rfl) (by kernel_rfl) (by kernel_rfl) (fun _ _ _ h => h) ⟨by rfl, fun w' hS' => (by obtain ⟨k1, k2⟩ := hS'; go_simp)⟩ hS0 ?_
      simp only [List.getElem_toArray, List.getElem_cons_succ, List.getElem_cons_zero, Act.put, List.setIfInBounds_toArray, List.set_cons_zero, List.set_cons_succ]
      refine anyU_take (i := 6) (v := .slice none 0 c) rfl (by kernel_rfl) (by kernel_rfl) (by kernel_rfl) (fun _ _ _ h => h) ⟨by rfl, fun w' hS' => (by obtain ⟨k1, k2⟩ := hS'; simp [go_sem])⟩ hS0 ?_
      simp only [List.getElem_toArray, List.getElem_cons_succ, List.getElem_cons_zero, Act.put, List.setIfInBounds_toArray, List.set_cons_zero, List.set_cons_succ]
      refine anyU_ready (rs := [7]) (by kernel_rfl) (by simp) ?_
      refine ReadyU.cons (i := 7) rfl (fun K hK => ?_) ReadyU.nil
      simp only [List.getElem_toArray, List.getElem_cons_succ, List.getElem_cons_zero]
      refine ite_is (by rfl) ?_
      refine step_append_rows (s := .tmp 39) Try.underlying26 Try.info38 (by decide) (by decide) (.tmp 43) rfl HOV.out rfl (HDR.out _ GV.out) rfl (by rw [HDL.out, List.nil_append, List.length_append, HTL.out]; simp <;> omega) hsV ?_
      rw [HL.out]
      intro v4 w4 ho4 hg4 _
      obtain ⟨A4, c4, rfl, hpa⟩ := ho4.plain
      have HO4 := Lib.hid ho4
      have HPA := Lib.hid hpa
      have hb4 := HBV.out.grown hg4 hsV (fun g hg => (HOV.out.lt g hg).1)
      have HB4' := Lib.hid hb4
      have hs4 := hb4.size
      have B4 := Lib.hid (HB4.out.below hb4 (by omega))
      have E2 := HB2.out.below hb4 (by omega)
      have hS1 : w4.cell? ⟨w.heap.size, 0, none⟩ = some (.int .i64 dd) ∧ w4.cell? ⟨w.heap.size, 1, none⟩ = some (.slice none 0 c) := ⟨E2.cell 0 (by simp), E2.cell 1 (by simp)⟩
      clear ho4 hpa hg4 hb4
      refine hK.out _ _ ⟨fun _ => hS1, ?_⟩
      clear hK K
      try simp only [Act.put, List.setIfInBounds_toArray, List.set_cons_zero, List.set_cons_succ]
      refine anyU_take (i := 8) (v := .agg #[.int .i64 dd, .slice A4 GD.length c4]) rfl (by kernel_rfl) (by kernel_rfl) (by kernel_rfl) (fun _ _ _ h => h) ⟨by rfl, fun w' hS' => (by obtain ⟨k1, k2⟩ := hS'; go_simp)⟩ hS1 ?_
      simp only [List.getElem_toArray, List.getElem_cons_succ, List.getElem_cons_zero, Act.put, List.setIfInBounds_toArray, List.set_cons_zero, List.set_cons_succ]
      refine anyU_ready (rs := [9]) (by kernel_rfl) (by simp) ?_
      refine ReadyU.cons (i := 9) rfl (fun K hK => ?_) ReadyU.nil
      simp only [List.getElem_toArray, List.getElem_cons_succ, List.getElem_cons_zero]
      refine ite_is (by rfl) ?_
      simp [go_sem, B4.out.cell 0 (by simp), B4.out.cell 1 (by simp), B4.out.frozen]
      refine hK.out _ _ ⟨fun h => absurd h (by decide), ?_⟩
      clear hK K
      try simp only [List.getElem_toArray, List.getElem_cons_succ, List.getElem_cons_zero, Act.put, List.setIfInBounds_toArray, List.set_cons_zero, List.set_cons_succ]
      refine anyU_ready (rs := [10]) (by kernel_rfl) (by simp) ?_
      refine ReadyU.cons (i := 10) rfl (fun K hK => ?_) ReadyU.nil
      simp only [List.getElem_toArray, List.getElem_cons_succ, List.getElem_cons_zero]
      refine ite_is (by rfl) ?_
      simp [go_sem]
      refine hK.out _ _ ⟨fun h => absurd h (by decide), ?_⟩
      clear hK K
      try simp only [List.getElem_toArray, List.getElem_cons_succ, List.getElem_cons_zero, Act.put, List.setIfInBounds_toArray, List.set_cons_zero, List.set_cons_succ]
      refine anyU_done (by kernel_rfl) ?_ _
      go_wp2_with fail
      (try simp only [Exit.inBlock, Exit.then])
      refine bodyPost_ret (results_tab rfl _ _ _ _ _ rfl (box_store B4.out)) rfl ?_
      refine ⟨_, W.heap.size, w4.heap.size, rfl, ⟨_, _, _, _, rfl, HPA.out⟩, ⟨_, c4, rfl, ?_⟩, .inr (by omega), by simp, below_store (HBW.out.trans (HB4'.out.mono (by omega))) (by omega)⟩
      exact (HO4.out.rows.setCell (.inl (by show w.heap.size + 1 + 1 < W.heap.size; omega)) _).setCell (.inl (by show w.heap.size + 1 + 1 < W.heap.size; omega)) _
    · by_cases hkl : k < n
      · have hkl2 : ¬ (c = k) := by omega
        have HTK : ∀ w', RowS w' lo hi (.slice (some ⟨b, off, none⟩) n c) T.rows → RowS w' lo hi (.slice (some ⟨b, off, none⟩) k c) (T.rows.take k) := fun w' G1 => by
          exact RowS.take G1 (by rw [HN.out]; omega)
        have HTK := Lib.hid HTK
        have HDR : ∀ w', RowS w' lo hi (.slice (some ⟨b, off, none⟩) n c) T.rows → RowS w' lo hi (.slice (some ⟨b, off + k * 2, none⟩) (n - k) (c - k)) (T.rows.drop k) := fun w' G1 => by
          exact RowS.drop G1 (by rw [HN.out]; omega)
        have HDR := Lib.hid HDR
        go_upto_region 6 with (first
          | (go_at_call 25; refine (taFind_any _ T s lo hi W HT.out (by omega) (by rw [HN.out]; omega)).mono ?_; rw [HK.out, hhit]; rintro e w1 ⟨rfl, hb1'⟩; have hs1 := hb1'.size; have H1 := Lib.hid hb1'; have HE := Lib.hid (OwnR.emptyB (w := w1) (base := W.heap.size) (38) rfl hs1); have G1 := Lib.hid (show RowS (w1.alloc (.cells #[] 38)) lo hi (.slice (some ⟨b, off, none⟩) n c) T.rows from Sl.alloc (FW.out.below H1.out (by omega)) (by omega) _); have ba := (H1.out.alloc hs1 (.cells #[] 38)); have HBA := Lib.hid ba; have d21 := (HB2.out.below H1.out (by omega)).cell 1 (by simp); have d21a := (HB2.out.below ba (by omega)).cell 1 (by simp); clear ba hb1')
          | (at_builtin; refine append_rows (s := .tmp 27) Try.underlying26 Try.info38 (by decide) (by decide) (w1.alloc (.cells #[] 38)) rfl (.tmp 31) rfl HE.out rfl (HTK.out _ G1.out) rfl (by rw [HTL.out]; simp <;> omega) (by simp; omega) ?_; intro v2 w2 ho2 hg2 _; have HO2 := Lib.hid ho2; have hb2 : Below W.heap.size W w2 := HBA.out.grown hg2 (by simp; omega) (fun g hg => (HE.out.lt g hg).1); have HB := Lib.hid hb2; have hs2 := hb2.size; have e30 := (HB3.out.below hb2 (by omega)).cell 0 (by simp); have e31 := (HB3.out.below hb2 (by omega)).cell 1 (by simp); clear ho2 hg2 hb2)
          | (at_builtin; refine append_rw1 (s := .tmp 33) Try.underlying26 Try.info38 (by decide) (by decide) w2 rfl (.tmp 35) rfl HO2.out (s, o) 38 rfl rfl (by rw [List.nil_append, HTL.out]; omega) hs2 ?_; intro v3 w3 ho3 hg3 _; have HO3 := Lib.hid ho3; have HB' := Lib.hid (HB.out.grown hg3 hs2 (fun g hg => (HO2.out.lt g hg).1)); have hs3 := HB'.out.size; clear ho3 hg3))
        clear c20 c21 c30 c31 d21 d21a e30 e31
        refine wp_region_U (fun w' => w'.cell? ⟨w.heap.size, 0, none⟩ = some (.int .i64 dd) ∧ w'.cell? ⟨w.heap.size, 1, none⟩ = some (.slice (some ⟨b, off, none⟩) n c)) [9, 10] (by kernel_rfl) ?_
        refine nameU ?_
        intro V HV
        have hbV : Below W.heap.size W V := by rw [HV.out]; (first | exact HB'.out | exact below_drewN HB'.out 1)
        have HOV := Lib.hid (show OwnR V W.heap.size 38 v3 (([] ++ T.rows.take k) ++ [(s, o)]) by rw [HV.out]; exact HO3.out)
        have hsV := hbV.size
        clear HV
        have HBV := Lib.hid hbV
        have D2 := HB2.out.below hbV (by omega)
        have hS0 : V.cell? ⟨w.heap.size, 0, none⟩ = some (.int .i64 dd) ∧ V.cell? ⟨w.heap.size, 1, none⟩ = some (.slice (some ⟨b, off, none⟩) n c) := ⟨D2.cell 0 (by simp), D2.cell 1 (by simp)⟩
        have GV := Lib.hid (FW.out.below hbV (by omega))
        refine anyU_take (i := 0) (v := .pointer (some ⟨w.heap.size, 0, none⟩)) rfl (by kernel_rfl) (by kernel_rfl) (by kernel_rfl) (fun _ _ _ h => h) ⟨by rfl, fun w' hS' => (by obtain ⟨k1, k2⟩ := hS'; go_simp)⟩ hS0 ?_
        simp only [List.getElem_toArray, List.getElem_cons_zero, Act.put, List.setIfInBounds_toArray, List.set_cons_zero, List.set_cons_succ]
        refine anyU_take (i := 1) (v := .int .i64 dd) rfl (by kernel_rfl) (by kernel_rfl) (by kernel_rfl) (fun _ _ _ h => h) ⟨by rfl, fun w' hS' => (by obtain ⟨k1, k2⟩ := hS'; go_simp)⟩ hS0 ?_
        simp only [List.getElem_toArray, List.getElem_cons_succ, List.getElem_cons_zero, Act.put, List.setIfInBounds_toArray, List.set_cons_zero, List.set_cons_succ]
        refine anyU_take (i := 2) (v := v3) rfl (by kernel_rfl) (by kernel_rfl) (by kernel_rfl) (fun _ _ _ h => h) ⟨by rfl, fun w' hS' => (by obtain ⟨k1, k2⟩ := hS'; go_simp)⟩ hS0 ?_
        simp only [List.getElem_toArray, List.getElem_cons_succ, List.getElem_cons_zero, Act.put, List.setIfInBounds_toArray, List.set_cons_zero, List.set_cons_succ]
        refine anyU_take (i := 3) (v := .pointer (some ⟨w.heap.size, 1, none⟩)) rfl (by kernel_rfl) (by kernel_rfl) (by kernel_rfl) (fun _ _ _ h => h) ⟨by rfl, fun w' hS' => (by obtain ⟨k1, k2⟩ := hS'; go_simp)⟩ hS0 ?_
        simp only [List.getElem_toArray, List.getElem_cons_succ, List.getElem_cons_zero, Act.put, List.setIfInBounds_toArray, List.set_cons_zero, List.set_cons_succ]
        refine anyU_take (i := 4) (v := .slice (some ⟨b, off, none⟩) n c) rfl (by kernel_rfl) (by kernel_rfl) (by kernel_rfl) (fun _ _ _ h => h) ⟨by rfl, fun w' hS' => (by obtain ⟨k1, k2⟩ := hS'; go_simp)⟩ hS0 ?_
        simp only [List.getElem_toArray, List.getElem_cons_succ, List.getElem_cons_zero, Act.put, List.setIfInBounds_toArray, List.set_cons_zero, List.set_cons_succ]
        refine anyU_take (i := 5) (v := .int .i64 k) rfl (by kernel_rfl) (by kernel_rfl) (by kernel_rfl) (fun _ _ _ h => h) ⟨by rfl, fun w' hS' => (by obtain ⟨k1, k2⟩ := hS'; go_simp)⟩ hS0 ?_
        simp only [List.getElem_toArray, List.getElem_cons_succ, List.getElem_cons_zero, Act.put, List.setIfInBounds_toArray, List.set_cons_zero, List.set_cons_succ]
        refine anyU_take (i := 6) (v := .slice (some ⟨b, off + k * 2, none⟩) (n - k) (c - k)) rfl (by kernel_rfl) (by kernel_rfl) (by kernel_rfl) (fun _ _ _ h => h) ⟨by rfl, fun w' hS' => (by obtain ⟨k1, k2⟩ := hS'; simp [go_sem, hki, hkl2])⟩ hS0 ?_
        simp only [List.getElem_toArray, List.getElem_cons_succ, List.getElem_cons_zero, Act.put, List.setIfInBounds_toArray, List.set_cons_zero, List.set_cons_succ]
        refine anyU_ready (rs := [7]) (by kernel_rfl) (by simp) ?_
        refine ReadyU.cons (i := 7) rfl (fun K hK => ?_) ReadyU.nil
        simp only [List.getElem_toArray, List.getElem_cons_succ, List.getElem_cons_zero]
        refine ite_is (by rfl) ?_
        refine step_append_rows (s := .tmp 39) Try.underlying26 Try.info38 (by decide) (by decide) (.tmp 43) rfl HOV.out rfl (HDR.out _ GV.out) rfl (by rw [HDL.out, List.nil_append, List.length_append, HTL.out]; simp <;> omega) hsV ?_
        rw [HL.out]
        intro v4 w4 ho4 hg4 _
        obtain ⟨A4, c4, rfl, hpa⟩ := ho4.plain
        have HO4 := Lib.hid ho4
        have HPA := Lib.hid hpa
        have hb4 := HBV.out.grown hg4 hsV (fun g hg => (HOV.out.lt g hg).1)
        have HB4' := Lib.hid hb4
        have hs4 := hb4.size
        have B4 := Lib.hid (HB4.out.below hb4 (by omega))
        have E2 := HB2.out.below hb4 (by omega)
        have hS1 : w4.cell? ⟨w.heap.size, 0, none⟩ = some (.int .i64 dd) ∧ w4.cell? ⟨w.heap.size, 1, none⟩ = some (.slice (some ⟨b, off, none⟩) n c) := ⟨E2.cell 0 (by simp), E2.cell 1 (by simp)⟩
        clear ho4 hpa hg4 hb4
        refine hK.out _ _ ⟨fun _ => hS1, ?_⟩
        clear hK K
        try simp only [Act.put, List.setIfInBounds_toArray, List.set_cons_zero, List.set_cons_succ]
        refine anyU_take (i := 8) (v := .agg #[.int .i64 dd, .slice A4 GD.length c4]) rfl (by kernel_rfl) (by kernel_rfl) (by kernel_rfl) (fun _ _ _ h => h) ⟨by rfl, fun w' hS' => (by obtain ⟨k1, k2⟩ := hS'; go_simp)⟩ hS1 ?_
        simp only [List.getElem_toArray, List.getElem_cons_succ, List.getElem_cons_zero, Act.put, List.setIfInBounds_toArray, List.set_cons_zero, List.set_cons_succ]
        refine anyU_ready (rs := [9]) (by kernel_rfl) (by simp) ?_
        refine ReadyU.cons (i := 9) rfl (fun K hK => ?_) ReadyU.nil
        simp only [List.getElem_toArray, List.getElem_cons_succ, List.getElem_cons_zero]
        refine ite_is (by rfl) ?_
        simp [go_sem, B4.out.cell 0 (by simp), B4.out.cell 1 (by simp), B4.out.frozen]
        refine hK.out _ _ ⟨fun h => absurd h (by decide), ?_⟩
        clear hK K
        try simp only [List.getElem_toArray, List.getElem_cons_succ, List.getElem_cons_zero, Act.put, List.setIfInBounds_toArray, List.set_cons_zero, List.set_cons_succ]
        refine anyU_ready (rs := [10]) (by kernel_rfl) (by simp) ?_
        refine ReadyU.cons (i := 10) rfl (fun K hK => ?_) ReadyU.nil
        simp only [List.getElem_toArray, List.getElem_cons_succ, List.getElem_cons_zero]
        refine ite_is (by rfl) ?_
        simp [go_sem]
        refine hK.out _ _ ⟨fun h => absurd h (by decide), ?_⟩
        clear hK K
        try simp only [List.getElem_toArray, List.getElem_cons_succ, List.getElem_cons_zero, Act.put, List.setIfInBounds_toArray, List.set_cons_zero, List.set_cons_succ]
        refine anyU_done (by kernel_rfl) ?_ _
        go_wp2_with fail
        (try simp only [Exit.inBlock, Exit.then])
        refine bodyPost_ret (results_tab rfl _ _ _ _ _ rfl (box_store B4.out)) rfl ?_
        refine ⟨_, W.heap.size, w4.heap.size, rfl, ⟨_, _, _, _, rfl, HPA.out⟩, ⟨_, c4, rfl, ?_⟩, .inr (by omega), by simp, below_store (HBW.out.trans (HB4'.out.mono (by omega))) (by omega)⟩
        exact (HO4.out.rows.setCell (.inl (by show w.heap.size + 1 + 1 < W.heap.size; omega)) _).setCell (.inl (by show w.heap.size + 1 + 1 < W.heap.size; omega)) _
      · obtain rfl : k = n := by omega
        by_cases hcn : c = k
        · have hck : k = c := hcn.symm
          subst hck
          clear hcn
          have HTK : ∀ w', RowS w' lo hi (.slice (some ⟨b, off, none⟩) k k) T.rows → RowS w' lo hi (.slice (some ⟨b, off, none⟩) k k) (T.rows.take k) := fun w' G1 => by
            exact RowS.take G1 (by rw [HN.out]; omega)
          have HTK := Lib.hid HTK
          have HDR : ∀ w', RowS w' lo hi (.slice (some ⟨b, off, none⟩) k k) T.rows → RowS w' lo hi (.slice (some ⟨b, off, none⟩) 0 0) (T.rows.drop k) := fun w' G1 => by
            rw [List.drop_eq_nil_of_le (by rw [HN.out]; exact Nat.le_refl _)]; exact RowS.empty _ _ _ _ _ (by unfold maxLen; omega)
          have HDR := Lib.hid HDR
          go_upto_region 6 with (first
            | (go_at_call 25; refine (taFind_any _ T s lo hi W HT.out (by omega) (by rw [HN.out]; omega)).mono ?_; rw [HK.out, hhit]; rintro e w1 ⟨rfl, hb1'⟩; have hs1 := hb1'.size; have H1 := Lib.hid hb1'; have HE := Lib.hid (OwnR.emptyB (w := w1) (base := W.heap.size) (38) rfl hs1); have G1 := Lib.hid (show RowS (w1.alloc (.cells #[] 38)) lo hi (.slice (some ⟨b, off, none⟩) k k) T.rows from Sl.alloc (FW.out.below H1.out (by omega)) (by omega) _); have ba := (H1.out.alloc hs1 (.cells #[] 38)); have HBA := Lib.hid ba; have d21 := (HB2.out.below H1.out (by omega)).cell 1 (by simp); have d21a := (HB2.out.below ba (by omega)).cell 1 (by simp); clear ba hb1')
            | (at_builtin; refine append_rows (s := .tmp 27) Try.underlying26 Try.info38 (by decide) (by decide) (w1.alloc (.cells #[] 38)) rfl (.tmp 31) rfl HE.out rfl (HTK.out _ G1.out) rfl (by rw [HTL.out]; simp <;> omega) (by simp; omega) ?_; intro v2 w2 ho2 hg2 _; have HO2 := Lib.hid ho2; have hb2 : Below W.heap.size W w2 := HBA.out.grown hg2 (by simp; omega) (fun g hg => (HE.out.lt g hg).1); have HB := Lib.hid hb2; have hs2 := hb2.size; have e30 := (HB3.out.below hb2 (by omega)).cell 0 (by simp); have e31 := (HB3.out.below hb2 (by omega)).cell 1 (by simp); clear ho2 hg2 hb2)
            | (at_builtin; refine append_rw1 (s := .tmp 33) Try.underlying26 Try.info38 (by decide) (by decide) w2 rfl (.tmp 35) rfl HO2.out (s, o) 38 rfl rfl (by rw [List.nil_append, HTL.out]; omega) hs2 ?_; intro v3 w3 ho3 hg3 _; have HO3 := Lib.hid ho3; have HB' := Lib.hid (HB.out.grown hg3 hs2 (fun g hg => (HO2.out.lt g hg).1)); have hs3 := HB'.out.size; clear ho3 hg3))
          clear c20 c21 c30 c31 d21 d21a e30 e31
          refine wp_region_U (fun w' => w'.cell? ⟨w.heap.size, 0, none⟩ = some (.int .i64 dd) ∧ w'.cell? ⟨w.heap.size, 1, none⟩ = some (.slice (some ⟨b, off, none⟩) k k)) [9, 10] (by kernel_rfl) ?_
          refine nameU ?_
          intro V HV
          have hbV : Below W.heap.size W V := by rw [HV.out]; (first | exact HB'.out | exact below_drewN HB'.out 1)
          have HOV := Lib.hid (show OwnR V W.heap.size 38 v3 (([] ++ T.rows.take k) ++ [(s, o)]) by rw [HV.out]; exact HO3.out)
          have hsV := hbV.size
          clear HV
          have HBV := Lib.hid hbV
          have D2 := HB2.out.below hbV (by omega)
          have hS0 : V.cell? ⟨w.heap.size, 0, none⟩ = some (.int .i64 dd) ∧ V.cell? ⟨w.heap.size, 1, none⟩ = some (.slice (some ⟨b, off, none⟩) k k) := ⟨D2.cell 0 (by simp), D2.cell 1 (by simp)⟩
          have GV := Lib.hid (FW.out.below hbV (by omega))
          refine anyU_take (i := 0) (v := .pointer (some ⟨w.heap.size, 0, none⟩)) rfl (by kernel_rfl) (by kernel_rfl) (by kernel_rfl) (fun _ _ _ h => h) ⟨by rfl, fun w' hS' => (by obtain ⟨k1, k2⟩ := hS'; go_simp)⟩ hS0 ?_
          simp only [List.getElem_toArray, List.getElem_cons_zero, Act.put, List.setIfInBounds_toArray, List.set_cons_zero, List.set_cons_succ]
          refine anyU_take (i := 1) (v := .int .i64 dd) rfl (by kernel_rfl) (by kernel_rfl) (by kernel_rfl) (fun _ _ _ h => h) ⟨by rfl, fun w' hS' => (by obtain ⟨k1, k2⟩ := hS'; go_simp)⟩ hS0 ?_
          simp only [List.getElem_toArray, List.getElem_cons_succ, List.getElem_cons_zero, Act.put, List.setIfInBounds_toArray, List.set_cons_zero, List.set_cons_succ]
          refine anyU_take (i := 2) (v := v3) rfl (by kernel_rfl) (by kernel_rfl) (by kernel_rfl) (fun _ _ _ h => h) ⟨by rfl, fun w' hS' => (by obtain ⟨k1, k2⟩ := hS'; go_simp)⟩ hS0 ?_
          simp only [List.getElem_toArray, List.getElem_cons_succ, List.getElem_cons_zero, Act.put, List.setIfInBounds_toArray, List.set_cons_zero, List.set_cons_succ]
          refine anyU_take (i := 3) (v := .pointer (some ⟨w.heap.size, 1, none⟩)) rfl (by kernel_rfl) (by kernel_rfl) (by kernel_rfl) (fun _ _ _ h => h) ⟨by rfl, fun w' hS' => (by obtain ⟨k1, k2⟩ := hS'; go_simp)⟩ hS0 ?_
          simp only [List.getElem_toArray, List.getElem_cons_succ, List.getElem_cons_zero, Act.put, List.setIfInBounds_toArray, List.set_cons_zero, List.set_cons_succ]
          refine anyU_take (i := 4) (v := .slice (some ⟨b, off, none⟩) k k) rfl (by kernel_rfl) (by kernel_rfl) (by kernel_rfl) (fun _ _ _ h => h) ⟨by rfl, fun w' hS' => (by obtain ⟨k1, k2⟩ := hS'; go_simp)⟩ hS0 ?_
          simp only [List.getElem_toArray, List.getElem_cons_succ, List.getElem_cons_zero, Act.put, List.setIfInBounds_toArray, List.set_cons_zero, List.set_cons_succ]
          refine anyU_take (i := 5) (v := .int .i64 k) rfl (by kernel_rfl) (by kernel_rfl) (by kernel_rfl) (fun _ _ _ h => h) ⟨by rfl, fun w' hS' => (by obtain ⟨k1, k2⟩ := hS'; go_simp)⟩ hS0 ?_
          simp only [List.getElem_toArray, List.getElem_cons_succ, List.getElem_cons_zero, Act.put, List.setIfInBounds_toArray, List.set_cons_zero, List.set_cons_succ]
          refine anyU_take (i := 6) (v := .slice (some ⟨b, off, none⟩) 0 0) rfl (by kernel_rfl) (by kernel_rfl) (by kernel_rfl) (fun _ _ _ h => h) ⟨by rfl, fun w' hS' => (by obtain ⟨k1, k2⟩ := hS'; simp [go_sem])⟩ hS0 ?_
          simp only [List.getElem_toArray, List.getElem_cons_succ, List.getElem_cons_zero, Act.put, List.setIfInBounds_toArray, List.set_cons_zero, List.set_cons_succ]
          refine anyU_ready (rs := [7]) (by kernel_rfl) (by simp) ?_
          refine ReadyU.cons (i := 7) rfl (fun K hK => ?_) ReadyU.nil
          simp only [List.getElem_toArray, List.getElem_cons_succ, List.getElem_cons_zero]
          refine ite_is (by rfl) ?_
          refine step_append_rows (s := .tmp 39) Try.underlying26 Try.info38 (by decide) (by decide) (.tmp 43) rfl HOV.out rfl (HDR.out _ GV.out) rfl (by rw [HDL.out, List.nil_append, List.length_append, HTL.out]; simp <;> omega) hsV ?_
          rw [HL.out]
          intro v4 w4 ho4 hg4 _
          obtain ⟨A4, c4, rfl, hpa⟩ := ho4.plain
          have HO4 := Lib.hid ho4
          have HPA := Lib.hid hpa
          have hb4 := HBV.out.grown hg4 hsV (fun g hg => (HOV.out.lt g hg).1)
          have HB4' := Lib.hid hb4
          have hs4 := hb4.size
          have B4 := Lib.hid (HB4.out.below hb4 (by omega))
          have E2 := HB2.out.below hb4 (by omega)
          have hS1 : w4.cell? ⟨w.heap.size, 0, none⟩ = some (.int .i64 dd) ∧ w4.cell? ⟨w.heap.size, 1, none⟩ = some (.slice (some ⟨b, off, none⟩) k k) := ⟨E2.cell 0 (by simp), E2.cell 1 (by simp)⟩
          clear ho4 hpa hg4 hb4
          refine hK.out _ _ ⟨fun _ => hS1, ?_⟩
          clear hK K
          try simp only [Act.put, List.setIfInBounds_toArray, List.set_cons_zero, List.set_cons_succ]
          refine anyU_take (i := 8) (v := .agg #[.int .i64 dd, .slice A4 GD.length c4]) rfl (by kernel_rfl) (by kernel_rfl) (by kernel_rfl) (fun _ _ _ h => h) ⟨by rfl, fun w' hS' => (by obtain ⟨k1, k2⟩ := hS'; go_simp)⟩ hS1 ?_
          simp only [List.getElem_toArray, List.getElem_cons_succ, List.getElem_cons_zero, Act.put, List.setIfInBounds_toArray, List.set_cons_zero, List.set_cons_succ]
          refine anyU_ready (rs := [9]) (by kernel_rfl) (by simp) ?_
          refine ReadyU.cons (i := 9) rfl (fun K hK => ?_) ReadyU.nil
          simp only [List.getElem_toArray, List.getElem_cons_succ, List.getElem_cons_zero]
          refine ite_is (by rfl) ?_
          simp [go_sem, B4.out.cell 0 (by simp), B4.out.cell 1 (by simp), B4.out.frozen]
          refine hK.out _ _ ⟨fun h => absurd h (by decide), ?_⟩
          clear hK K
          try simp only [List.getElem_toArray, List.getElem_cons_succ, List.getElem_cons_zero, Act.put, List.setIfInBounds_toArray, List.set_cons_zero, List.set_cons_succ]
          refine anyU_ready (rs := [10]) (by kernel_rfl) (by simp) ?_
          refine ReadyU.cons (i := 10) rfl (fun K hK => ?_) ReadyU.nil
          simp only [List.getElem_toArray, List.getElem_cons_succ, List.getElem_cons_zero]
          refine ite_is (by rfl) ?_
          simp [go_sem]
          refine hK.out _ _ ⟨fun h => absurd h (by decide), ?_⟩
          clear hK K
          try simp only [List.getElem_toArray, List.getElem_cons_succ, List.getElem_cons_zero, Act.put, List.setIfInBounds_toArray, List.set_cons_zero, List.set_cons_succ]
          refine anyU_done (by kernel_rfl) ?_ _
          go_wp2_with fail
          (try simp only [Exit.inBlock, Exit.then])
          refine bodyPost_ret (results_tab rfl _ _ _ _ _ rfl (box_store B4.out)) rfl ?_
          refine ⟨_, W.heap.size, w4.heap.size, rfl, ⟨_, _, _, _, rfl, HPA.out⟩, ⟨_, c4, rfl, ?_⟩, .inr (by omega), by simp, below_store (HBW.out.trans (HB4'.out.mono (by omega))) (by omega)⟩
          exact (HO4.out.rows.setCell (.inl (by show w.heap.size + 1 + 1 < W.heap.size; omega)) _).setCell (.inl (by show w.heap.size + 1 + 1 < W.heap.size; omega)) _
        · have hcn2 : k < c := by omega
          have HTK : ∀ w', RowS w' lo hi (.slice (some ⟨b, off, none⟩) k c) T.rows → RowS w' lo hi (.slice (some ⟨b, off, none⟩) k c) (T.rows.take k) := fun w' G1 => by
            exact RowS.take G1 (by rw [HN.out]; omega)
          have HTK := Lib.hid HTK
          have HDR : ∀ w', RowS w' lo hi (.slice (some ⟨b, off, none⟩) k c) T.rows → RowS w' lo hi (.slice (some ⟨b, off + k * 2, none⟩) 0 (c - k)) (T.rows.drop k) := fun w' G1 => by
            rw [List.drop_eq_nil_of_le (by rw [HN.out]; exact Nat.le_refl _)]; exact RowS.empty _ _ _ _ _ (by unfold maxLen; omega)
          have HDR := Lib.hid HDR
          go_upto_region 6 with (first
            | (go_at_call 25; refine (taFind_any _ T s lo hi W HT.out (by omega) (by rw [HN.out]; omega)).mono ?_; rw [HK.out, hhit]; rintro e w1 ⟨rfl, hb1'⟩; have hs1 := hb1'.size; have H1 := Lib.hid hb1'; have HE := Lib.hid (OwnR.emptyB (w := w1) (base := W.heap.size) (38) rfl hs1); have G1 := Lib.hid (show RowS (w1.alloc (.cells #[] 38)) lo hi (.slice (some ⟨b, off, none⟩) k c) T.rows from Sl.alloc (FW.out.below H1.out (by omega)) (by omega) _); have ba := (H1.out.alloc hs1 (.cells #[] 38)); have HBA := Lib.hid ba; have d21 := (HB2.out.below H1.out (by omega)).cell 1 (by simp); have d21a := (HB2.out.below ba (by omega)).cell 1 (by simp); clear ba hb1')
            | (at_builtin; refine append_rows (s := .tmp 27) Try.underlying26 Try.info38 (by decide) (by decide) (w1.alloc (.cells #[] 38)) rfl (.tmp 31) rfl HE.out rfl (HTK.out _ G1.out) rfl (by rw [HTL.out]; simp <;> omega) (by simp; omega) ?_; intro v2 w2 ho2 hg2 _; have HO2 := Lib.hid ho2; have hb2 : Below W.heap.size W w2 := HBA.out.grown hg2 (by simp; omega) (fun g hg => (HE.out.lt g hg).1); have HB := Lib.hid hb2; have hs2 := hb2.size; have e30 := (HB3.out.below hb2 (by omega)).cell 0 (by simp); have e31 := (HB3.out.below hb2 (by omega)).cell 1 (by simp); clear ho2 hg2 hb2)
            | (at_builtin; refine append_rw1 (s := .tmp 33) Try.underlying26 Try.info38 (by decide) (by decide) w2 rfl (.tmp 35) rfl HO2.out (s, o) 38 rfl rfl (by rw [List.nil_append, HTL.out]; omega) hs2 ?_; intro v3 w3 ho3 hg3 _; have HO3 := Lib.hid ho3; have HB' := Lib.hid (HB.out.grown hg3 hs2 (fun g hg => (HO2.out.lt g hg).1)); have hs3 := HB'.out.size; clear ho3 hg3))
          clear c20 c21 c30 c31 d21 d21a e30 e31
          refine wp_region_U (fun w' => w'.cell? ⟨w.heap.size, 0, none⟩ = some (.int .i64 dd) ∧ w'.cell? ⟨w.heap.size, 1, none⟩ = some (.slice (some ⟨b, off, none⟩) k c)) [9, 10] (by kernel_rfl) ?_
          refine nameU ?_
          intro V HV
          have hbV : Below W.heap.size W V := by rw [HV.out]; (first | exact HB'.out | exact below_drewN HB'.out 1)
          have HOV := Lib.hid (show OwnR V W.heap.size 38 v3 (([] ++ T.rows.take k) ++ [(s, o)]) by rw [HV.out]; exact HO3.out)
          have hsV := hbV.size
          clear HV
          have HBV := Lib.hid hbV
          have D2 := HB2.out.below hbV (by omega)
          have hS0 : V.cell? ⟨w.heap.size, 0, none⟩ = some (.int .i64 dd) ∧ V.cell? ⟨w.heap.size, 1, none⟩ = some (.slice (some ⟨b, off, none⟩) k c) := ⟨D2.cell 0 (by simp), D2.cell 1 (by simp)⟩
          have GV := Lib.hid (FW.out.below hbV (by omega))
          refine anyU_take (i := 0) (v := .pointer (some ⟨w.heap.size, 0, none⟩)) rfl (by kernel_rfl) (by kernel_rfl) (by kernel_rfl) (fun _ _ _ h => h) ⟨by rfl, fun w' hS' => (by obtain ⟨k1, k2⟩ := hS'; go_simp)⟩ hS0 ?_
          simp only [List.getElem_toArray, List.getElem_cons_zero, Act.put, List.setIfInBounds_toArray, List.set_cons_zero, List.set_cons_succ]
          refine anyU_take (i := 1) (v := .int .i64 dd) rfl (by kernel_rfl) (by kernel_rfl) (by kernel_rfl) (fun _ _ _ h => h) ⟨by rfl, fun w' hS' => (by obtain ⟨k1, k2⟩ := hS'; go_simp)⟩ hS0 ?_
          simp only [List.getElem_toArray, List.getElem_cons_succ, List.getElem_cons_zero, Act.put, List.setIfInBounds_toArray, List.set_cons_zero, List.set_cons_succ]
          refine anyU_take (i := 2) (v := v3) rfl (by kernel_rfl) (by kernel_rfl) (by kernel_rfl) (fun _ _ _ h => h) ⟨by rfl, fun w' hS' => (by obtain ⟨k1, k2⟩ := hS'; go_simp)⟩ hS0 ?_
          simp only [List.getElem_toArray, List.getElem_cons_succ, List.getElem_cons_zero, Act.put, List.setIfInBounds_toArray, List.set_cons_zero, List.set_cons_succ]
          refine anyU_take (i := 3) (v := .pointer (some ⟨w.heap.size, 1, none⟩)) rfl (by kernel_rfl) (by kernel_rfl) (by kernel_rfl) (fun _ _ _ h => h) ⟨by rfl, fun w' hS' => (by obtain ⟨k1, k2⟩ := hS'; go_simp)⟩ hS0 ?_
          simp only [List.getElem_toArray, List.getElem_cons_succ, List.getElem_cons_zero, Act.put, List.setIfInBounds_toArray, List.set_cons_zero, List.set_cons_succ]
          refine anyU_take (i := 4) (v := .slice (some ⟨b, off, none⟩) k c) rfl (by kernel_rfl) (by kernel_rfl) (by kernel_rfl) (fun _ _ _ h => h) ⟨by rfl, fun w' hS' => (by obtain ⟨k1, k2⟩ := hS'; go_simp)⟩ hS0 ?_
          simp only [List.getElem_toArray, List.getElem_cons_succ, List.getElem_cons_zero, Act.put, List.setIfInBounds_toArray, List.set_cons_zero, List.set_cons_succ]
          refine anyU_take (i := 5) (v := .int .i64 k) rfl (by kernel_rfl) (by kernel_rfl) (by kernel_rfl) (fun _ _ _ h => h) ⟨by rfl, fun w' hS' => (by obtain ⟨k1, k2⟩ := hS'; go_simp)⟩ hS0 ?_
          simp only [List.getElem_toArray, List.getElem_cons_succ, List.getElem_cons_zero, Act.put, List.setIfInBounds_toArray, List.set_cons_zero, List.set_cons_succ]
          refine anyU_take (i := 6) (v := .slice (some ⟨b, off + k * 2, none⟩) 0 (c - k)) rfl (by kernel_rfl) (by kernel_rfl) (by kernel_rfl) (fun _ _ _ h => h) ⟨by rfl, fun w' hS' => (by obtain ⟨k1, k2⟩ := hS'; simp [go_sem, hcn])⟩ hS0 ?_
          simp only [List.getElem_toArray, List.getElem_cons_succ, List.getElem_cons_zero, Act.put, List.setIfInBounds_toArray, List.set_cons_zero, List.set_cons_succ]
          refine anyU_ready (rs := [7]) (by kernel_rfl) (by simp) ?_
          refine ReadyU.cons (i := 7) rfl (fun K hK => ?_) ReadyU.nil
          simp only [List.getElem_toArray, List.getElem_cons_succ, List.getElem_cons_zero]
          refine ite_is (by rfl) ?_
          refine step_append_rows (s := .tmp 39) Try.underlying26 Try.info38 (by decide) (by decide) (.tmp 43) rfl HOV.out rfl (HDR.out _ GV.out) rfl (by rw [HDL.out, List.nil_append, List.length_append, HTL.out]; simp <;> omega) hsV ?_
          rw [HL.out]
          intro v4 w4 ho4 hg4 _
          obtain ⟨A4, c4, rfl, hpa⟩ := ho4.plain
          have HO4 := Lib.hid ho4
          have HPA := Lib.hid hpa
          have hb4 := HBV.out.grown hg4 hsV (fun g hg => (HOV.out.lt g hg).1)
          have HB4' := Lib.hid hb4
          have hs4 := hb4.size
          have B4 := Lib.hid (HB4.out.below hb4 (by omega))
          have E2 := HB2.out.below hb4 (by omega)
          have hS1 : w4.cell? ⟨w.heap.size, 0, none⟩ = some (.int .i64 dd) ∧ w4.cell? ⟨w.heap.size, 1, none⟩ = some (.slice (some ⟨b, off, none⟩) k c) := ⟨E2.cell 0 (by simp), E2.cell 1 (by simp)⟩
          clear ho4 hpa hg4 hb4
          refine hK.out _ _ ⟨fun _ => hS1, ?_⟩
          clear hK K
          try simp only [Act.put, List.setIfInBounds_toArray, List.set_cons_zero, List.set_cons_succ]
          refine anyU_take (i := 8) (v := .agg #[.int .i64 dd, .slice A4 GD.length c4]) rfl (by kernel_rfl) (by kernel_rfl) (by kernel_rfl) (fun _ _ _ h => h) ⟨by rfl, fun w' hS' => (by obtain ⟨k1, k2⟩ := hS'; go_simp)⟩ hS1 ?_
          simp only [List.getElem_toArray, List.getElem_cons_succ, List.getElem_cons_zero, Act.put, List.setIfInBounds_toArray, List.set_cons_zero, List.set_cons_succ]
          refine anyU_ready (rs := [9]) (by kernel_rfl) (by simp) ?_
          refine ReadyU.cons (i := 9) rfl (fun K hK => ?_) ReadyU.nil
          simp only [List.getElem_toArray, List.getElem_cons_succ, List.getElem_cons_zero]
          refine ite_is (by rfl) ?_
          simp [go_sem, B4.out.cell 0 (by simp), B4.out.cell 1 (by simp), B4.out.frozen]
          refine hK.out _ _ ⟨fun h => absurd h (by decide), ?_⟩
          clear hK K
          try simp only [List.getElem_toArray, List.getElem_cons_succ, List.getElem_cons_zero, Act.put, List.setIfInBounds_toArray, List.set_cons_zero, List.set_cons_succ]
          refine anyU_ready (rs := [10]) (by kernel_rfl) (by simp) ?_
          refine ReadyU.cons (i := 10) rfl (fun K hK => ?_) ReadyU.nil
          simp only [List.getElem_toArray, List.getElem_cons_succ, List.getElem_cons_zero]
          refine ite_is (by rfl) ?_
          simp [go_sem]
          refine hK.out _ _ ⟨fun h => absurd h (by decide), ?_⟩
          clear hK K
          try simp only [List.getElem_toArray, List.getElem_cons_succ, List.getElem_cons_zero, Act.put, List.setIfInBounds_toArray, List.set_cons_zero, List.set_cons_succ]
          refine anyU_done (by kernel_rfl) ?_ _
          go_wp2_with fail
          (try simp only [Exit.inBlock, Exit.then])
          refine bodyPost_ret (results_tab rfl _ _ _ _ _ rfl (box_store B4.out)) rfl ?_
          refine ⟨_, W.heap.size, w4.heap.size, rfl, ⟨_, _, _, _, rfl, HPA.out⟩, ⟨_, c4, rfl, ?_⟩, .inr (by omega), by simp, below_store (HBW.out.trans (HB4'.out.mono (by omega))) (by omega)⟩
          exact (HO4.out.rows.setCell (.inl (by show w.heap.size + 1 + 1 < W.heap.size; omega)) _).setCell (.inl (by show w.heap.size + 1 + 1 < W.heap.size; omega)) _

end Go.Proofs.Ytlfdhhmccjkogaa
