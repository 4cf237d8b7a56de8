/-
  Several texts in one: PrO, PrQ. No condition on any program.
-/
import Derived.Test.YtkcbocoimbhhaaaGreatOlD

/- Contract of OrientedLabeling (program). -/
namespace Go.Proofs.YtkcbocoimbhhaaaGreat
open Go.ChangeShapes Go.WideShapes Go.ChangeAt Go.RowKit
set_option linter.unusedVariables false

theorem ori_short {N : NetD} {o : List (List Int)} (hg : N.good = true) (ho : oriOk N o = true) {v : Nat} (hv : v < o.length) : (nthL o v).length ≤ 6 := by
  unfold oriOk oriB at ho
  rw [Bool.and_eq_true, Bool.and_eq_true, Bool.and_eq_true] at ho
  have hp := ho.2.1.1
  have hl := ports_len hp
  rw [ports_row hp (by omega)]
  have := good_row_ok hg (v := v) (by omega)
  unfold NetD.rowOk at this
  rw [Bool.and_eq_true] at this
  simpa using this.1
theorem ownSel {W : World} {base lo : Nat} {e : TypeId} {r : Value} {g : Int → Value} {h : Int → List Int} {row : List Int} (hO : Own W base e r (row.map g)) (hr : ∀ x ∈ row, IntS W lo W.heap.size (g x) (h x)) (a1 : lo ≤ base) : IntSS W lo W.heap.size r (row.map h) := by
  have hl : (row.map g).length = (row.map h).length := by simp
  have hs : Sl W lo W.heap.size 1 r (row.map h).length (fun k => g (nth row k)) := by
    have h2 := Sl.of_own (f := fun k => g (nth row k)) hO (fun k hk => by
      simp only [List.length_map] at hk
      rw [List.getElem?_map, List.getElem?_eq_getElem (by omega), nth_eq (by omega)]; rfl)
    rw [hl] at h2
    exact h2.mono a1 (Nat.le_refl _)
  refine ⟨_, hs, fun k hk => ?_⟩
  simp only [List.length_map] at hk
  have hm : nthL (row.map h) k = h (nth row k) := by rw [nthL_eq (by simpa using hk), List.getElem_map, nth_eq hk]
  rw [hm]
  exact hr _ (by rw [nth_eq hk]; exact List.getElem_mem hk)
theorem IntS.take1 {w : World} {lo hi n c : Nat} {A : Option Addr} {zs : List Int} (h : IntS w lo hi (.slice A n c) zs) (hn : 1 ≤ zs.length) : IntS w lo hi (.slice A 1 c) (zs.take 1) := by
  obtain ⟨A', c', e, h1, h2, h3⟩ := h.form
  injection e with e1 e2 e3
  subst e1 e3
  have hl : (zs.take 1).length = 1 := by simp; omega
  have h4 := h3 (by omega)
  obtain ⟨b, off, e4, b1, b2, hc⟩ := h4
  refine ⟨A, c, by rw [hl], by rw [hl]; omega, h2, fun _ => ⟨b, off, e4, b1, b2, fun j hj => ?_⟩⟩
  rw [hl] at hj
  obtain rfl : j = 0 := by omega
  have := hc 0 (by omega)
  have e9 : nth (zs.take 1) 0 = nth zs 0 := by
    cases zs with
    | nil => simp at hn
    | cons x xs => rfl
  show w.cell? ⟨b, off + 0, none⟩ = some (Value.int .i64 (nth (zs.take 1) 0)) ∧ _
  rw [e9]
  exact this
theorem ori_few {N : NetD} {o : List (List Int)} (hg : N.good = true) (ho : oriOk N o = true) : o.length ≤ 40 := by
  unfold oriOk oriB at ho
  rw [Bool.and_eq_true, Bool.and_eq_true, Bool.and_eq_true] at ho
  have hl := ports_len ho.2.1.1
  have := good_n hg
  omega
theorem rows_snoc {P : PrD} {S v : Nat} {o L : List (List Int)} {l9 : List Int} (h : ∀ k, k < v → rowO P S (nthL o k) = some (nthL L k)) (hl : L.length = v) (h9 : rowO P S (nthL o v) = some l9) : ∀ k, k < v + 1 → rowO P S (nthL o k) = some (nthL (L ++ [l9]) k) := fun k hk => by
  by_cases e : k = v
  · subst e; subst hl; rw [nthL_append_at]; exact h9
  · rw [nthL_append_left (by omega)]; exact h k (by omega)

set_option maxHeartbeats 8000000 in
set_option maxRecDepth 100000 in
theorem OrientedLabeling_any (v1 : Value) (P : PrD) (lo1 hi1 : Nat) (v2 : Value) (N : NetD) (lo2 hi2 : Nat) (v3 : Value) (o : List (List Int)) (lo3 hi3 : Nat) (w : World) (h1 : Pro w lo1 hi1 v1 P) (hh1 : hi1 ≤ w.heap.size) (h2 : Net w lo2 hi2 v2 N) (hh2 : hi2 ≤ w.heap.size) (h3 : IntSS w lo3 hi3 v3 o) (hh3 : hi3 ≤ w.heap.size) (hsz : N.sz ≤ 1048576) :
    Calls Tryz.prog 11 #[v1, v2, v3] w fun e w' => ∃ r, e = .returned (.tuple #[r, .bool (olOk P N o)]) ∧ IntSSx w' w.heap.size w'.heap.size r (olL P N o) ∧ Below w.heap.size w w' := by
  have F1 := Lib.hid h1
  obtain ⟨A1, c1, A1', c1', rfl, hc1, hd1⟩ := h1.parts
  clear h1
  have F2 := Lib.hid h2
  obtain ⟨A2, c2, A2', c2', A2'', c2'', rfl, hc2, hd2, _⟩ := h2.parts
  clear h2
  have F3 := Lib.hid h3
  obtain ⟨A3, c3, rfl, hc3, hd3⟩ := h3.dims
  clear h3
  obtain ⟨WA, HWA⟩ : ∃ W, Hid (W = ((w.alloc (.cells #[.int .i64 P.L, .int .i64 P.D, .slice A1 P.nodes.length c1, .slice A1' P.edges.length c1'] 34)).alloc (.cells #[.slice A2 N.ends.length c2, .slice A2' N.ids.length c2', .slice A2'' N.inputs.length c2''] 38))) := ⟨_, Lib.hid rfl⟩
  have hbA : Below w.heap.size w WA := by rw [HWA.out]; exact (((Below.refl _ _).alloc (Nat.le_refl _) _).alloc (by simp; try omega) _)
  have hsA : w.heap.size + 2 ≤ WA.heap.size := by rw [HWA.out]; simp; try omega
  have bx1 : BoxN WA (w.heap.size) #[.int .i64 P.L, .int .i64 P.D, .slice A1 P.nodes.length c1, .slice A1' P.edges.length c1'] 34 := by rw [HWA.out]; exact ((BoxN.new' _ _ _ (by simp)).still (grown_alloc _ _))
  have bx2 : BoxN WA (w.heap.size + 1) #[.slice A2 N.ends.length c2, .slice A2' N.ids.length c2', .slice A2'' N.inputs.length c2''] 38 := by rw [HWA.out]; exact (BoxN.new' _ _ _ (by simp))
  have G1 := Lib.hid (Pro.below F1.out hbA hh1); clear F1
  have G2 := Lib.hid (Net.below F2.out hbA hh2); clear F2
  have G3 := Lib.hid (ISS.below F3.out hbA hh3); clear F3
  go_enter Tryz.func11, Tryz.ntmps11
  go_upto_region 1 with (fail)
  rw [← HWA.out]; clear HWA
  have egc := enters_of Tryz.func32 (by kernel_rfl) rfl
  have kbx1_0 : WA.cell? ⟨w.heap.size, 0, none⟩ = some (.int .i64 P.L) := bx1.cell 0 (by simp)
  have kbx1_1 : WA.cell? ⟨w.heap.size, 1, none⟩ = some (.int .i64 P.D) := bx1.cell 1 (by simp)
  have kbx1_2 : WA.cell? ⟨w.heap.size, 2, none⟩ = some (.slice A1 P.nodes.length c1) := bx1.cell 2 (by simp)
  have kbx1_3 : WA.cell? ⟨w.heap.size, 3, none⟩ = some (.slice A1' P.edges.length c1') := bx1.cell 3 (by simp)
  go_wp2_with fail
  clear kbx1_0 kbx1_1 kbx1_2 kbx1_3
  refine (ZeroOriented_any _ P _ _ _ G1.out (by omega)).mono ?_
  rintro e W1 ⟨hsome, hnone, hb1⟩
  have hg1 := grown_below hb1; clear hb1
  have hs1 := hg1.size
  have HF1 := Lib.hid ((Turned.refl WA.heap.size WA.heap.size WA).still hg1)
  cases hz : zoS P with
  | none =>
    obtain rfl := hnone hz
    clear hsome hnone
    have HNO := Lib.hid (olOk_no (N := N) (o := o) hz)
    clear hz
    go_wp2_with fail
    go_ret2
    exact ⟨.slice none 0 0, ret_pb HNO.out.symm, by rw [olL_no HNO.out]; exact SSx.nil _ _ _, (HF1.out.below_of hbA (by omega) (by omega))⟩
  | some S =>
    obtain ⟨ro, ri, rfl, hro, hri⟩ := hsome S hz
    have HZS := Lib.hid hz; clear hz hsome hnone
    obtain ⟨Ao, co, rfl, hco, hdo⟩ := hro.dims
    obtain ⟨Ai, ci, rfl, hci, hdi⟩ := hri.dims
    have RO := Lib.hid hro; clear hro
    have RI := Lib.hid hri; clear hri
    have HNE := Lib.hid (zo_ne HZS.out)
    obtain ⟨lo9, HLO⟩ : ∃ z, Hid ((zoOut P.L.toNat S).length = z) := ⟨_, Lib.hid rfl⟩
    obtain ⟨li9, HLI⟩ : ∃ z, Hid ((zoIn P P.L.toNat S).length = z) := ⟨_, Lib.hid rfl⟩
    have hne := HNE.out
    rw [HLO.out, HLI.out] at hne
    rw [HLO.out] at RO hco
    rw [HLI.out] at RI hci
    try rw [HLO.out]
    try rw [HLI.out]
    have kbx2_0 : W1.cell? ⟨w.heap.size + 1, 0, none⟩ = some (.slice A2 N.ends.length c2) := (HF1.out.boxN bx2 (by omega)).cell 0 (by simp)
    have kbx2_1 : W1.cell? ⟨w.heap.size + 1, 1, none⟩ = some (.slice A2' N.ids.length c2') := (HF1.out.boxN bx2 (by omega)).cell 1 (by simp)
    have kbx2_2 : W1.cell? ⟨w.heap.size + 1, 2, none⟩ = some (.slice A2'' N.inputs.length c2'') := (HF1.out.boxN bx2 (by omega)).cell 2 (by simp)
    go_wp2_with fail
    clear kbx2_0 kbx2_1 kbx2_2
    refine (IsNetwork_any _ N _ _ _ (Net.turned G2.out HF1.out (by omega) (by omega)) (by omega) hsz).mono ?_
    rintro e W2 ⟨rfl, hb2⟩
    have hg2 := grown_below hb2; clear hb2
    have hs2 := hg2.size
    have HF2 := Lib.hid (HF1.out.still hg2); clear HF1
    have RO2 := Lib.hid (IntS.still RO.out hg2 (by omega)); clear RO
    have RI2 := Lib.hid (IntS.still RI.out hg2 (by omega)); clear RI
    by_cases hgn : N.good = true
    case neg =>
      have hgn' : N.good = false := by simpa using hgn
      rw [hgn']
      have HGN := Lib.hid hgn'; clear hgn hgn'
      go_wp2_with fail
      go_ret2
      exact ⟨.slice none 0 0, ret_pb (olOk_net HGN.out).symm, by rw [olL_no (olOk_net HGN.out)]; exact SSx.nil _ _ _, (HF2.out.below_of hbA (by omega) (by omega))⟩
    rw [hgn]
    have HGN := Lib.hid hgn; clear hgn
    have kbx2_0 : W2.cell? ⟨w.heap.size + 1, 0, none⟩ = some (.slice A2 N.ends.length c2) := (HF2.out.boxN bx2 (by omega)).cell 0 (by simp)
    have kbx2_1 : W2.cell? ⟨w.heap.size + 1, 1, none⟩ = some (.slice A2' N.ids.length c2') := (HF2.out.boxN bx2 (by omega)).cell 1 (by simp)
    have kbx2_2 : W2.cell? ⟨w.heap.size + 1, 2, none⟩ = some (.slice A2'' N.inputs.length c2'') := (HF2.out.boxN bx2 (by omega)).cell 2 (by simp)
    go_wp2_with fail
    clear kbx2_0 kbx2_1 kbx2_2
    refine (isOrientation_any _ N _ _ _ o _ _ _ (Net.turned G2.out HF2.out (by omega) (by omega)) (by omega) (ISS.turned G3.out HF2.out (by omega) (by omega)) (by omega) hsz).mono ?_
    rintro e W3 ⟨rfl, hb3⟩
    have hg3 := grown_below hb3; clear hb3
    have hs3 := hg3.size
    have HF3 := Lib.hid (HF2.out.still hg3); clear HF2
    have RO3 := Lib.hid (IntS.still RO2.out hg3 (by omega)); clear RO2
    have RI3 := Lib.hid (IntS.still RI2.out hg3 (by omega)); clear RI2
    by_cases hor : oriOk N o = true
    case neg =>
      have hor' : oriOk N o = false := by simpa using hor
      rw [hor']
      have HOR := Lib.hid hor'; clear hor hor'
      go_wp2_with fail
      go_ret2
      exact ⟨.slice none 0 0, ret_pb (olOk_ori HOR.out).symm, by rw [olL_no (olOk_ori HOR.out)]; exact SSx.nil _ _ _, (HF3.out.below_of hbA (by omega) (by omega))⟩
    rw [hor]
    have HOR := Lib.hid hor; clear hor
    go_wp2_with fail
    have P_3 := Lib.hid (Pro.turned G1.out HF3.out (by omega) (by omega)); clear G1
    have N_3 := Lib.hid (Net.turned G2.out HF3.out (by omega) (by omega)); clear G2
    have o_3 := Lib.hid (ISS.turned G3.out HF3.out (by omega) (by omega)); clear G3
    have bx1_3 := HF3.out.boxN bx1 (by omega); clear bx1
    have bx2_3 := HF3.out.boxN bx2 (by omega); clear bx2
    have hbA3 : Below w.heap.size w W3 := (HF3.out.below_of hbA (by omega) (by omega)); clear hbA HF3
    go_loopw [11, 41] (fun lv vv wr => ∃ (v : Nat) (L : List (List Int)) (top : Nat), v ≤ o.length ∧ vv = .int .i64 v ∧ Hid (OwnSS wr W3.heap.size top 26 lv L) ∧ Hid (L.length = v) ∧ Hid (∀ k, k < v → rowO P S (nthL o k) = some (nthL L k)) ∧ Hid (Turned W3.heap.size W3.heap.size W3 wr)) (fun lv vv _ => o.length - (intOf vv).toNat)
    case atStart => exact ⟨0, [], W3.heap.size, Nat.zero_le _, rfl, Lib.hid (OwnSS.nil _ _ _ _ (Nat.le_refl _) (Nat.le_refl _)), Lib.hid rfl, Lib.hid (fun k hk => absurd hk (by omega)), Lib.hid (Turned.refl W3.heap.size W3.heap.size W3)⟩
    case round =>
      obtain ⟨v, L, top, hv, rfl, HO, HLL, HR, HF4⟩ := hrel
      have hs4 := HF4.out.size
      obtain ⟨wq, rfl⟩ : ∃ wq : World, wq = wr := ⟨_, rfl⟩
      by_cases hlt : v < o.length
      case neg =>
        have HOK := Lib.hid (olOk_yes HZS.out HGN.out HOR.out fun k hk => by rw [HR.out k (by omega)]; rfl)
        have HLIS := Lib.hid (olL_is HOK.out HZS.out (by rw [HLL.out]; omega) fun k hk => HR.out k (by omega))
        go_wp2_with fail
        go_ret2
        exact ⟨_, ret_pb HOK.out.symm, by rw [HLIS.out]; exact ISSx.mono HO.out.ssx (by omega) (Nat.le_refl _), (HF4.out.below_of hbA3 (by omega) (by omega))⟩
      have hvi : (v : Int) < o.length := by omega
      obtain ⟨br, or, ur, rfl, _, hbr, zr, hur⟩ := SS.opened o_3.out hlt
      replace zr := (HF4.out.cell (by omega) (by omega)).trans zr
      obtain ⟨Ar, cr, rfl, hcr, hdr⟩ := hur.dims
      have Ur := Lib.hid hur; clear hur
      have hr6 := ori_short HGN.out HOR.out hlt
      have HRO := Lib.hid (show rowO P S (nthL o v) = rowO P S (nthL o v) from rfl)
      obtain ⟨row, HROW⟩ : ∃ r, Hid (nthL o v = r) := ⟨_, Lib.hid rfl⟩
      rw [HROW.out] at Ur zr hcr hr6
      have HUR := Ur
      go_upto_region 8 with (fail)
      refine nameC ?_
      intro W5 HW5
      have hg5 : wq.grownBy W5 none := by rw [HW5.out]; exact grown_alloc _ _
      have hs5 := hg5.size
      have HF5 := Lib.hid (HF4.out.still hg5); clear HF4
      have O5 := Lib.hid (OwnSS.still HO.out hg5); clear HO
      have BR := Lib.hid (show BoxN W5 wq.heap.size #[.slice Ar row.length cr] 26 by rw [HW5.out]; exact BoxN.new _ _ _)
      clear HW5 zr
      have hbr : wq.heap.size < W5.heap.size := BR.out.lt
      have kBR : W5.cell? ⟨wq.heap.size, 0, none⟩ = some (.slice Ar row.length cr) := BR.out.cell 0 (by simp)
      go_wp2_with fail
      clear kBR
      have HOUT := Lib.hid HF5.out
      have HURA := Lib.hid (IntS.turned Ur.out HF5.out (by omega) (by omega)); clear Ur HUR
      have P_5 := Lib.hid (Pro.turned P_3.out HF5.out (by omega) (by omega)); clear P_3
      have N_5 := Lib.hid (Net.turned N_3.out HF5.out (by omega) (by omega)); clear N_3
      have o_5 := Lib.hid (ISS.turned o_3.out HF5.out (by omega) (by omega)); clear o_3
      have bx1_5 := HF5.out.boxN bx1_3 (by omega); clear bx1_3
      have bx2_5 := HF5.out.boxN bx2_3 (by omega); clear bx2_3
      have RO_5 := Lib.hid (IntS.turned RO3.out HF5.out (by omega) (by omega)); clear RO3
      have RI_5 := Lib.hid (IntS.turned RI3.out HF5.out (by omega) (by omega)); clear RI3
      have hbA5 : Below w.heap.size w W5 := (HF5.out.below_of hbA3 (by omega) (by omega)); clear hbA3 HF5
      by_cases hfull : (row.length : Int) = P.D
      case pos =>
        have hfb : ((row.length : Int) != P.D) = false := by simpa using hfull
        have HF := Lib.hid hfull; clear hfull
        go_loopw [14, 47] (fun cv iv wr => ∃ (i : Nat), i ≤ row.length ∧ iv = .int .i64 i ∧ Hid (Own wr W5.heap.size 26 cv ((row.take i).map (fun x : Int => if x = 1 then Value.slice Ao lo9 co else Value.slice Ai li9 ci))) ∧ Hid (Turned W5.heap.size W5.heap.size W5 wr)) (fun cv iv _ => row.length - (intOf iv).toNat)
        case atStart => exact ⟨0, Nat.zero_le _, rfl, Lib.hid (Own.nil _ _ _), Lib.hid (Turned.refl W5.heap.size W5.heap.size W5)⟩
        case round =>
          obtain ⟨i, hir, rfl, HW, HF6⟩ := hrel
          have hs6 := HF6.out.size
          obtain ⟨wi, rfl⟩ : ∃ wi : World, wi = wr := ⟨_, rfl⟩
          by_cases hil : i < row.length
          case pos =>
            have kbx1_0 : wi.cell? ⟨w.heap.size, 0, none⟩ = some (.int .i64 P.L) := (HF6.out.boxN bx1_5 (by omega)).cell 0 (by simp)
            have kbx1_1 : wi.cell? ⟨w.heap.size, 1, none⟩ = some (.int .i64 P.D) := (HF6.out.boxN bx1_5 (by omega)).cell 1 (by simp)
            have kbx1_2 : wi.cell? ⟨w.heap.size, 2, none⟩ = some (.slice A1 P.nodes.length c1) := (HF6.out.boxN bx1_5 (by omega)).cell 2 (by simp)
            have kbx1_3 : wi.cell? ⟨w.heap.size, 3, none⟩ = some (.slice A1' P.edges.length c1') := (HF6.out.boxN bx1_5 (by omega)).cell 3 (by simp)
            have kBR_0 : wi.cell? ⟨wq.heap.size, 0, none⟩ = some (.slice Ar row.length cr) := (HF6.out.boxN BR.out (by omega)).cell 0 (by simp)
            obtain ⟨bx, ox, rfl, _, hbx', xx, _⟩ := (IntS.turned HURA.out HF6.out (by omega) (by omega)).opened hil
            obtain ⟨x, HX⟩ : ∃ x, Hid (nth row i = x) := ⟨_, Lib.hid rfl⟩
            rw [HX.out] at xx
            have hii : (i : Int) < row.length := by omega
            have HLT := Lib.hid HW.out.lt
            by_cases hx1 : x = 1
            case pos =>
              have hx1b : (x == 1) = true := by simpa using hx1
              have HSTP := Lib.hid (show (row.take (i + 1)).map (fun x : Int => if x = 1 then Value.slice Ao lo9 co else Value.slice Ai li9 ci) = (row.take i).map (fun x : Int => if x = 1 then Value.slice Ao lo9 co else Value.slice Ai li9 ci) ++ [Value.slice Ao lo9 co] by rw [List.take_add_one, List.getElem?_eq_getElem hil, List.map_append]; congr 1; rw [← nth_eq hil, HX.out]; simp [hx1])
              clear hx1
              go_wp2_with (at_builtin; refine append1 (s := .tmp 62) Tryz.underlying22 Tryz.info26 rfl (by decide) wi rfl _ rfl HW.out (.slice Ao lo9 co) _ rfl (by simp [Act.eval, go_sem]) rfl (by simp; omega) (by omega) ?_; intro v' w' ho' hg' hat')
              go_roundw
              case rel => exact ⟨i + 1, by omega, by go_num, Lib.hid (by rw [HSTP.out]; exact ho'), Lib.hid (HF6.out.grown hg' fun g e => .inr (HLT.out g e).1)⟩
              case measure => simp [intOf]; omega
            case neg =>
              have hx1b : (x == 1) = false := by simpa using hx1
              have HSTP := Lib.hid (show (row.take (i + 1)).map (fun x : Int => if x = 1 then Value.slice Ao lo9 co else Value.slice Ai li9 ci) = (row.take i).map (fun x : Int => if x = 1 then Value.slice Ao lo9 co else Value.slice Ai li9 ci) ++ [Value.slice Ai li9 ci] by rw [List.take_add_one, List.getElem?_eq_getElem hil, List.map_append]; congr 1; rw [← nth_eq hil, HX.out]; simp [hx1])
              clear hx1
              go_wp2_with (at_builtin; refine append1 (s := .tmp 62) Tryz.underlying22 Tryz.info26 rfl (by decide) wi rfl _ rfl HW.out (.slice Ai li9 ci) _ rfl (by simp [Act.eval, go_sem]) rfl (by simp; omega) (by omega) ?_; intro v' w' ho' hg' hat')
              go_roundw
              case rel => exact ⟨i + 1, by omega, by go_num, Lib.hid (by rw [HSTP.out]; exact ho'), Lib.hid (HF6.out.grown hg' fun g e => .inr (HLT.out g e).1)⟩
              case measure => simp [intOf]; omega
          obtain rfl : i = row.length := by omega
          have hii : ¬ ((row.length : Nat) : Int) < row.length := by omega
          rw [List.take_length] at HW
          have HRR := Lib.hid (show row.map (selL P S (fullB P row)) = row.map (fun x : Int => if x = 1 then zoOut P.L.toNat S else zoIn P P.L.toNat S) by
            apply List.map_congr_left
            intro x _
            unfold selL
            rw [show fullB P row = true from decide_eq_true HF.out]
            by_cases e : x = 1 <;> simp [e])
          have HLS := Lib.hid (ownSel (lo := w.heap.size) HW.out (h := fun x : Int => if x = 1 then zoOut P.L.toNat S else zoIn P P.L.toNat S) (fun x _ => by
            by_cases e : x = 1
            · simp only [if_pos e]; exact ((IntS.turned RO_5.out HF6.out (by omega) (by omega))).mono (by omega) (by omega)
            · simp only [if_neg e]; exact ((IntS.turned RI_5.out HF6.out (by omega) (by omega))).mono (by omega) (by omega)) (by omega))
          rw [← HRR.out] at HLS
          have hPB := (Pro.turned P_5.out HF6.out (by omega) (by omega))
          have HPB := Lib.hid hPB; clear hPB
          have hBX := HF6.out.boxN bx1_5 (by omega)
          have HBX := Lib.hid hBX; clear hBX
          have hBRR := HF6.out.boxN BR.out (by omega)
          have HBRR := Lib.hid hBRR; clear hBRR
          have HC := Lib.hid (firstChoice_any 32 #[.pointer (some ⟨wq.heap.size, 0, none⟩), .pointer (some ⟨w.heap.size, 0, none⟩)] egc (testO P row.length) _ _ _ _ wi row.length HLS.out (Nat.le_refl _) (by simp) (by omega) (fun g W zs hW h1 h2 hi hz => oriC1_any _ zs _ _ w.heap.size wq.heap.size row.length cr Ar P _ _ _ _ _ _ W hi (by omega) (Pro.below HPB.out hW (by omega)) (by have := hW.size; omega) (HBX.out.below hW (by omega)) (HBRR.out.below hW (by omega)) (zoS_good HZS.out) (by omega)))
          clear HPB HBX HBRR
          have HRDEF := Lib.hid (show rowO P S row = firstC (testO P row.length) (row.map (selL P S (fullB P row))) [] from rfl)
          cases hrr : rowO P S row with
          | none =>
            have hfc := hrr
            rw [HRDEF.out] at hfc
            rw [hfc] at HC
            clear hfc
            have HNO := Lib.hid (olOk_row (N := N) HZS.out hlt (by rw [HROW.out]; exact hrr))
            clear hrr
            go_wp2_with fail
            refine HC.out.mono ?_
            rintro e W7 ⟨rv, rfl, _, hb7⟩
            simp only [Option.isSome_none]
            have hg7 := grown_below hb7
            clear hb7
            have hs7 := hg7.size
            have HF7 := Lib.hid (HF6.out.still hg7); clear HF6
            go_wp2_with fail
            go_ret2
            exact ⟨.slice none 0 0, ret_pb HNO.out.symm, by rw [olL_no HNO.out]; exact SSx.nil _ _ _, (HF7.out.below_of hbA5 (by omega) (by omega))⟩
          | some l9 =>
            have hfc := hrr
            rw [HRDEF.out] at hfc
            rw [hfc] at HC
            clear hfc
            have HRS := Lib.hid hrr; clear hrr
            have HO2 := Lib.hid (O5.out.below (HF6.out.below (Nat.le_refl _)))
            go_wp2_with fail
            refine HC.out.mono ?_
            rintro e W8 ⟨rv, rfl, hrv, hb8⟩
            simp only [Option.isSome_some]
            have HRV := Lib.hid (hrv l9 rfl)
            obtain ⟨Av, cv9, rfl, hcv, hdv⟩ := HRV.out.dims
            have HO3 := Lib.hid (HO2.out.below hb8)
            have hlv := HO2.out.lt
            have hlv3 := HO3.out.lt
            have htop : top ≤ wi.heap.size := by obtain ⟨_, _, _, _, _, _, h, _⟩ := HO2.out; exact h
            have hfew := ori_few HGN.out HOR.out
            have hg8 := grown_below hb8
            clear hrv hb8
            have hs8 := hg8.size
            have HF8 := Lib.hid (HF6.out.still hg8); clear HF6
            have HFF := Lib.hid (Turned.all_trans HOUT.out HF8.out)
            have HLL2 := HLL.out
            go_wp2_with (at_builtin; refine append_ss (s := .tmp 75) Tryz.underlying22 Tryz.info26 (by decide) W8 rfl _ rfl HO3.out (lo := wi.heap.size) (hi := W8.heap.size) HRV.out htop (Nat.le_refl _) (by omega) (fun g hg => .inl (hlv g hg).2) _ rfl (by simp [Act.eval, go_sem]) (by omega) ?_; intro v' w' ho' hg' hat')
            go_roundw
            case rel => exact ⟨v + 1, L ++ [l9], W8.heap.size, by omega, by go_num, Lib.hid ho', Lib.hid (by simp; exact HLL.out), Lib.hid (rows_snoc HR.out HLL.out (by rw [HROW.out]; exact HRS.out)), Lib.hid (HFF.out.grown hg' fun g e => .inr (hlv3 g e).1)⟩
            case measure => simp [intOf]; omega
      case neg =>
        have hfb : ((row.length : Int) != P.D) = true := by simpa using hfull
        have HF := Lib.hid hfull; clear hfull
        go_loopw [14, 47] (fun cv iv wr => ∃ (i : Nat), i ≤ row.length ∧ iv = .int .i64 i ∧ Hid (Own wr W5.heap.size 26 cv ((row.take i).map (fun x : Int => if x = 1 then Value.slice Ao 1 co else Value.slice Ai 1 ci))) ∧ Hid (Turned W5.heap.size W5.heap.size W5 wr)) (fun cv iv _ => row.length - (intOf iv).toNat)
        case atStart => exact ⟨0, Nat.zero_le _, rfl, Lib.hid (Own.nil _ _ _), Lib.hid (Turned.refl W5.heap.size W5.heap.size W5)⟩
        case round =>
          obtain ⟨i, hir, rfl, HW, HF9⟩ := hrel
          have hs9 := HF9.out.size
          obtain ⟨wi, rfl⟩ : ∃ wi : World, wi = wr := ⟨_, rfl⟩
          by_cases hil : i < row.length
          case pos =>
            have kbx1_0 : wi.cell? ⟨w.heap.size, 0, none⟩ = some (.int .i64 P.L) := (HF9.out.boxN bx1_5 (by omega)).cell 0 (by simp)
            have kbx1_1 : wi.cell? ⟨w.heap.size, 1, none⟩ = some (.int .i64 P.D) := (HF9.out.boxN bx1_5 (by omega)).cell 1 (by simp)
            have kbx1_2 : wi.cell? ⟨w.heap.size, 2, none⟩ = some (.slice A1 P.nodes.length c1) := (HF9.out.boxN bx1_5 (by omega)).cell 2 (by simp)
            have kbx1_3 : wi.cell? ⟨w.heap.size, 3, none⟩ = some (.slice A1' P.edges.length c1') := (HF9.out.boxN bx1_5 (by omega)).cell 3 (by simp)
            have kBR_0 : wi.cell? ⟨wq.heap.size, 0, none⟩ = some (.slice Ar row.length cr) := (HF9.out.boxN BR.out (by omega)).cell 0 (by simp)
            obtain ⟨bx, ox, rfl, _, hbx', xx, _⟩ := (IntS.turned HURA.out HF9.out (by omega) (by omega)).opened hil
            obtain ⟨x, HX⟩ : ∃ x, Hid (nth row i = x) := ⟨_, Lib.hid rfl⟩
            rw [HX.out] at xx
            have hii : (i : Int) < row.length := by omega
            have HLT := Lib.hid HW.out.lt
            by_cases hx1 : x = 1
            case pos =>
              have hx1b : (x == 1) = true := by simpa using hx1
              have HSTP := Lib.hid (show (row.take (i + 1)).map (fun x : Int => if x = 1 then Value.slice Ao 1 co else Value.slice Ai 1 ci) = (row.take i).map (fun x : Int => if x = 1 then Value.slice Ao 1 co else Value.slice Ai 1 ci) ++ [Value.slice Ao 1 co] by rw [List.take_add_one, List.getElem?_eq_getElem hil, List.map_append]; congr 1; rw [← nth_eq hil, HX.out]; simp [hx1])
              clear hx1
              go_wp2_with (at_builtin; refine append1 (s := .tmp 62) Tryz.underlying22 Tryz.info26 rfl (by decide) wi rfl _ rfl HW.out (.slice Ao 1 co) _ rfl (by simp [Act.eval, go_sem]) rfl (by simp; omega) (by omega) ?_; intro v' w' ho' hg' hat')
              go_roundw
              case rel => exact ⟨i + 1, by omega, by go_num, Lib.hid (by rw [HSTP.out]; exact ho'), Lib.hid (HF9.out.grown hg' fun g e => .inr (HLT.out g e).1)⟩
              case measure => simp [intOf]; omega
            case neg =>
              have hx1b : (x == 1) = false := by simpa using hx1
              have HSTP := Lib.hid (show (row.take (i + 1)).map (fun x : Int => if x = 1 then Value.slice Ao 1 co else Value.slice Ai 1 ci) = (row.take i).map (fun x : Int => if x = 1 then Value.slice Ao 1 co else Value.slice Ai 1 ci) ++ [Value.slice Ai 1 ci] by rw [List.take_add_one, List.getElem?_eq_getElem hil, List.map_append]; congr 1; rw [← nth_eq hil, HX.out]; simp [hx1])
              clear hx1
              go_wp2_with (at_builtin; refine append1 (s := .tmp 62) Tryz.underlying22 Tryz.info26 rfl (by decide) wi rfl _ rfl HW.out (.slice Ai 1 ci) _ rfl (by simp [Act.eval, go_sem]) rfl (by simp; omega) (by omega) ?_; intro v' w' ho' hg' hat')
              go_roundw
              case rel => exact ⟨i + 1, by omega, by go_num, Lib.hid (by rw [HSTP.out]; exact ho'), Lib.hid (HF9.out.grown hg' fun g e => .inr (HLT.out g e).1)⟩
              case measure => simp [intOf]; omega
          obtain rfl : i = row.length := by omega
          have hii : ¬ ((row.length : Nat) : Int) < row.length := by omega
          rw [List.take_length] at HW
          have HRR := Lib.hid (show row.map (selL P S (fullB P row)) = row.map (fun x : Int => if x = 1 then (zoOut P.L.toNat S).take 1 else (zoIn P P.L.toNat S).take 1) by
            apply List.map_congr_left
            intro x _
            unfold selL
            rw [show fullB P row = false from decide_eq_false HF.out]
            by_cases e : x = 1 <;> simp [e])
          have HLS := Lib.hid (ownSel (lo := w.heap.size) HW.out (h := fun x : Int => if x = 1 then (zoOut P.L.toNat S).take 1 else (zoIn P P.L.toNat S).take 1) (fun x _ => by
            by_cases e : x = 1
            · simp only [if_pos e]; exact ((IntS.turned RO_5.out HF9.out (by omega) (by omega)).take1 (by rw [HLO.out]; omega)).mono (by omega) (by omega)
            · simp only [if_neg e]; exact ((IntS.turned RI_5.out HF9.out (by omega) (by omega)).take1 (by rw [HLI.out]; omega)).mono (by omega) (by omega)) (by omega))
          rw [← HRR.out] at HLS
          have hPB := (Pro.turned P_5.out HF9.out (by omega) (by omega))
          have HPB := Lib.hid hPB; clear hPB
          have hBX := HF9.out.boxN bx1_5 (by omega)
          have HBX := Lib.hid hBX; clear hBX
          have hBRR := HF9.out.boxN BR.out (by omega)
          have HBRR := Lib.hid hBRR; clear hBRR
          have HC := Lib.hid (firstChoice_any 32 #[.pointer (some ⟨wq.heap.size, 0, none⟩), .pointer (some ⟨w.heap.size, 0, none⟩)] egc (testO P row.length) _ _ _ _ wi row.length HLS.out (Nat.le_refl _) (by simp) (by omega) (fun g W zs hW h1 h2 hi hz => oriC1_any _ zs _ _ w.heap.size wq.heap.size row.length cr Ar P _ _ _ _ _ _ W hi (by omega) (Pro.below HPB.out hW (by omega)) (by have := hW.size; omega) (HBX.out.below hW (by omega)) (HBRR.out.below hW (by omega)) (zoS_good HZS.out) (by omega)))
          clear HPB HBX HBRR
          have HRDEF := Lib.hid (show rowO P S row = firstC (testO P row.length) (row.map (selL P S (fullB P row))) [] from rfl)
          cases hrr : rowO P S row with
          | none =>
            have hfc := hrr
            rw [HRDEF.out] at hfc
            rw [hfc] at HC
            clear hfc
            have HNO := Lib.hid (olOk_row (N := N) HZS.out hlt (by rw [HROW.out]; exact hrr))
            clear hrr
            go_wp2_with fail
            refine HC.out.mono ?_
            rintro e W10 ⟨rv, rfl, _, hb10⟩
            simp only [Option.isSome_none]
            have hg10 := grown_below hb10
            clear hb10
            have hs10 := hg10.size
            have HF10 := Lib.hid (HF9.out.still hg10); clear HF9
            go_wp2_with fail
            go_ret2
            exact ⟨.slice none 0 0, ret_pb HNO.out.symm, by rw [olL_no HNO.out]; exact SSx.nil _ _ _, (HF10.out.below_of hbA5 (by omega) (by omega))⟩
          | some l9 =>
            have hfc := hrr
            rw [HRDEF.out] at hfc
            rw [hfc] at HC
            clear hfc
            have HRS := Lib.hid hrr; clear hrr
            have HO2 := Lib.hid (O5.out.below (HF9.out.below (Nat.le_refl _)))
            go_wp2_with fail
            refine HC.out.mono ?_
            rintro e W11 ⟨rv, rfl, hrv, hb11⟩
            simp only [Option.isSome_some]
            have HRV := Lib.hid (hrv l9 rfl)
            obtain ⟨Av, cv9, rfl, hcv, hdv⟩ := HRV.out.dims
            have HO3 := Lib.hid (HO2.out.below hb11)
            have hlv := HO2.out.lt
            have hlv3 := HO3.out.lt
            have htop : top ≤ wi.heap.size := by obtain ⟨_, _, _, _, _, _, h, _⟩ := HO2.out; exact h
            have hfew := ori_few HGN.out HOR.out
            have hg11 := grown_below hb11
            clear hrv hb11
            have hs11 := hg11.size
            have HF11 := Lib.hid (HF9.out.still hg11); clear HF9
            have HFF := Lib.hid (Turned.all_trans HOUT.out HF11.out)
            have HLL2 := HLL.out
            go_wp2_with (at_builtin; refine append_ss (s := .tmp 75) Tryz.underlying22 Tryz.info26 (by decide) W11 rfl _ rfl HO3.out (lo := wi.heap.size) (hi := W11.heap.size) HRV.out htop (Nat.le_refl _) (by omega) (fun g hg => .inl (hlv g hg).2) _ rfl (by simp [Act.eval, go_sem]) (by omega) ?_; intro v' w' ho' hg' hat')
            go_roundw
            case rel => exact ⟨v + 1, L ++ [l9], W11.heap.size, by omega, by go_num, Lib.hid ho', Lib.hid (by simp; exact HLL.out), Lib.hid (rows_snoc HR.out HLL.out (by rw [HROW.out]; exact HRS.out)), Lib.hid (HFF.out.grown hg' fun g e => .inr (hlv3 g e).1)⟩
            case measure => simp [intOf]; omega

end Go.Proofs.YtkcbocoimbhhaaaGreat

/- Contract of OrientedLabeling (reference). -/
namespace Go.Proofs.YtkcbocoimbhhaaaGreat
open Go.ChangeShapes Go.WideShapes Go.ChangeAt Go.RowKit
set_option linter.unusedVariables false

def mkL (a b : Int) (row : List Int) (i : Nat) : List Int := (row.take i).map fun x => if x = 1 then a else b
theorem mkL_len (a b : Int) (row : List Int) (i : Nat) : (mkL a b row i).length ≤ i := by unfold mkL; rw [List.length_map, List.length_take]; omega
theorem mkL_succ {a b : Int} {row : List Int} {i : Nat} (h : i < row.length) : mkL a b row (i + 1) = mkL a b row i ++ [if nth row i = 1 then a else b] := by
  unfold mkL
  rw [List.take_succ_eq_append_getElem h, List.map_append, nth_eq h]; rfl
theorem mkL_masks (a b : Nat) (row : List Int) : mkL a b row row.length = (row.map fun x => if x = 1 then a else b).map fun (m : Nat) => (m : Int) := by
  unfold mkL
  rw [List.take_length, List.map_map]
  apply List.map_congr_left
  intro x _
  by_cases h : x = 1 <;> simp [h]
theorem mkL_plain {P : PrD} {S : Nat} {a b : Int} (ha : nth (zoOut P.L.toNat S) 0 = a) (hb : nth (zoIn P P.L.toNat S) 0 = b) (row : List Int) : mkL a b row row.length = plainL P S row := by
  unfold mkL plainL
  rw [List.take_length]
  apply List.map_congr_left
  intro x _
  by_cases h : x = 1 <;> simp [h, ha, hb]
theorem same_row {P : PrD} {S so si : Nat} (ho : setOf P.L.toNat (fun a => S.testBit a) = so) (hi : setOf P.L.toNat (fun b : Nat => pairsB P (zoOut P.L.toNat S) [(b : Int)]) = si) (row : List Int) :
    SameL (row.map fun x => if x = 1 then so else si) (row.map fun x => if x = 1 then zoOut P.L.toNat S else zoIn P P.L.toNat S) := by
  refine ⟨by simp, fun k hk a => ?_⟩
  simp only [List.length_map] at hk
  rw [nthL_eq (by simpa using hk), List.getElem_map, show (row.map fun x => if x = 1 then so else si).getD k 0 = if row[k] = 1 then so else si by simp [hk]]
  by_cases h : row[k] = 1
  · rw [if_pos h, if_pos h, ← ho]; exact ascI_bits
  · rw [if_neg h, if_neg h, ← hi]; exact ascI_bits
theorem asc_row {P : PrD} {S : Nat} (row : List Int) : ∀ k, k < (row.map fun x => if x = 1 then zoOut P.L.toNat S else zoIn P P.L.toNat S).length → ∃ f, nthL (row.map fun x => if x = 1 then zoOut P.L.toNat S else zoIn P P.L.toNat S) k = ascI P.L.toNat f := fun k hk => by
  rw [nthL_eq hk, List.getElem_map]
  split
  · exact ⟨_, rfl⟩
  · exact ⟨_, rfl⟩

set_option maxHeartbeats 600000 in
set_option maxRecDepth 100000 in
theorem OrientedLabeling_ref (v1 : Value) (P : PrD) (lo1 hi1 : Nat) (v2 : Value) (N : NetD) (lo2 hi2 : Nat) (v3 : Value) (o : List (List Int)) (lo3 hi3 : Nat) (w : World) (h1 : Pro w lo1 hi1 v1 P) (hh1 : hi1 ≤ w.heap.size) (h2 : Net w lo2 hi2 v2 N) (hh2 : hi2 ≤ w.heap.size) (h3 : IntSS w lo3 hi3 v3 o) (hh3 : hi3 ≤ w.heap.size) (hsz : N.sz ≤ 1048576) :
    Calls Tryz.prog 7 #[v1, v2, v3] w fun e w' => ∃ r, e = .returned (.tuple #[r, .bool (olOk P N o)]) ∧ IntSSx w' w.heap.size w'.heap.size r (olL P N o) ∧ Below w.heap.size w w' := by
  have F1 := Lib.hid h1
  obtain ⟨A1, c1, A1', c1', rfl, hc1, hd1⟩ := h1.parts
  clear h1
  have F2 := Lib.hid h2
  obtain ⟨A2, c2, A2', c2', A2'', c2'', rfl, hc2, hd2, _⟩ := h2.parts
  clear h2
  have F3 := Lib.hid h3
  obtain ⟨A3, c3, rfl, hc3, hd3⟩ := h3.dims
  clear h3
  obtain ⟨WA, HWA⟩ : ∃ W, Hid (W = ((w.alloc (.cells #[.int .i64 P.L, .int .i64 P.D, .slice A1 P.nodes.length c1, .slice A1' P.edges.length c1'] 34)).alloc (.cells #[.slice A2 N.ends.length c2, .slice A2' N.ids.length c2', .slice A2'' N.inputs.length c2''] 38))) := ⟨_, Lib.hid rfl⟩
  have hbA : Below w.heap.size w WA := by rw [HWA.out]; exact (((Below.refl _ _).alloc (Nat.le_refl _) _).alloc (by simp; try omega) _)
  have hsA : w.heap.size + 2 ≤ WA.heap.size := by rw [HWA.out]; simp; try omega
  have bx1 : BoxN WA (w.heap.size) #[.int .i64 P.L, .int .i64 P.D, .slice A1 P.nodes.length c1, .slice A1' P.edges.length c1'] 34 := by rw [HWA.out]; exact ((BoxN.new' _ _ _ (by simp)).still (grown_alloc _ _))
  have bx2 : BoxN WA (w.heap.size + 1) #[.slice A2 N.ends.length c2, .slice A2' N.ids.length c2', .slice A2'' N.inputs.length c2''] 38 := by rw [HWA.out]; exact (BoxN.new' _ _ _ (by simp))
  have G1 := Lib.hid (Pro.below F1.out hbA hh1); clear F1
  have G2 := Lib.hid (Net.below F2.out hbA hh2); clear F2
  have G3 := Lib.hid (ISS.below F3.out hbA hh3); clear F3
  go_enter Tryz.func7, Tryz.ntmps7
  go_upto_region 1 with (fail)
  rw [← HWA.out]; clear HWA
  have kbx1_0 : WA.cell? ⟨w.heap.size, 0, none⟩ = some (.int .i64 P.L) := bx1.cell 0 (by simp)
  have kbx1_1 : WA.cell? ⟨w.heap.size, 1, none⟩ = some (.int .i64 P.D) := bx1.cell 1 (by simp)
  have kbx1_2 : WA.cell? ⟨w.heap.size, 2, none⟩ = some (.slice A1 P.nodes.length c1) := bx1.cell 2 (by simp)
  have kbx1_3 : WA.cell? ⟨w.heap.size, 3, none⟩ = some (.slice A1' P.edges.length c1') := bx1.cell 3 (by simp)
  go_wp2_with fail
  clear kbx1_0 kbx1_1 kbx1_2 kbx1_3
  refine (ZeroOriented_spec _ P _ _ _ G1.out (by omega)).mono ?_
  rintro e W1 ⟨hsome, hnone, hb1⟩
  have hg1 := grown_below hb1; clear hb1
  have hs1 := hg1.size
  have HF1 := Lib.hid ((Turned.refl WA.heap.size WA.heap.size WA).still hg1)
  cases hz : zoS P with
  | none =>
    obtain rfl := hnone hz
    clear hsome hnone
    have HNO := Lib.hid (olOk_no (N := N) (o := o) hz)
    clear hz
    go_wp2_with fail
    go_ret2
    exact ⟨.slice none 0 0, ret_pb HNO.out.symm, by rw [olL_no HNO.out]; exact SSx.nil _ _ _, (HF1.out.below_of hbA (by omega) (by omega))⟩
  | some S =>
    obtain ⟨ro, ri, rfl, hro, hri⟩ := hsome S hz
    have HZS := Lib.hid hz; clear hz hsome hnone
    have hne := zo_ne HZS.out
    obtain ⟨Ao, co, rfl, hco, hdo⟩ := hro.dims
    obtain ⟨Ai, ci, rfl, hci, hdi⟩ := hri.dims
    obtain ⟨lo9, HLO⟩ : ∃ z, Hid ((zoOut P.L.toNat S).length = z) := ⟨_, Lib.hid rfl⟩
    obtain ⟨li9, HLI⟩ : ∃ z, Hid ((zoIn P P.L.toNat S).length = z) := ⟨_, Lib.hid rfl⟩
    rw [HLO.out, HLI.out] at hne
    rw [HLO.out] at hro hco
    rw [HLI.out] at hri hci
    try rw [HLO.out]
    try rw [HLI.out]
    obtain ⟨bo, oo, rfl, _, hbo, _, _⟩ := hro.opened (j := 0) (by rw [HLO.out]; omega)
    obtain ⟨bi, oi, rfl, _, hbi, _, _⟩ := hri.opened (j := 0) (by rw [HLI.out]; omega)
    have RO := Lib.hid hro; clear hro
    have RI := Lib.hid hri; clear hri
    obtain ⟨z0, HZ0⟩ : ∃ z, Hid (nth (zoOut P.L.toNat S) 0 = z) := ⟨_, Lib.hid rfl⟩
    obtain ⟨z1, HZ1⟩ : ∃ z, Hid (nth (zoIn P P.L.toNat S) 0 = z) := ⟨_, Lib.hid rfl⟩
    obtain ⟨so, HSO⟩ : ∃ z, Hid (setOf P.L.toNat (fun a => S.testBit a) = z) := ⟨_, Lib.hid rfl⟩
    obtain ⟨si, HSI⟩ : ∃ z, Hid (setOf P.L.toNat (fun b : Nat => pairsB P (zoOut P.L.toNat S) [(b : Int)]) = z) := ⟨_, Lib.hid rfl⟩
    have hnd : P.L.toNat ≤ 8 ∧ P.L = (P.L.toNat : Nat) ∧ P.D = (P.D.toNat : Nat) := by
      obtain ⟨a, b, h1, h2, h3, h4, h5, h6⟩ := prd_LD (zoS_good HZS.out)
      omega
    obtain ⟨n8, hL9, hD9⟩ := hnd
    have HL9 := Lib.hid hL9; have HD9 := Lib.hid hD9; clear hL9 hD9
    have hsoi : so < 256 ∧ si < 256 := by
      have h8 : 2 ^ P.L.toNat ≤ 2 ^ 8 := Nat.pow_le_pow_right (by decide) n8
      have h1 := setOf_lt P.L.toNat (fun a => S.testBit a)
      have h2 := setOf_lt P.L.toNat (fun b : Nat => pairsB P (zoOut P.L.toNat S) [(b : Int)])
      rw [HSO.out] at h1
      rw [HSI.out] at h2
      omega
    obtain ⟨hso, hsi⟩ := hsoi
    have kbx2_0 : W1.cell? ⟨w.heap.size + 1, 0, none⟩ = some (.slice A2 N.ends.length c2) := (HF1.out.boxN bx2 (by omega)).cell 0 (by simp)
    have kbx2_1 : W1.cell? ⟨w.heap.size + 1, 1, none⟩ = some (.slice A2' N.ids.length c2') := (HF1.out.boxN bx2 (by omega)).cell 1 (by simp)
    have kbx2_2 : W1.cell? ⟨w.heap.size + 1, 2, none⟩ = some (.slice A2'' N.inputs.length c2'') := (HF1.out.boxN bx2 (by omega)).cell 2 (by simp)
    go_wp2_with fail
    clear kbx2_0 kbx2_1 kbx2_2
    refine (neGood_any _ N _ _ _ (Net.turned G2.out HF1.out (by omega) (by omega)) (by omega) hsz).mono ?_
    rintro e W2 ⟨rfl, hb2⟩
    have hg2 := grown_below hb2; clear hb2
    have hs2 := hg2.size
    have HF2 := Lib.hid (HF1.out.still hg2); clear HF1
    have RO2 := Lib.hid (IntS.still RO.out hg2 (by omega)); clear RO
    have RI2 := Lib.hid (IntS.still RI.out hg2 (by omega)); clear RI
    by_cases hgn : N.good = true
    case neg =>
      have hgn' : N.good = false := by simpa using hgn
      rw [hgn']
      have HGN := Lib.hid hgn'; clear hgn hgn'
      go_wp2_with fail
      go_ret2
      exact ⟨.slice none 0 0, ret_pb (olOk_net HGN.out).symm, by rw [olL_no (olOk_net HGN.out)]; exact SSx.nil _ _ _, (HF2.out.below_of hbA (by omega) (by omega))⟩
    rw [hgn]
    have HGN := Lib.hid hgn; clear hgn
    have kbx2_0 : W2.cell? ⟨w.heap.size + 1, 0, none⟩ = some (.slice A2 N.ends.length c2) := (HF2.out.boxN bx2 (by omega)).cell 0 (by simp)
    have kbx2_1 : W2.cell? ⟨w.heap.size + 1, 1, none⟩ = some (.slice A2' N.ids.length c2') := (HF2.out.boxN bx2 (by omega)).cell 1 (by simp)
    have kbx2_2 : W2.cell? ⟨w.heap.size + 1, 2, none⟩ = some (.slice A2'' N.inputs.length c2'') := (HF2.out.boxN bx2 (by omega)).cell 2 (by simp)
    go_wp2_with fail
    clear kbx2_0 kbx2_1 kbx2_2
    refine (zeIs_any _ N _ _ _ o _ _ _ (Net.turned G2.out HF2.out (by omega) (by omega)) (by omega) (ISS.turned G3.out HF2.out (by omega) (by omega)) (by omega) HGN.out).mono ?_
    rintro e W3 ⟨rfl, hb3⟩
    have hg3 := grown_below hb3; clear hb3
    have hs3 := hg3.size
    have HF3 := Lib.hid (HF2.out.still hg3); clear HF2
    have RO3 := Lib.hid (IntS.still RO2.out hg3 (by omega)); clear RO2
    have RI3 := Lib.hid (IntS.still RI2.out hg3 (by omega)); clear RI2
    by_cases hor : oriOk N o = true
    case neg =>
      have hor' : oriOk N o = false := by simpa using hor
      rw [hor']
      have HOR := Lib.hid hor'; clear hor hor'
      go_wp2_with fail
      go_ret2
      exact ⟨.slice none 0 0, ret_pb (olOk_ori HOR.out).symm, by rw [olL_no (olOk_ori HOR.out)]; exact SSx.nil _ _ _, (HF3.out.below_of hbA (by omega) (by omega))⟩
    rw [hor]
    have HOR := Lib.hid hor; clear hor
    go_wp2_with fail
    have P_3 := Lib.hid (Pro.turned G1.out HF3.out (by omega) (by omega)); clear G1
    have N_3 := Lib.hid (Net.turned G2.out HF3.out (by omega) (by omega)); clear G2
    have o_3 := Lib.hid (ISS.turned G3.out HF3.out (by omega) (by omega)); clear G3
    have bx1_3 := HF3.out.boxN bx1 (by omega); clear bx1
    have bx2_3 := HF3.out.boxN bx2 (by omega); clear bx2
    have hbA3 : Below w.heap.size w W3 := (HF3.out.below_of hbA (by omega) (by omega)); clear hbA HF3
    go_loopw [11, 39] (fun lv vv wr => ∃ (v : Nat) (L : List (List Int)) (top : Nat), v ≤ o.length ∧ vv = .int .i64 v ∧ Hid (OwnSS wr W3.heap.size top 26 lv L) ∧ Hid (L.length = v) ∧ Hid (∀ k, k < v → rowO P S (nthL o k) = some (nthL L k)) ∧ Hid (Turned W3.heap.size W3.heap.size W3 wr)) (fun lv vv _ => o.length - (intOf vv).toNat)
    case atStart => exact ⟨0, [], W3.heap.size, Nat.zero_le _, rfl, Lib.hid (OwnSS.nil _ _ _ _ (Nat.le_refl _) (Nat.le_refl _)), Lib.hid rfl, Lib.hid (fun k hk => absurd hk (by omega)), Lib.hid (Turned.refl W3.heap.size W3.heap.size W3)⟩
    case round =>
      obtain ⟨v, L, top, hv, rfl, HO, HLL, HR, HF4⟩ := hrel
      have hs4 := HF4.out.size
      obtain ⟨wq, rfl⟩ : ∃ wq : World, wq = wr := ⟨_, rfl⟩
      by_cases hlt : v < o.length
      case neg =>
        have HOK := Lib.hid (olOk_yes HZS.out HGN.out HOR.out fun k hk => by rw [HR.out k (by omega)]; rfl)
        have HLIS := Lib.hid (olL_is HOK.out HZS.out (by rw [HLL.out]; omega) fun k hk => HR.out k (by omega))
        go_wp2_with fail
        go_ret2
        exact ⟨_, ret_pb HOK.out.symm, by rw [HLIS.out]; exact ISSx.mono HO.out.ssx (by omega) (Nat.le_refl _), (HF4.out.below_of hbA3 (by omega) (by omega))⟩
      have hvi : (v : Int) < o.length := by omega
      obtain ⟨br, or, ur, rfl, _, hbr, zr, hur⟩ := SS.opened o_3.out hlt
      replace zr := (HF4.out.cell (by omega) (by omega)).trans zr
      obtain ⟨Ar, cr, rfl, hcr, hdr⟩ := hur.dims
      have Ur := Lib.hid hur; clear hur
      have hr6 := ori_short HGN.out HOR.out hlt
      obtain ⟨row, HROW⟩ : ∃ r, Hid (nthL o v = r) := ⟨_, Lib.hid rfl⟩
      rw [HROW.out] at Ur zr hcr hr6
      go_wp2_with fail
      clear zr
      have HOUT := Lib.hid HF4.out
      have HURA := Lib.hid (IntS.turned Ur.out HF4.out (by omega) (by omega)); clear Ur
      have P_4 := Lib.hid (Pro.turned P_3.out HF4.out (by omega) (by omega)); clear P_3
      have N_4 := Lib.hid (Net.turned N_3.out HF4.out (by omega) (by omega)); clear N_3
      have o_4 := Lib.hid (ISS.turned o_3.out HF4.out (by omega) (by omega)); clear o_3
      have bx1_4 := HF4.out.boxN bx1_3 (by omega); clear bx1_3
      have bx2_4 := HF4.out.boxN bx2_3 (by omega); clear bx2_3
      have RO_4 := Lib.hid (IntS.turned RO3.out HF4.out (by omega) (by omega)); clear RO3
      have RI_4 := Lib.hid (IntS.turned RI3.out HF4.out (by omega) (by omega)); clear RI3
      have hbA4 : Below w.heap.size w wq := (HF4.out.below_of hbA3 (by omega) (by omega)); clear hbA3 HF4
      go_loopw [14, 15, 45] (fun mv pv iv wr => ∃ (i : Nat), i ≤ row.length ∧ iv = .int .i64 i ∧ Hid (OwnI wr wq.heap.size 3 mv (mkL (so : Int) (si : Int) row i)) ∧ Hid (OwnI wr wq.heap.size 3 pv (mkL z0 z1 row i)) ∧ Hid (Apart mv pv) ∧ Hid (Turned wq.heap.size wq.heap.size wq wr)) (fun mv pv iv _ => row.length - (intOf iv).toNat)
      case atStart => exact ⟨0, Nat.zero_le _, rfl, Lib.hid (OwnI.nil _ _ _), Lib.hid (OwnI.nil _ _ _), Lib.hid (Apart.nil_left _), Lib.hid (Turned.refl wq.heap.size wq.heap.size wq)⟩
      case round =>
        obtain ⟨i, hir, rfl, HM, HP, HAP, HF5⟩ := hrel
        have hs5 := HF5.out.size
        obtain ⟨wi, rfl⟩ : ∃ wi : World, wi = wr := ⟨_, rfl⟩
        obtain ⟨mv, rfl⟩ : ∃ z : Value, z = u14 := ⟨_, rfl⟩
        obtain ⟨pv, rfl⟩ : ∃ z : Value, z = u15 := ⟨_, rfl⟩
        by_cases hil : i < row.length
        case pos =>
          obtain ⟨bx, ox, rfl, _, hbx', xx, _⟩ := (IntS.turned HURA.out HF5.out (by omega) (by omega)).opened hil
          obtain ⟨x, HX⟩ : ∃ x, Hid (nth row i = x) := ⟨_, Lib.hid rfl⟩
          rw [HX.out] at xx
          have hii : (i : Int) < row.length := by omega
          have HLT := Lib.hid HM.out.lt
          have HLP := Lib.hid HP.out.lt
          have HSM := Lib.hid (mkL_succ (a := (so : Int)) (b := (si : Int)) hil)
          have HSP := Lib.hid (mkL_succ (a := z0) (b := z1) hil)
          rw [HX.out] at HSM HSP
          have hlm := mkL_len (so : Int) (si : Int) row i
          have hlp := mkL_len z0 z1 row i
          by_cases hx1 : x = 1
          case pos =>
            have hx1b : (x == 1) = true := by simpa using hx1
            rw [if_pos hx1] at HSM HSP
            clear hx1
            go_wp2_with fail
            clear xx
            refine (zeMask_any _ _ _ _ _ (IntS.turned RO_4.out HF5.out (by omega) (by omega)) (by omega) P.L.toNat (fun a => S.testBit a) rfl n8).mono ?_
            rintro e w' ⟨rfl, rfl⟩
            rw [show setOf P.L.toNat (fun a => S.testBit a) = so from HSO.out]
            go_upto_region 14 with (at_builtin; refine append_int (s := .tmp 51) Tryz.underlying26 Tryz.info3 (by decide) wi rfl _ rfl HM.out (so : Nat) _ rfl (by simp [Act.eval, go_sem]) (by omega) (by omega) ?_; intro m2 w2 ho2 hg2 hat2)
            have HM2 := Lib.hid (show OwnI w2 wq.heap.size 3 m2 (mkL (so : Int) (si : Int) row (i + 1)) by rw [HSM.out]; exact ho2)
            have HP2 := Lib.hid (OwnI.kept HP.out hg2 (Apart.keeps HAP.out.symm))
            have HAP2 := Lib.hid (Apart.grow HAP.out.symm HP.out (g := wi.heap.size + 1) (by omega) hat2)
            have HFI := Lib.hid (HF5.out.grown hg2 fun g e => .inr (HLT.out g e).1)
            have hs2w := hg2.size
            clear ho2 hat2
            have x0 := (((IntS.turned RO_4.out HFI.out (by omega) (by omega))).at_ (j := 0) (by rw [HLO.out]; omega)).1
            rw [HZ0.out, Nat.add_zero] at x0
            have hpos9 : (0 : Int) < lo9 := by omega
            go_wp2_with (at_builtin; refine append_int (s := .tmp 56) Tryz.underlying26 Tryz.info3 (by decide) w2 rfl _ rfl HP2.out z0 _ rfl (by simp [Act.eval, go_sem]) (by omega) (by omega) ?_; intro p3 w3 ho3 hg3 hat3)
            go_roundw
            case rel => exact ⟨i + 1, by omega, by go_num, Lib.hid (OwnI.kept HM2.out hg3 (Apart.keeps HAP2.out.symm)), Lib.hid (by rw [HSP.out]; exact ho3), Lib.hid (Apart.grow HAP2.out.symm HM2.out (g := w2.heap.size + 1) (by omega) hat3), Lib.hid (HFI.out.grown hg3 fun g e => .inr (HLP.out g e).1)⟩
            case measure => simp [intOf]; omega
          case neg =>
            have hx1b : (x == 1) = false := by simpa using hx1
            rw [if_neg hx1] at HSM HSP
            clear hx1
            go_wp2_with fail
            clear xx
            refine (zeMask_any _ _ _ _ _ (IntS.turned RI_4.out HF5.out (by omega) (by omega)) (by omega) P.L.toNat (fun b : Nat => pairsB P (zoOut P.L.toNat S) [(b : Int)]) rfl n8).mono ?_
            rintro e w' ⟨rfl, rfl⟩
            rw [show setOf P.L.toNat (fun b : Nat => pairsB P (zoOut P.L.toNat S) [(b : Int)]) = si from HSI.out]
            go_upto_region 16 with (at_builtin; refine append_int (s := .tmp 62) Tryz.underlying26 Tryz.info3 (by decide) wi rfl _ rfl HM.out (si : Nat) _ rfl (by simp [Act.eval, go_sem]) (by omega) (by omega) ?_; intro m2 w2 ho2 hg2 hat2)
            have HM2 := Lib.hid (show OwnI w2 wq.heap.size 3 m2 (mkL (so : Int) (si : Int) row (i + 1)) by rw [HSM.out]; exact ho2)
            have HP2 := Lib.hid (OwnI.kept HP.out hg2 (Apart.keeps HAP.out.symm))
            have HAP2 := Lib.hid (Apart.grow HAP.out.symm HP.out (g := wi.heap.size + 1) (by omega) hat2)
            have HFI := Lib.hid (HF5.out.grown hg2 fun g e => .inr (HLT.out g e).1)
            have hs2w := hg2.size
            clear ho2 hat2
            have x0 := (((IntS.turned RI_4.out HFI.out (by omega) (by omega))).at_ (j := 0) (by rw [HLI.out]; omega)).1
            rw [HZ1.out, Nat.add_zero] at x0
            have hpos9 : (0 : Int) < li9 := by omega
            go_wp2_with (at_builtin; refine append_int (s := .tmp 67) Tryz.underlying26 Tryz.info3 (by decide) w2 rfl _ rfl HP2.out z1 _ rfl (by simp [Act.eval, go_sem]) (by omega) (by omega) ?_; intro p3 w3 ho3 hg3 hat3)
            go_roundw
            case rel => exact ⟨i + 1, by omega, by go_num, Lib.hid (OwnI.kept HM2.out hg3 (Apart.keeps HAP2.out.symm)), Lib.hid (by rw [HSP.out]; exact ho3), Lib.hid (Apart.grow HAP2.out.symm HM2.out (g := w2.heap.size + 1) (by omega) hat3), Lib.hid (HFI.out.grown hg3 fun g e => .inr (HLP.out g e).1)⟩
            case measure => simp [intOf]; omega
        obtain rfl : i = row.length := by omega
        have HMK := Lib.hid (mkL_masks so si row)
        have HPK := Lib.hid (mkL_plain HZ0.out HZ1.out row)
        rw [HPK.out] at HP
        rw [HMK.out] at HM
        have hii : ¬ ((row.length : Nat) : Int) < row.length := by omega
        have hfew := ori_few HGN.out HOR.out
        have hlv := HO.out.lt
        have htop : top ≤ wq.heap.size := by obtain ⟨_, _, _, _, _, _, h, _⟩ := HO.out; exact h
        by_cases hfull : (row.length : Int) = P.D
        case neg =>
          have HF9 := Lib.hid (rowO_plain HZS.out (row := row) (decide_eq_false hfull))
          have hfb : ((row.length : Int) == P.D) = false := by simpa using hfull
          clear hfull
          have kbx1_0 : wi.cell? ⟨w.heap.size, 0, none⟩ = some (.int .i64 P.L) := (HF5.out.boxN bx1_4 (by omega)).cell 0 (by simp)
          have kbx1_1 : wi.cell? ⟨w.heap.size, 1, none⟩ = some (.int .i64 P.D) := (HF5.out.boxN bx1_4 (by omega)).cell 1 (by simp)
          have kbx1_2 : wi.cell? ⟨w.heap.size, 2, none⟩ = some (.slice A1 P.nodes.length c1) := (HF5.out.boxN bx1_4 (by omega)).cell 2 (by simp)
          have kbx1_3 : wi.cell? ⟨w.heap.size, 3, none⟩ = some (.slice A1' P.edges.length c1') := (HF5.out.boxN bx1_4 (by omega)).cell 3 (by simp)
          obtain ⟨Ap, cp, rfl, hcp, hdp⟩ := HP.out.ints.dims
          obtain ⟨pl, HPL⟩ : ∃ z, Hid (plainL P S row = z) := ⟨_, Lib.hid rfl⟩
          rw [HPL.out] at HP HF9
          try rw [HPL.out]
          try rw [HPL.out] at hcp
          have HPI := Lib.hid HP.out.ints
          have HO3 := Lib.hid (HO.out.below (HF5.out.below (Nat.le_refl _)))
          have HFF := Lib.hid (Turned.all_trans HOUT.out HF5.out)
          have HLL2 := HLL.out
          go_wp2_with (at_builtin; refine append_ss (s := .tmp 82) Tryz.underlying22 Tryz.info26 (by decide) wi rfl _ rfl HO3.out (lo := wq.heap.size) (hi := wi.heap.size) HPI.out (by omega) (Nat.le_refl _) (by omega) (fun g hg => .inl (by have := hlv g hg; omega)) _ rfl (by simp [Act.eval, go_sem]) (by omega) ?_; intro v' w' ho' hg' hat')
          go_roundw
          case rel => exact ⟨v + 1, L ++ [pl], wi.heap.size, by omega, by go_num, Lib.hid ho', Lib.hid (by simp; exact HLL.out), Lib.hid (rows_snoc HR.out HLL.out (by rw [HROW.out]; exact HF9.out)), Lib.hid (HFF.out.grown hg' fun g e => .inr (hlv g e).1)⟩
          case measure => simp [intOf]; omega
        have HF9 := Lib.hid (rowO_full (P := P) (S := S) (row := row) (decide_eq_true hfull))
        have hfb : ((row.length : Int) == P.D) = true := by simpa using hfull
        have HRD := Lib.hid (show row.length = P.D.toNat by omega)
        have hrs := rowO_some HZS.out row
        obtain ⟨l9, hl9⟩ := Option.isSome_iff_exists.1 hrs
        have HRS := Lib.hid hl9
        rw [HF9.out] at hl9
        have HFC := Lib.hid hl9
        clear hfull hrs hl9
        have HMB := Lib.hid (show ∀ m ∈ row.map (fun x => if x = 1 then so else si), m < 1000000 from fun m hm => by
          obtain ⟨x, _, rfl⟩ := List.mem_map.1 hm
          split <;> omega)
        have HSR := Lib.hid (same_row HSO.out HSI.out row)
        obtain ⟨msN, HMSN⟩ : ∃ z, Hid (row.map (fun x => if x = 1 then so else si) = z) := ⟨_, Lib.hid rfl⟩
        rw [HMSN.out] at HM HMB HSR
        obtain ⟨zm, HZM9⟩ : ∃ z, Hid (msN.map (fun (m : Nat) => (m : Int)) = z) := ⟨_, Lib.hid rfl⟩
        rw [HZM9.out] at HM
        obtain ⟨Am, cm, rfl, hcm, hdm⟩ := HM.out.ints.dims
        have HMI := Lib.hid HM.out.ints
        have kbx1_0 : wi.cell? ⟨w.heap.size, 0, none⟩ = some (.int .i64 P.L) := (HF5.out.boxN bx1_4 (by omega)).cell 0 (by simp)
        have kbx1_1 : wi.cell? ⟨w.heap.size, 1, none⟩ = some (.int .i64 P.D) := (HF5.out.boxN bx1_4 (by omega)).cell 1 (by simp)
        have kbx1_2 : wi.cell? ⟨w.heap.size, 2, none⟩ = some (.slice A1 P.nodes.length c1) := (HF5.out.boxN bx1_4 (by omega)).cell 2 (by simp)
        have kbx1_3 : wi.cell? ⟨w.heap.size, 3, none⟩ = some (.slice A1' P.edges.length c1') := (HF5.out.boxN bx1_4 (by omega)).cell 3 (by simp)
        go_wp2_with fail
        clear kbx1_0 kbx1_1 kbx1_2 kbx1_3
        refine (zeFirst_any _ P _ _ _ _ _ _ _ (Pro.turned P_4.out HF5.out (by omega) (by omega)) (by omega) HMI.out (Nat.le_refl _) msN _ l9 P.L.toNat P.D.toNat HZM9.out.symm (zoS_good HZS.out) HL9.out HD9.out HSR.out (by rw [List.length_map]; exact HRD.out) (asc_row row) HMB.out HFC.out).mono ?_
        rintro e W6 ⟨rv, rfl, hrv, hb6⟩
        have hg6 := grown_below hb6; clear hb6
        have hs6 := hg6.size
        have HF6 := Lib.hid (HF5.out.still hg6); clear HF5
        have HRV := Lib.hid hrv; clear hrv
        obtain ⟨Av, cv9, rfl, hcv, hdv⟩ := HRV.out.dims
        have HO3 := Lib.hid (HO.out.below (HF6.out.below (Nat.le_refl _)))
        have HFF := Lib.hid (Turned.all_trans HOUT.out HF6.out)
        have HLL2 := HLL.out
        go_wp2_with (at_builtin; refine append_ss (s := .tmp 82) Tryz.underlying22 Tryz.info26 (by decide) W6 rfl _ rfl HO3.out (lo := wi.heap.size) (hi := W6.heap.size) HRV.out (by omega) (Nat.le_refl _) (by omega) (fun g hg => .inl (by have := hlv g hg; omega)) _ rfl (by simp [Act.eval, go_sem]) (by omega) ?_; intro v' w' ho' hg' hat')
        go_roundw
        case rel => exact ⟨v + 1, L ++ [l9], W6.heap.size, by omega, by go_num, Lib.hid ho', Lib.hid (by simp; exact HLL.out), Lib.hid (rows_snoc HR.out HLL.out (by rw [HROW.out]; exact HRS.out)), Lib.hid (HFF.out.grown hg' fun g e => .inr (hlv g e).1)⟩
        case measure => simp [intOf]; omega

end Go.Proofs.YtkcbocoimbhhaaaGreat
