/-
  Contracts of the reference's ruGain and GreedyDominating.
-/
import Derived.Test.YtoebgfmnjjiddaaDom2
namespace Go.Proofs.Ytoebgfmnjjiddaa
open Go.ChangeShapes Go.WideShapes Go.ChangeAt Go.RowKit
set_option linter.unusedVariables false

theorem dm_after_put (v : Int) : ∀ (S : List Int), S.Pairwise (· < ·) → v ∉ S → ∀ y ∈ S.dropWhile (fun y => decide (y < v)), v < y
  | [], _, _, y, hy => by simp at hy
  | z :: S, hs, hv, y, hy => by
    rw [List.pairwise_cons] at hs
    rw [List.dropWhile_cons] at hy
    by_cases h : z < v
    · rw [if_pos (by simpa using h)] at hy
      exact dm_after_put v S hs.2 (fun h => hv (List.mem_cons_of_mem _ h)) y hy
    · rw [if_neg (by simpa using h)] at hy
      have hne : z ≠ v := fun e => hv (by simp [e])
      rcases List.mem_cons.1 hy with rfl | hy
      · omega
      · have := hs.1 y hy; omega
theorem dm_before_put (v : Int) : ∀ (S : List Int), ∀ y ∈ S.takeWhile (fun y => decide (y < v)), y < v
  | [], y, hy => by simp at hy
  | z :: S, y, hy => by
    rw [List.takeWhile_cons] at hy
    by_cases h : z < v
    · rw [if_pos (by simpa using h)] at hy
      rcases List.mem_cons.1 hy with rfl | hy
      · exact h
      · exact dm_before_put v S y hy
    · rw [if_neg (by simpa using h)] at hy; cases hy
theorem dm_put_parts (S : List Int) (v : Int) : S.take (putK S v) = S.takeWhile (fun y => decide (y < v)) ∧ S.drop (putK S v) = S.dropWhile (fun y => decide (y < v)) := by
  have h := List.takeWhile_append_dropWhile (p := fun y => decide (y < v)) (l := S)
  unfold putK
  constructor
  · conv => lhs; arg 2; rw [← h]
    rw [List.take_left']; rfl
  · conv => lhs; arg 2; rw [← h]
    rw [List.drop_left']; rfl
theorem dm_put_sort {U : List Int} {v : Int} (hn : U.Nodup) (hv : v ∉ U) : putL (sortI U) v = sortI (U ++ [v]) := by
  have hp := sortI_perm U
  have hvs : v ∉ sortI U := fun h => hv (hp.mem_iff.1 h)
  have hss : (sortI U).Pairwise (· < ·) := (List.Pairwise.and (sortI_sorted U) (hp.nodup_iff.2 hn)).imp fun h => by omega
  have hne : ¬ (putK (sortI U) v < (sortI U).length ∧ nth (sortI U) (putK (sortI U) v) = v) := fun h => hvs (by rw [← h.2]; exact nth_mem h.1)
  obtain ⟨e1, e2⟩ := dm_put_parts (sortI U) v
  have heq : putL (sortI U) v = (sortI U).takeWhile (fun y => decide (y < v)) ++ [v] ++ (sortI U).dropWhile (fun y => decide (y < v)) := by unfold putL; rw [if_neg hne, e1, e2]
  rw [heq]
  have hbefore : ∀ y ∈ (sortI U).takeWhile (fun y => decide (y < v)), y < v := dm_before_put v (sortI U)
  have hafter := dm_after_put v (sortI U) hss hvs
  have hsplit := List.takeWhile_append_dropWhile (p := fun y => decide (y < v)) (l := sortI U)
  have hpw : ((sortI U).takeWhile (fun y => decide (y < v)) ++ (sortI U).dropWhile (fun y => decide (y < v))).Pairwise (· < ·) := by rw [hsplit]; exact hss
  rw [List.pairwise_append] at hpw
  apply List.Perm.eq_of_pairwise (le := (· ≤ ·)) (fun a b _ _ h1 h2 => by omega)
  · rw [List.pairwise_append, List.pairwise_append]
    refine ⟨⟨hpw.1.imp fun h => by omega, by simp, fun a ha b hb => ?_⟩, hpw.2.1.imp fun h => by omega, fun a ha b hb => ?_⟩
    · simp at hb; subst hb; have := hbefore a ha; omega
    · have h2 := hafter b hb
      rcases List.mem_append.1 ha with ha | ha
      · have := hbefore a ha; omega
      · simp at ha; subst ha; omega
  · exact sortI_sorted _
  · refine List.Perm.trans ?_ (sortI_perm (U ++ [v])).symm
    rw [List.append_assoc]
    refine List.Perm.trans (List.Perm.append_left _ List.perm_append_comm) ?_
    rw [← List.append_assoc, hsplit]
    exact hp.append_right _

theorem domOut_len (N : NetD) : (domOut N).length ≤ N.sz := by
  by_cases hg : N.good = true
  · rw [domOut_yes hg, sortI_length]
    have key : ∀ f cov U, DmTop N cov U → f = N.ends.length + 1 - U.length → (domF N f cov U).length ≤ N.ends.length := by
      intro f
      induction f with
      | zero => intro cov U h hf; have := h.le; omega
      | succ f ih =>
        intro cov U h hf
        rw [domF]
        by_cases h0 : gain N cov (best N cov) = 0
        · rw [if_pos h0]; exact h.le
        · rw [if_neg h0]
          refine ih _ _ (h.step hg h0).2 ?_
          rw [List.length_append, List.length_singleton]; omega
    have := key _ _ _ (DmTop.zero N) rfl
    unfold NetD.sz szSS
    unfold dom
    simp at this ⊢
    omega
  · rw [domOut_no (by simpa using hg)]; exact Nat.zero_le _

set_option maxHeartbeats 1000000 in
set_option maxRecDepth 100000 in
theorem ruGain_any (v1 : Value) (N : NetD) (lo1 hi1 : Nat) (v2 : Value) (cov : List Bool) (lo2 hi2 : Nat) (v : Nat) (w : World) (h1 : Net w lo1 hi1 v1 N) (hh1 : hi1 ≤ w.heap.size) (h2 : BoolS w lo2 hi2 v2 cov) (hh2 : hi2 ≤ w.heap.size) (hg : N.good = true) (hl : cov.length = N.ends.length) (hv : v < N.ends.length) :
    Calls Try.prog 77 #[v1, v2, .int .i64 (v : Nat)] w fun e w' => e = .returned (.int .i64 (gain N cov v : Nat)) ∧ Below w.heap.size w w' := by
  obtain ⟨n1, n40⟩ := good_n hg
  have HG := Lib.hid hg; clear hg
  have HCL := Lib.hid hl; clear hl
  have hbl2 := ball_len N v 1
  have F1 := Lib.hid h1
  obtain ⟨A1, c1, A1', c1', A1'', c1'', rfl, hc1, hd1, _⟩ := h1.parts
  obtain ⟨b1, o1, _, _, rfl, _⟩ := Net.rowAt F1.out (u := 0) (by omega)
  clear h1
  have F2 := Lib.hid h2
  obtain ⟨A2, c2, rfl, hc2, hd2⟩ := h2.dims
  clear h2
  obtain ⟨WA, HWA⟩ : ∃ W, Hid (W = (w.alloc (.cells #[.slice (some ⟨b1, o1, none⟩) N.ends.length c1, .slice A1' N.ids.length c1', .slice A1'' N.inputs.length c1''] 33))) := ⟨_, Lib.hid rfl⟩
  have hbA : Below w.heap.size w WA := by rw [HWA.out]; exact ((Below.refl _ _).alloc (Nat.le_refl _) _)
  have hsA : w.heap.size + 1 ≤ WA.heap.size := by rw [HWA.out]; simp; try omega
  have bx1 : BoxN WA (w.heap.size) #[.slice (some ⟨b1, o1, none⟩) N.ends.length c1, .slice A1' N.ids.length c1', .slice A1'' N.inputs.length c1''] 33 := by rw [HWA.out]; exact (BoxN.new' _ _ _ (by simp))
  have G1 := Lib.hid (Net.below F1.out hbA hh1); clear F1
  have G2 := Lib.hid (BoolS.below F2.out hbA hh2); clear F2
  go_enter Try.func77, Try.ntmps77
  go_upto_region 1 with (fail)
  rw [← HWA.out]; clear HWA
  have kbx1_0 : WA.cell? ⟨w.heap.size, 0, none⟩ = some (.slice (some ⟨b1, o1, none⟩) N.ends.length c1) := bx1.cell 0 (by simp)
  have kbx1_1 : WA.cell? ⟨w.heap.size, 1, none⟩ = some (.slice A1' N.ids.length c1') := bx1.cell 1 (by simp)
  have kbx1_2 : WA.cell? ⟨w.heap.size, 2, none⟩ = some (.slice A1'' N.inputs.length c1'') := bx1.cell 2 (by simp)
  go_wp2_with fail
  clear kbx1_0 kbx1_1 kbx1_2
  obtain ⟨bl, HBL⟩ : ∃ l, Hid (ball N v 1 = l) := ⟨_, Lib.hid rfl⟩
  have HGN : Hid (gain N cov v = bare cov bl bl.length) := Lib.hid (by unfold gain; rw [HBL.out])
  have HND := Lib.hid (fun (i : Nat) (hi : i < bl.length) => show ∃ t : Nat, nth bl i = t ∧ t < N.ends.length by rw [← HBL.out] at hi ⊢; exact ball_node hi)
  rw [HBL.out] at hbl2
  refine (meBall_any _ N lo1 hi1 v 1 _ G1.out (by omega) HG.out hv).mono ?_
  rintro e W1 ⟨r, rfl, hr, hb1⟩
  have hg1 := grown_below hb1; clear hb1
  have hs1 := hg1.size
  have HF1 := Lib.hid ((Turned.refl WA.heap.size WA.heap.size WA).still hg1)
  have R1 := Lib.hid hr; clear hr
  rw [HBL.out] at R1
  obtain ⟨Ra, rc, rfl, hrc, hrd⟩ := R1.out.dims
  go_wp2_with fail
  go_loop [14, 7] (fun jv uv => ∃ (j : Nat), j ≤ bl.length ∧ jv = .int .i64 j ∧ uv = .int .i64 (bare cov bl j : Nat)) (fun jv uv => bl.length - (intOf jv).toNat)
  case atStart => exact ⟨0, Nat.zero_le _, rfl, rfl⟩
  case round =>
    obtain ⟨j, hj, rfl, rfl⟩ := hrel
    have hba := bare_le cov bl j
    by_cases hjl : j < bl.length
    case pos =>
      obtain ⟨u, eu, hu⟩ := HND.out j hjl
      obtain ⟨b2, o2, rfl, _, _, x2, _⟩ := IntS.opened R1.out hjl
      rw [eu] at x2
      obtain ⟨b3, o3, rfl, _, _, y1, _⟩ := BoolS.opened (BoolS.turned G2.out HF1.out (by omega) (by omega)) (j := u) (by rw [HCL.out]; exact hu)
      have hui : (u : Int) < cov.length := by rw [HCL.out]; omega
      have HB1 := Lib.hid (show bare cov bl (j + 1) = bare cov bl j + if nthB cov u = true then 0 else 1 by rw [bare, eu, Int.toNat_natCast])
      clear eu
      cases hc : nthB cov u with
      | true =>
        rw [hc] at y1
        have HB2 := Lib.hid (show bare cov bl (j + 1) = bare cov bl j by rw [HB1.out, hc]; rfl)
        clear hc HB1
        go_wp2_with fail
        go_round
        case rel => exact ⟨j + 1, by omega, by go_num, by rw [HB2.out]⟩
        case measure => simp [intOf]; omega
      | false =>
        rw [hc] at y1
        have HB2 := Lib.hid (show bare cov bl (j + 1) = bare cov bl j + 1 by rw [HB1.out, hc]; rfl)
        clear hc HB1
        go_wp2_with fail
        go_round
        case rel => exact ⟨j + 1, by omega, by go_num, by rw [HB2.out]; go_num⟩
        case measure => simp [intOf]; omega
    obtain rfl : j = bl.length := by omega
    go_wp2_with fail
    go_ret
    exact ⟨ret_int (by rw [HGN.out]), (HF1.out.below_of hbA (by omega) (by omega))⟩

set_option maxHeartbeats 4000000 in
set_option maxRecDepth 100000 in
theorem GreedyDominating_spec (v1 : Value) (N : NetD) (lo1 hi1 : Nat) (w : World) (h1 : Net w lo1 hi1 v1 N) (hh1 : hi1 ≤ w.heap.size) (hz1 : N.sz ≤ 1048576) (ok1 : N.Ok) :
    Calls Try.prog 30 #[v1] w fun e w' => ∃ r, e = .returned (.tuple #[r, .bool N.good]) ∧ IntS w' w.heap.size w'.heap.size r (domOut N) ∧ Below w.heap.size w w' := by
  clear ok1
  have F1 := Lib.hid h1
  obtain ⟨A1, c1, A1', c1', A1'', c1'', rfl, hc1, hd1, _⟩ := h1.parts
  clear h1
  obtain ⟨WA, HWA⟩ : ∃ W, Hid (W = (w.alloc (.cells #[.slice A1 N.ends.length c1, .slice A1' N.ids.length c1', .slice A1'' N.inputs.length c1''] 33))) := ⟨_, Lib.hid rfl⟩
  have hbA : Below w.heap.size w WA := by rw [HWA.out]; exact ((Below.refl _ _).alloc (Nat.le_refl _) _)
  have hsA : w.heap.size + 1 ≤ WA.heap.size := by rw [HWA.out]; simp; try omega
  have bx1 : BoxN WA (w.heap.size) #[.slice A1 N.ends.length c1, .slice A1' N.ids.length c1', .slice A1'' N.inputs.length c1''] 33 := by rw [HWA.out]; exact (BoxN.new' _ _ _ (by simp))
  have G1 := Lib.hid (Net.below F1.out hbA hh1); clear F1
  go_enter Try.func30, Try.ntmps30
  go_upto_region 1 with (fail)
  rw [← HWA.out]; clear HWA
  have kbx1_0 : WA.cell? ⟨w.heap.size, 0, none⟩ = some (.slice A1 N.ends.length c1) := bx1.cell 0 (by simp)
  have kbx1_1 : WA.cell? ⟨w.heap.size, 1, none⟩ = some (.slice A1' N.ids.length c1') := bx1.cell 1 (by simp)
  have kbx1_2 : WA.cell? ⟨w.heap.size, 2, none⟩ = some (.slice A1'' N.inputs.length c1'') := bx1.cell 2 (by simp)
  go_wp2_with fail
  clear kbx1_0 kbx1_1 kbx1_2
  refine (neGood_any _ N lo1 hi1 _ G1.out (by omega) hz1).mono ?_
  rintro e W1 ⟨rfl, hb1⟩
  have hg1 := grown_below hb1; clear hb1
  have hs1 := hg1.size
  have HF1 := Lib.hid ((Turned.refl WA.heap.size WA.heap.size WA).still hg1)
  by_cases hg : N.good = true
  case neg =>
    have hg' : N.good = false := by simpa using hg
    rw [hg']
    have HG := Lib.hid hg'; clear hg hg'
    go_wp2_with fail
    go_ret2
    exact ⟨_, ret_vb HG.out.symm, by rw [domOut_no HG.out]; exact IntS.nil _ _ _, (HF1.out.below_of hbA (by omega) (by omega))⟩
  rw [hg]
  have HG := Lib.hid hg; clear hg
  obtain ⟨n1, n40⟩ := good_n HG.out
  have hmk := fun W => run_make_row' (P := Try.prog) 83 4 (.bool false) 1 Try.underlying83 Try.infoBoolD rfl .i64 .i64 N.ends.length (by omega) (by omega) W
  have kbx1_0 : W1.cell? ⟨w.heap.size, 0, none⟩ = some (.slice A1 N.ends.length c1) := (HF1.out.boxN bx1 (by omega)).cell 0 (by simp)
  have kbx1_1 : W1.cell? ⟨w.heap.size, 1, none⟩ = some (.slice A1' N.ids.length c1') := (HF1.out.boxN bx1 (by omega)).cell 1 (by simp)
  have kbx1_2 : W1.cell? ⟨w.heap.size, 2, none⟩ = some (.slice A1'' N.inputs.length c1'') := (HF1.out.boxN bx1 (by omega)).cell 2 (by simp)
  go_upto_region 4 with (fail)
  refine nameC ?_
  intro W2 HW2
  have hg2 : W1.grownBy W2 none := by rw [HW2.out]; exact grown_alloc _ _
  have hs2 := hg2.size
  have HF2 := Lib.hid (HF1.out.still hg2); clear HF1
  have FB := Lib.hid (show BoolS W2 W1.heap.size (W1.heap.size + 1) (.slice (some ⟨W1.heap.size, 0, none⟩) N.ends.length N.ends.length) (List.replicate N.ends.length false) by rw [HW2.out]; exact made_bools _ _ _ rfl (by omega))
  have hzf : W1.heap.size + 1 ≤ W2.heap.size := by rw [HW2.out]; simp
  clear HW2 hmk kbx1_0 kbx1_1 kbx1_2
  go_wp2_with fail
  have N_2 := Lib.hid (Net.turned G1.out HF2.out (by omega) (by omega)); clear G1
  have bx1_2 := HF2.out.boxN bx1 (by omega); clear bx1
  have hbA2 := (HF2.out.below_of hbA (by omega) (by omega)); clear hbA HF2
  go_loopw [5] (fun ov wr => ∃ (cov : List Bool) (U : List Int), Hid (OwnI wr W2.heap.size 3 ov (sortI U)) ∧ Hid (BoolS wr W1.heap.size (W1.heap.size + 1) (.slice (some ⟨W1.heap.size, 0, none⟩) N.ends.length N.ends.length) cov) ∧ Hid (DmTop N cov U) ∧ Hid (Turned W1.heap.size (W1.heap.size + 1) W2 wr)) (fun ov _ => N.ends.length + 1 - slLen ov)
  case atStart => exact ⟨List.replicate N.ends.length false, [], Lib.hid (by rw [show sortI [] = [] by simp [sortI]]; exact OwnI.nil _ _ _), FB, Lib.hid (DmTop.zero N), Lib.hid (Turned.refl W1.heap.size (W1.heap.size + 1) W2)⟩
  case round =>
    obtain ⟨cov, U, HO, HC, HT, HF3⟩ := hrel
    have hs3 := HF3.out.size
    have hcl := HT.out.len
    have hle := HT.out.le
    have HSL := Lib.hid (sortI_length U)
    have hsl := Lib.hid (slLen_own HO.out)
    have HCL := Lib.hid hcl
    obtain ⟨S, HSS⟩ : ∃ S, Hid (sortI U = S) := ⟨_, Lib.hid rfl⟩
    rw [HSS.out] at HO hsl HSL
    obtain ⟨Az, cz, rfl, hcz, hdz⟩ := HO.out.ints.dims
    obtain ⟨wq, rfl⟩ : ∃ wq : World, wq = wr := ⟨_, rfl⟩
    go_wp2_with fail
    go_loopw [19, 6] (fun iv bv wr => ∃ (k : Nat), k ≤ N.ends.length ∧ iv = .int .i64 k ∧ bv = .int .i64 (bestN N cov k : Nat) ∧ Hid (OwnI wr W2.heap.size 3 (.slice Az S.length cz) S) ∧ Hid (BoolS wr W1.heap.size (W1.heap.size + 1) (.slice (some ⟨W1.heap.size, 0, none⟩) N.ends.length N.ends.length) cov) ∧ wq.heap.size ≤ wr.heap.size ∧ Hid (Turned W1.heap.size (W1.heap.size + 1) W2 wr)) (fun iv bv _ => N.ends.length - (intOf iv).toNat)
    case atStart => exact ⟨0, Nat.zero_le _, rfl, rfl, HO, HC, Nat.le_refl _, HF3⟩
    case round =>
      clear HF3
      obtain ⟨k, hk, rfl, rfl, HO, HC, hzq, HF4⟩ := hrel
      have hs4 := HF4.out.size
      by_cases hlt : k < N.ends.length
      case pos =>
        have hbk := bestN_lt N cov k
        have HBN := Lib.hid (show bestN N cov (k + 1) = if gain N cov (bestN N cov k) < gain N cov k then k else bestN N cov k from rfl)
        obtain ⟨b, HB⟩ : ∃ b, Hid (bestN N cov k = b) := ⟨_, Lib.hid rfl⟩
        rw [HB.out] at hbk HBN ⊢
        have hbn : b < N.ends.length := by omega
        obtain ⟨gk, HGK⟩ : ∃ g, Hid (gain N cov k = g) := ⟨_, Lib.hid rfl⟩
        obtain ⟨gb, HGB⟩ : ∃ g, Hid (gain N cov b = g) := ⟨_, Lib.hid rfl⟩
        rw [HGK.out, HGB.out] at HBN
        go_wp2_with fail
        by_cases hgt : gb < gk
        case pos =>
          have hgt' : decide ((gb : Int) < (gk : Int)) = true := decide_eq_true (by omega)
          have hgt2 : (gb : Int) < (gk : Int) := by omega
          rw [if_pos hgt] at HBN
          have ebx1_0 : ∀ p, (ext wr p).cell? ⟨w.heap.size, 0, none⟩ = some (.slice A1 N.ends.length c1) := ext_cell wr (a := ⟨w.heap.size, 0, none⟩) ((HF4.out.boxN bx1_2 (by omega))).lt ((HF4.out.boxN bx1_2 (by omega)).cell 0 (by simp))
          have ebx1_1 : ∀ p, (ext wr p).cell? ⟨w.heap.size, 1, none⟩ = some (.slice A1' N.ids.length c1') := ext_cell wr (a := ⟨w.heap.size, 1, none⟩) ((HF4.out.boxN bx1_2 (by omega))).lt ((HF4.out.boxN bx1_2 (by omega)).cell 1 (by simp))
          have ebx1_2 : ∀ p, (ext wr p).cell? ⟨w.heap.size, 2, none⟩ = some (.slice A1'' N.inputs.length c1'') := ext_cell wr (a := ⟨w.heap.size, 2, none⟩) ((HF4.out.boxN bx1_2 (by omega))).lt ((HF4.out.boxN bx1_2 (by omega)).cell 2 (by simp))
          refine wp_region_ext (by kernel_rfl) (by kernel_rfl) ?_
          repeat (go_big_quiet_step ((first | (go_at_call 77; exact ext_call ((ruGain_any _ N lo1 hi1 _ cov _ _ _ _ (Net.below (Net.turned N_2.out HF4.out (by omega) (by omega)) (ext_below _ _) (by omega)) (Nat.le_trans (by omega) (ext_size _ _)) (BoolS.below HC.out (ext_below _ _) (by omega)) (Nat.le_trans (by omega) (ext_size _ _)) HG.out HCL.out (by first | exact hlt | exact hbn)).mono fun e w' ⟨he, hb⟩ => ⟨(by first | rw [he, HGK.out] | rw [he, HGB.out]), hb⟩)))))
          refine wpQuiet_nil ?_
          rintro w1 ⟨p, rfl⟩
          clear ebx1_0 ebx1_1 ebx1_2
          obtain ⟨W5, HW5⟩ : ∃ W, Hid (W = ext wr p) := ⟨_, Lib.hid rfl⟩
          rw [← HW5.out]
          have hg5 : wr.grownBy W5 none := by rw [HW5.out]; exact grown_below (ext_below _ _)
          clear HW5
          have hs5 := hg5.size
          have HF5 := Lib.hid (HF4.out.still hg5); clear HF4
          have O5 := Lib.hid (OwnI.still HO.out hg5); clear HO
          have CV5 := Lib.hid (BoolS.still HC.out hg5 (by omega)); clear HC
          go_wp2_with fail
          go_roundw
          case rel => exact ⟨k + 1, by omega, by go_num, by rw [HBN.out], O5, CV5, by omega, HF5⟩
          case measure => simp [intOf]; omega
        have hgt' : decide ((gb : Int) < (gk : Int)) = false := decide_eq_false (by omega)
        have hgt2 : ¬ (gb : Int) < (gk : Int) := by omega
        rw [if_neg hgt] at HBN
        have ebx1_0 : ∀ p, (ext wr p).cell? ⟨w.heap.size, 0, none⟩ = some (.slice A1 N.ends.length c1) := ext_cell wr (a := ⟨w.heap.size, 0, none⟩) ((HF4.out.boxN bx1_2 (by omega))).lt ((HF4.out.boxN bx1_2 (by omega)).cell 0 (by simp))
        have ebx1_1 : ∀ p, (ext wr p).cell? ⟨w.heap.size, 1, none⟩ = some (.slice A1' N.ids.length c1') := ext_cell wr (a := ⟨w.heap.size, 1, none⟩) ((HF4.out.boxN bx1_2 (by omega))).lt ((HF4.out.boxN bx1_2 (by omega)).cell 1 (by simp))
        have ebx1_2 : ∀ p, (ext wr p).cell? ⟨w.heap.size, 2, none⟩ = some (.slice A1'' N.inputs.length c1'') := ext_cell wr (a := ⟨w.heap.size, 2, none⟩) ((HF4.out.boxN bx1_2 (by omega))).lt ((HF4.out.boxN bx1_2 (by omega)).cell 2 (by simp))
        refine wp_region_ext (by kernel_rfl) (by kernel_rfl) ?_
        repeat (go_big_quiet_step ((first | (go_at_call 77; exact ext_call ((ruGain_any _ N lo1 hi1 _ cov _ _ _ _ (Net.below (Net.turned N_2.out HF4.out (by omega) (by omega)) (ext_below _ _) (by omega)) (Nat.le_trans (by omega) (ext_size _ _)) (BoolS.below HC.out (ext_below _ _) (by omega)) (Nat.le_trans (by omega) (ext_size _ _)) HG.out HCL.out (by first | exact hlt | exact hbn)).mono fun e w' ⟨he, hb⟩ => ⟨(by first | rw [he, HGK.out] | rw [he, HGB.out]), hb⟩)))))
        refine wpQuiet_nil ?_
        rintro w1 ⟨p, rfl⟩
        clear ebx1_0 ebx1_1 ebx1_2
        obtain ⟨W6, HW6⟩ : ∃ W, Hid (W = ext wr p) := ⟨_, Lib.hid rfl⟩
        rw [← HW6.out]
        have hg6 : wr.grownBy W6 none := by rw [HW6.out]; exact grown_below (ext_below _ _)
        clear HW6
        have hs6 := hg6.size
        have HF6 := Lib.hid (HF4.out.still hg6); clear HF4
        have O6 := Lib.hid (OwnI.still HO.out hg6); clear HO
        have CV6 := Lib.hid (BoolS.still HC.out hg6 (by omega)); clear HC
        go_wp2_with fail
        go_roundw
        case rel => exact ⟨k + 1, by omega, by go_num, by rw [HBN.out], O6, CV6, by omega, HF6⟩
        case measure => simp [intOf]; omega
      obtain rfl : k = N.ends.length := by omega
      have hbb : bestN N cov N.ends.length = best N cov := rfl
      rw [hbb]
      clear hbb
      have hbl := best_lt HG.out cov
      have HST := Lib.hid (fun h => HT.out.stop (N := N) (cov := cov) (U := U) h)
      have HSTEP := Lib.hid (fun h => HT.out.step HG.out (cov := cov) (U := U) h)
      obtain ⟨b, HB⟩ : ∃ b, Hid (best N cov = b) := ⟨_, Lib.hid rfl⟩
      rw [HB.out] at hbl HSTEP HST ⊢
      obtain ⟨gb, HGB⟩ : ∃ g, Hid (gain N cov b = g) := ⟨_, Lib.hid rfl⟩
      have hbl2 := ball_len N b 1
      obtain ⟨wp, rfl⟩ : ∃ wp : World, wp = wr := ⟨_, rfl⟩
      have kbx1_0 : wp.cell? ⟨w.heap.size, 0, none⟩ = some (.slice A1 N.ends.length c1) := (HF4.out.boxN bx1_2 (by omega)).cell 0 (by simp)
      have kbx1_1 : wp.cell? ⟨w.heap.size, 1, none⟩ = some (.slice A1' N.ids.length c1') := (HF4.out.boxN bx1_2 (by omega)).cell 1 (by simp)
      have kbx1_2 : wp.cell? ⟨w.heap.size, 2, none⟩ = some (.slice A1'' N.inputs.length c1'') := (HF4.out.boxN bx1_2 (by omega)).cell 2 (by simp)
      go_wp2_with fail
      clear kbx1_0 kbx1_1 kbx1_2
      refine (ruGain_any _ N lo1 hi1 _ cov _ _ b _ (Net.turned N_2.out HF4.out (by omega) (by omega)) (by omega) HC.out (by omega) HG.out HCL.out hbl).mono ?_
      rintro e W7 ⟨rfl, hb7⟩
      have hg7 := grown_below hb7; clear hb7
      have hs7 := hg7.size
      have HF7 := Lib.hid (HF4.out.still hg7); clear HF4
      have O7 := Lib.hid (OwnI.still HO.out hg7); clear HO
      have CV7 := Lib.hid (BoolS.still HC.out hg7 (by omega)); clear HC
      rw [HGB.out]
      by_cases h0 : gb = 0
      case pos =>
        have h0' : ((gb : Int) == 0) = true := by simp; exact h0
        have HS0 := Lib.hid (HST.out (by rw [HGB.out]; exact h0))
        clear h0
        go_wp2_with fail
        go_ret2
        refine ⟨_, ret_vb HG.out.symm, ?_, (HF7.out.below_of hbA2 (by omega) (by omega))⟩
        rw [domOut_yes HG.out, HS0.out, HSS.out]
        exact O7.out.ints.mono (by omega) (Nat.le_refl _)
      have h0' : ((gb : Int) == 0) = false := by simp; intro h; exact h0 (by omega)
      have HS1 := Lib.hid (HSTEP.out (by rw [HGB.out]; exact h0))
      clear h0 HSTEP HST
      go_wp2_with fail
      refine (l1Put_any _ S (b : Int) W2.heap.size _ O7.out (by omega) (by rw [HSL.out]; omega)).mono ?_
      rintro e W8 ⟨r9, rfl, hr9, hb8⟩
      have hg8 := grown_below hb8; clear hb8
      have hs8 := hg8.size
      have HF8 := Lib.hid (HF7.out.still hg8); clear HF7
      have CV8 := Lib.hid (BoolS.still CV7.out hg8 (by omega)); clear CV7
      rw [← HSS.out, dm_put_sort HT.out.nodup HS1.out.1] at hr9
      have HO2 := Lib.hid hr9; clear hr9 O7
      obtain ⟨bl, HBL⟩ : ∃ l, Hid (ball N b 1 = l) := ⟨_, Lib.hid rfl⟩
      have HND := Lib.hid (fun (i : Nat) (hi : i < bl.length) => show ∃ t : Nat, nth bl i = t ∧ t < N.ends.length by rw [← HBL.out] at hi ⊢; exact ball_node hi)
      have HCV : Hid (cover N cov b = coverL cov bl bl.length) := Lib.hid (by unfold cover; rw [HBL.out])
      rw [HBL.out] at hbl2
      have kbx1_0 : W8.cell? ⟨w.heap.size, 0, none⟩ = some (.slice A1 N.ends.length c1) := (HF8.out.boxN bx1_2 (by omega)).cell 0 (by simp)
      have kbx1_1 : W8.cell? ⟨w.heap.size, 1, none⟩ = some (.slice A1' N.ids.length c1') := (HF8.out.boxN bx1_2 (by omega)).cell 1 (by simp)
      have kbx1_2 : W8.cell? ⟨w.heap.size, 2, none⟩ = some (.slice A1'' N.inputs.length c1'') := (HF8.out.boxN bx1_2 (by omega)).cell 2 (by simp)
      go_wp2_with fail
      clear kbx1_0 kbx1_1 kbx1_2
      refine (meBall_any _ N lo1 hi1 b 1 _ (Net.turned N_2.out HF8.out (by omega) (by omega)) (by omega) HG.out hbl).mono ?_
      rintro e W9 ⟨r, rfl, hr, hb9⟩
      have hg9 := grown_below hb9; clear hb9
      have hs9 := hg9.size
      have HF9 := Lib.hid (HF8.out.still hg9); clear HF8
      have CV9 := Lib.hid (BoolS.still CV8.out hg9 (by omega)); clear CV8
      have O9 := Lib.hid (OwnI.still HO2.out hg9); clear HO2
      have R9 := Lib.hid hr; clear hr
      rw [HBL.out] at R9
      obtain ⟨Ra, rc, rfl, hrc, hrd⟩ := R9.out.dims
      go_wp2_with fail
      go_loopw [46] (fun jv wr => ∃ (j : Nat), j ≤ bl.length ∧ jv = .int .i64 j ∧ Hid (OwnI wr W2.heap.size 3 r9 (sortI (U ++ [(b : Int)]))) ∧ Hid (BoolS wr W1.heap.size (W1.heap.size + 1) (.slice (some ⟨W1.heap.size, 0, none⟩) N.ends.length N.ends.length) (coverL cov bl j)) ∧ Hid (IntS wr (W8.heap.size) (W9.heap.size) (.slice Ra bl.length rc) bl) ∧ W9.heap.size ≤ wr.heap.size ∧ Hid (Turned W1.heap.size (W1.heap.size + 1) W2 wr)) (fun jv _ => bl.length - (intOf jv).toNat)
      case atStart => exact ⟨0, Nat.zero_le _, rfl, O9, CV9, R9, Nat.le_refl _, HF9⟩
      case round =>
        clear HF9
        obtain ⟨j, hj, rfl, HO, HC, HR, hz4, HF10⟩ := hrel
        have hs10 := HF10.out.size
        have hcl2 := coverL_len cov bl j
        rw [HCL.out] at hcl2
        by_cases hjl : j < bl.length
        case pos =>
          obtain ⟨u, eu, hu⟩ := HND.out j hjl
          obtain ⟨b2, o2, rfl, _, _, x2, _⟩ := IntS.opened HR.out hjl
          rw [eu] at x2
          obtain ⟨y1, y2⟩ := BoolS.at0 HC.out (j := u) (by rw [hcl2]; exact hu)
          have HS := Lib.hid (HC.out.set0 (j := u) (by rw [hcl2]; exact hu) true)
          obtain ⟨yb, HYB⟩ : ∃ y, Hid (nthB (coverL cov bl j) u = y) := ⟨_, Lib.hid rfl⟩
          rw [HYB.out] at y1
          have hui : (u : Int) < N.ends.length := by omega
          have hgs := grown_set wr ⟨W1.heap.size, u, none⟩ (.bool true)
          have HC1 : Hid (BoolS (wr.setCell ⟨W1.heap.size, u, none⟩ (.bool true)) W1.heap.size (W1.heap.size + 1) (.slice (some ⟨W1.heap.size, 0, none⟩) N.ends.length N.ends.length) (coverL cov bl (j + 1))) := Lib.hid (by rw [coverL, eu, Int.toNat_natCast]; exact HS.out)
          have HR1 := Lib.hid (IntS.far HR.out hgs (by omega) (fun g hg => by injection hg with hg; subst hg; show W1.heap.size < _ ∨ _ ≤ W1.heap.size; omega))
          have HO1 := Lib.hid (OwnI.far HO.out hgs (fun g hg => by injection hg with hg; subst hg; left; show W1.heap.size < _; omega))
          have HFN := Lib.hid (HF10.out.grown hgs (fun g hg => by injection hg with hg; subst hg; left; exact ⟨Nat.le_refl _, Nat.lt_succ_self _⟩))
          clear eu HS
          go_wp2_with fail
          go_roundw
          case rel => exact ⟨j + 1, by omega, by go_num, HO1, HC1, HR1, by rw [size_setCell]; omega, HFN⟩
          case measure => simp [intOf]; omega
        obtain rfl : j = bl.length := by omega
        rw [← HCV.out] at HC
        have hs9 := slLen_own HO.out
        have hle9 := HS1.out.2.le
        go_wp2_with fail
        go_roundw
        case rel => exact ⟨cover N cov b, U ++ [(b : Int)], HO, HC, Lib.hid HS1.out.2, HF10⟩
        case measure => rw [hs9, sortI_length]; have := HSL.out; simp [slLen] at hle9 ⊢; omega

end Go.Proofs.Ytoebgfmnjjiddaa
