/-
  Contract: heights along an orientation (program): a range over slices.Backward.
-/
import Derived.Test.YtjapdfdjgjajkaaHts
namespace Go.Proofs.Ytjapdfdjgjajkaa
open Go.ChangeShapes Go.WideShapes Go.ChangeAt Go.RowKit
set_option linter.unusedVariables false

attribute [local go_sem] Oper.semAt_some
theorem cell_alH {W : World} {a : Addr} {v : Value} (o : Obj) (h : W.cell? a = some v) : (W.alloc o).cell? a = some v := cell_kept h (World.grownBy_alloc W o none) (fun r e => by cases e)
theorem BoxN.turned {w w' : World} {g lo hi : Nat} {cs : Array Value} {t : TypeId} (h : BoxN w g cs t) (hb : Turned lo hi w w') (h1 : g < lo ∨ hi ≤ g) (_ : 0 ≤ g) : BoxN w' g cs t := hb.boxN h h1

set_option maxHeartbeats 4000000 in
set_option maxRecDepth 100000 in
theorem HeightsOf_impl (v1 : Value) (N : NetD) (lo1 hi1 : Nat) (v2 : Value) (o : List (List Int)) (lo2 hi2 : Nat) (w : World) (h1 : Net w lo1 hi1 v1 N) (hh1 : hi1 ≤ w.heap.size) (h2 : IntSS w lo2 hi2 v2 o) (hh2 : hi2 ≤ w.heap.size) (hz1 : N.sz ≤ 1048576) (hz2 : szSS o ≤ 1048576) (ok1 : N.Ok) (ok2 : ∀ l ∈ o, ∀ z ∈ l, I64 z) :
    Calls Try.prog 20 #[v1, v2] w fun e w' => ∃ r, e = .returned (.tuple #[r, .bool (ordOk N o)]) ∧ IntS w' w.heap.size w'.heap.size r (htOut N o) ∧ Below w.heap.size w w' := by
  have OK1 := Lib.hid ok1; have OK2 := Lib.hid ok2; clear ok1 ok2
  have F1 := Lib.hid h1
  obtain ⟨A1, c1, A1', c1', A1'', c1'', rfl, hc1, hd1, _⟩ := h1.parts
  clear h1
  have F2 := Lib.hid h2
  obtain ⟨A2, c2, rfl, hc2, hd2⟩ := h2.dims
  clear h2
  obtain ⟨WA, HWA⟩ : ∃ W, Hid (W = ((w.alloc (.cells #[.slice A1 N.ends.length c1, .slice A1' N.ids.length c1', .slice A1'' N.inputs.length c1''] 32)).alloc (.cells #[.slice A2 o.length c2] 27))) := ⟨_, Lib.hid rfl⟩
  have hbA : Below w.heap.size w WA := by rw [HWA.out]; exact (((Below.refl _ _).alloc (Nat.le_refl _) _).alloc (by simp; try omega) _)
  have hsA : w.heap.size + 2 ≤ WA.heap.size := by rw [HWA.out]; simp; try omega
  have bx1 : BoxN WA (w.heap.size) #[.slice A1 N.ends.length c1, .slice A1' N.ids.length c1', .slice A1'' N.inputs.length c1''] 32 := by rw [HWA.out]; exact (BoxN.new' _ _ _ (by simp)).still (grown_alloc _ _)
  have bx2 : BoxN WA (w.heap.size + 1) #[.slice A2 o.length c2] 27 := by rw [HWA.out]; exact (BoxN.new' _ _ _ (by simp))
  have G1 := Lib.hid (Net.below F1.out hbA hh1); clear F1
  have G2 := Lib.hid (ISS.below F2.out hbA hh2); clear F2
  refine (callsIn_wide (n := 3)).1 ?_
  refine callsIn_of_wp_marks Try.func20 rfl trivial ?_
  simp only [Try.ntmps20, List.size_toArray, List.length_cons, List.length_nil, Nat.reduceAdd, Nat.reduceSub, Array.replicate_succ, Array.replicate_zero, List.push_toArray, List.append_toArray, List.nil_append, List.cons_append]
  refine wpIn_wide.2 ?_
  go_upto_region 1 with (fail)
  rw [← HWA.out]; clear HWA
  have kbx1_0 : WA.cell? ⟨w.heap.size, 0, none⟩ = some (.slice A1 N.ends.length c1) := bx1.cell 0 (by simp)
  have kbx1_1 : WA.cell? ⟨w.heap.size, 1, none⟩ = some (.slice A1' N.ids.length c1') := bx1.cell 1 (by simp)
  have kbx1_2 : WA.cell? ⟨w.heap.size, 2, none⟩ = some (.slice A1'' N.inputs.length c1'') := bx1.cell 2 (by simp)
  have kbx2_0 : WA.cell? ⟨w.heap.size + 1, 0, none⟩ = some (.slice A2 o.length c2) := bx2.cell 0 (by simp)
  go_wp2_with fail
  clear kbx1_0 kbx1_1 kbx1_2 kbx2_0
  refine (OrderOfOrientation_impl _ N lo1 hi1 _ o lo2 hi2 _ G1.out (by omega) G2.out (by omega) hz1 hz2 OK1.out OK2.out).mono ?_
  rintro e W1 ⟨r, rfl, hr, hb1⟩
  have hg1 := grown_below hb1; clear hb1
  have hs1 := hg1.size
  have HF1 := Lib.hid ((Turned.refl WA.heap.size WA.heap.size WA).still hg1)
  have R1 := Lib.hid hr; clear hr
  cases hok : ordOk N o with
  | false =>
    have HNO := Lib.hid hok; clear hok
    go_wp2_with fail
    refine ⟨_, results_tmp2 rfl _ _ _, ?_⟩
    exact ⟨_, ret_vb HNO.out.symm, by rw [htNo HNO.out]; exact IntS.nil _ _ _, (HF1.out.below_of hbA (by omega) (by omega))⟩
  | true =>
    have HOK := Lib.hid hok; clear hok
    obtain ⟨hg, hpb, heq, hol, hon⟩ := ord_parts HOK.out
    obtain ⟨n1, n40⟩ := good_n hg
    have HG := Lib.hid hg; have HPB := Lib.hid hpb; have HON := Lib.hid hon
    clear hg hpb heq hon
    obtain ⟨zs, HZS⟩ : ∃ l, Hid (ordOut N o = l) := ⟨_, Lib.hid rfl⟩
    rw [HZS.out] at hol HON R1
    have HOL := Lib.hid hol; clear hol
    obtain ⟨Az, cz, rfl, hcz, hdz⟩ := R1.out.dims
    have hoeq : o.length = N.ends.length := ports_len HPB.out
    have HOE := Lib.hid hoeq; clear hoeq
    have hz40 : zs.length ≤ 40 := by rw [HOL.out]; exact n40
    obtain ⟨bN, oN, _, _, rfl, _⟩ := Net.rowAt G1.out (u := 0) (by omega)
    have hmk := fun W => run_make_row' (P := Try.prog) 23 3 (.int .i64 0) 8 Try.underlying23 Try.info3 rfl .i64 .i64 N.ends.length (by omega) (by omega) W
    have kbx1_0 : W1.cell? ⟨w.heap.size, 0, none⟩ = some (.slice (some ⟨bN, oN, none⟩) N.ends.length c1) := (HF1.out.boxN bx1 (by omega)).cell 0 (by simp)
    have kbx1_1 : W1.cell? ⟨w.heap.size, 1, none⟩ = some (.slice A1' N.ids.length c1') := (HF1.out.boxN bx1 (by omega)).cell 1 (by simp)
    have kbx1_2 : W1.cell? ⟨w.heap.size, 2, none⟩ = some (.slice A1'' N.inputs.length c1'') := (HF1.out.boxN bx1 (by omega)).cell 2 (by simp)
    go_upto_region 5 with (fail)
    refine nameC ?_
    intro W2 HW2
    have hg2 : W1.grownBy W2 none := by rw [HW2.out]; exact grownBy_trans (grown_alloc _ _) (grown_alloc _ _)
    have hs2 := hg2.size
    have HF2 := Lib.hid (HF1.out.still hg2); clear HF1
    have R2 := Lib.hid (IntS.still R1.out hg2 (by omega)); clear R1
    have HO := Lib.hid (show IntS W2 W1.heap.size (W1.heap.size + 1) (.slice (some ⟨W1.heap.size, 0, none⟩) N.ends.length N.ends.length) (List.replicate N.ends.length 0) by rw [HW2.out]; exact IntS.alloc (made_ints _ _ _ rfl (by omega)) (by simp) _)
    have hB8 := Lib.hid (show BoxN W2 (W1.heap.size + 1) #[.slice (some ⟨W1.heap.size, 0, none⟩) N.ends.length N.ends.length] 23 by rw [HW2.out]; exact BoxN.new' _ _ _ (by simp))
    have hz : W1.heap.size + 2 ≤ W2.heap.size := by rw [HW2.out]; simp
    clear HW2 hmk kbx1_0 kbx1_1 kbx1_2
    go_wp2_with fail
    refine (back_any Az zs.length cz _).mono ?_
    rintro e W3 ⟨rfl, hw3⟩
    have hg3 : W2.grownBy W3 none := by rw [hw3]; exact grown_alloc _ _
    have HBS := Lib.hid (show BoxN W3 W2.heap.size #[.slice Az zs.length cz] 23 by rw [hw3]; exact BoxN.new _ _ _)
    have hzb : W2.heap.size + 1 ≤ W3.heap.size := by rw [hw3]; simp
    clear hw3
    have hs3 := hg3.size
    have HF3 := Lib.hid (HF2.out.still hg3); clear HF2
    have R3 := Lib.hid (IntS.still R2.out hg3 (by omega)); clear R2
    have O3 := Lib.hid (IntS.still HO.out hg3 (by omega)); clear HO
    have B83 := Lib.hid (BoxN.still hB8.out hg3); clear hB8
    have N_3 := Lib.hid (Net.turned G1.out HF3.out (by omega) (by omega)); clear G1
    have o_3 := Lib.hid (ISS.turned G2.out HF3.out (by omega) (by omega)); clear G2
    have bx1_3 := HF3.out.boxN bx1 (by omega); clear bx1
    have bx2_3 := HF3.out.boxN bx2 (by omega); clear bx2
    have hbA3 := (HF3.out.below_of hbA (by omega) (by omega)); clear hbA HF3
    go_wp2_with fail
    refine (wpIn_wide (n := 3)).1 ?_
    have hLL : W1.heap.size + 1 ≤ W3.heap.size := by omega
    have hI : OwnFrom W3.heap.size (fun (pre : List (Ix zs.length)) W => IntS W W1.heap.size (W1.heap.size + 1) (.slice (some ⟨W1.heap.size, 0, none⟩) N.ends.length N.ends.length) (hAll N o zs pre) ∧ Turned W1.heap.size (W1.heap.size + 1) W3 W) := fun s A B row hs hg hr =>
      ⟨hs.1.far hg (by have := hs.2.size; omega) (fun g e => .inr (by have := (hr g e).1; omega)), hs.2.grown hg (fun g e => .inr (hr g e).1)⟩
    have HH0 := Lib.hid (show IntS W3 W1.heap.size (W1.heap.size + 1) (.slice (some ⟨W1.heap.size, 0, none⟩) N.ends.length N.ends.length) (hAll N o zs []) ∧ Turned W1.heap.size (W1.heap.size + 1) W3 W3 from ⟨O3.out, Turned.refl _ _ _⟩)
    have HSEQ := Lib.hid (back_stops 2 (by decide) W2.heap.size (WA.heap.size) (W1.heap.size) (.slice Az zs.length cz) zs (by omega) W3 (by omega) (by omega) HBS.out R3.out)
    have hKb := Kp2.put (lo := WA.heap.size) (hi := W1.heap.size) (Bs := W2.heap.size) (w := W3) (by omega) (by omega)
    apply wpIn_rangeFunc_ownG (F := Fence.wide) (encs := fun x : Ix zs.length => #[Value.int .i64 (x.1 : Nat), Value.int .i64 (nth zs x.1)]) (Kp := Kp2 (WA.heap.size) (W1.heap.size) (W2.heap.size)) (S := fun ys => ys = downs zs.length zs.length) (Sp := fun pre => ∃ k, k ≤ zs.length ∧ pre = downs zs.length k) (N := zs.length) (w0 := W3) rfl (by decide) (gf := 61) (lb := #[.pointer (some ⟨W2.heap.size, 0, none⟩)]) rfl trivial (enters_of Try.func61 (by kernel_rfl) rfl)
      HSEQ.out Kp2.trans (fun W l o1 o2 hl ho _ _ => hKb W l o1 o2 hl ho) (Below.refl _ _) (fun _ => rfl) _ (fun _ _ _ => False) hI (fun _ _ _ _ _ hs _ _ => hs) HH0.out _
    case hassign =>
      intro l x W K hK
      gi_wp2
      exact hK
    case hstop =>
      rintro D c pre W _ _ h _
      exact h.elim
    case hdone =>
      rintro D ys wd hD rfl ⟨hI2, hT2⟩ hK
      have HT := Lib.hid hT2; clear hT2
      have hsd := HT.out.size
      have k8 : wd.cell? ⟨(W1.heap.size + 1), 0, none⟩ = some (.slice (some ⟨W1.heap.size, 0, none⟩) N.ends.length N.ends.length) := (HT.out.boxN B83.out (by omega)).cell 0 (by simp)
      go_wp2_with fail
      clear k8
      have hgp := grownBy_putObj' wd D (.deferred none)
      have HT3 := Lib.hid (HT.out.grown hgp (fun g e => by cases e; exact .inr hD))
      have hsp := hgp.size
      refine ⟨by simp, .inl ⟨_, _, rfl, run_takeDeferred hK, ?_⟩⟩
      refine ⟨_, results_tmp2 rfl _ _ _, ?_⟩
      refine ⟨_, ret_vb HOK.out.symm, ?_, HT3.out.below_of hbA3 (by omega) (by omega)⟩
      rw [htYes HOK.out, HZS.out]
      exact IntS.mono (hI2.far hgp (by omega) (fun g e => by cases e; right; omega)) (by omega) (by omega)
    case hbody =>
      rintro l pre x wq ⟨hI2, hT2⟩ hlen
      have HT := Lib.hid hT2; clear hT2
      have HO := Lib.hid hI2; clear hI2
      have hsq := HT.out.size
      have hkn := HON.out _ (nth_mem x.2)
      obtain ⟨v, HV⟩ : ∃ v : Nat, Hid (nth zs x.1 = v) := ⟨(nth zs x.1).toNat, Lib.hid (by omega)⟩
      rw [HV.out] at hkn
      have hv : v < N.ends.length := by omega
      have HHB := Lib.hid (HB.all HG.out o HON.out pre)
      obtain ⟨zz, HZ⟩ : ∃ l, Hid (hAll N o zs pre = l) := ⟨_, Lib.hid rfl⟩
      rw [HZ.out] at HHB HO
      have HNX := Lib.hid (show hAll N o zs (pre ++ [x]) = hnode N o v zz by rw [hAll_snoc, HZ.out, HV.out, Int.toNat_natCast])
      rw [HV.out]
      obtain ⟨j, HJ⟩ : ∃ j, Hid (pre.length = j) := ⟨_, Lib.hid rfl⟩
      rw [HJ.out] at hlen HHB
      clear hkn
      have HT0 := HT
      have N_4 := Lib.hid (Net.turned N_3.out HT.out (by omega) (by omega)); clear N_3
      have o_4 := Lib.hid (ISS.turned o_3.out HT.out (by omega) (by omega)); clear o_3
      have bx1_4 := HT.out.boxN bx1_3 (by omega); clear bx1_3
      have bx2_4 := HT.out.boxN bx2_3 (by omega); clear bx2_3
      have R_4 := Lib.hid (IntS.turned R3.out HT.out (by omega) (by omega)); clear R3
      have B8_4 := Lib.hid (BoxN.turned B83.out HT.out (by omega) (by omega)); clear B83
      have BS_4 := Lib.hid (BoxN.turned HBS.out HT.out (by omega) (by omega)); clear HBS
      have hbA4 := (HT.out.below_of hbA3 (by omega) (by omega)); clear hbA3 HT
      obtain ⟨Ar, cr, hbr, qr, hcr, hdr, hRr⟩ := Net.rowIn N_4.out hv
      have Rr := Lib.hid hRr; clear hRr
      have hvi : (v : Int) < N.ends.length := by omega
      have hd6 := good_deg HG.out hv
      have kbx1_0 : wq.cell? ⟨w.heap.size, 0, none⟩ = some (.slice (some ⟨bN, oN, none⟩) N.ends.length c1) := bx1_4.cell 0 (by simp)
      have kbx1_1 : wq.cell? ⟨w.heap.size, 1, none⟩ = some (.slice A1' N.ids.length c1') := bx1_4.cell 1 (by simp)
      have kbx1_2 : wq.cell? ⟨w.heap.size, 2, none⟩ = some (.slice A1'' N.inputs.length c1'') := bx1_4.cell 2 (by simp)
      gi_wp2
      clear kbx1_0 kbx1_1 kbx1_2
      gi_loopw [35] (fun iv wr => ∃ (i : Nat) (zy : List Int), i ≤ (nthL N.ends v).length ∧ iv = .int .i64 i ∧ Hid (IntS wr W1.heap.size (W1.heap.size + 1) (.slice (some ⟨W1.heap.size, 0, none⟩) N.ends.length N.ends.length) zy) ∧ Hid (zy = hrow N o v i zz) ∧ Hid (Turned W1.heap.size (W1.heap.size + 1) wq wr)) (fun iv _ => (nthL N.ends v).length - (intOf iv).toNat)
      case atStart => exact ⟨0, zz, Nat.zero_le _, rfl, HO, Lib.hid rfl, Lib.hid (Turned.refl W1.heap.size (W1.heap.size + 1) wq)⟩
      case round =>
        obtain ⟨i, zy, hi, rfl, HO, HY, HF5⟩ := hrel
        have hs5 := HF5.out.size
        by_cases hil : i < (nthL N.ends v).length
        case neg =>
          obtain rfl : i = (nthL N.ends v).length := by omega
          gi_wp2
          refine ⟨⟨by omega, fun k o2 hB hk _ => (HF5.out.block k (Array.getElem?_eq_some_iff.1 hk).1 (by omega)).trans hk⟩, ⟨fun k h1 h2 => HF5.out.block k (by omega) (by omega), HF5.out.block _ (by omega) (by omega)⟩, ?_, HT0.out.trans HF5.out⟩
          have e : hAll N o zs (pre ++ [x]) = zy := by rw [HNX.out, HY.out]; rfl
          rw [e]
          exact HO.out
        have HHY := Lib.hid (HB.row (o := o) hv (fun i hi => good_endN HG.out hv hi) HHB.out i hi)
        rw [← HY.out] at HHY
        have HRX := Lib.hid (show hrow N o v (i + 1) zz = hset N o v i zy by rw [hrow, HY.out])
        obtain ⟨wp, rfl⟩ : ∃ wp : World, wp = wr := ⟨_, rfl⟩
        obtain ⟨br, or, rfl, _, hbr', er, er'⟩ := (EndS.turned Rr.out HF5.out (by omega) (by omega)).opened hil
        obtain ⟨t, r, etr, ht, hr, eur⟩ := good_end HG.out hv hil
        rw [etr] at er er'
        dsimp only at er er'
        have ETr := Lib.hid etr
        have EUr := Lib.hid eur
        clear etr eur
        have hro := ports_row HPB.out hv
        have HRO := Lib.hid hro; clear hro
        have kbx2_0 : wp.cell? ⟨w.heap.size + 1, 0, none⟩ = some (.slice A2 o.length c2) := (HF5.out.boxN bx2_4 (by omega)).cell 0 (by simp)
        obtain ⟨bq, oq, uq, rfl, _, hbq, zq, huq⟩ := SS.opened o_4.out (by rw [HOE.out]; exact hv)
        replace zq := (HF5.out.cell (by omega) (by omega)).trans zq
        obtain ⟨Aq, cq, rfl, hcq, hdq⟩ := huq.dims
        have Uq := Lib.hid huq; clear huq
        obtain ⟨by2, oy2, rfl, _, hby2', xy2, _⟩ := (IntS.turned Uq.out HF5.out (by omega) (by omega)).opened (by rw [HRO.out]; exact hil)
        obtain ⟨yo, HYO⟩ : ∃ y, Hid (nth (nthL o v) i = y) := ⟨_, Lib.hid rfl⟩
        rw [HYO.out] at xy2
        have hvo : (v : Int) < o.length := by rw [HOE.out]; exact hvi
        have hio : (i : Int) < (nthL o v).length := by rw [HRO.out]; omega
        have hii : (i : Int) < (nthL N.ends v).length := by omega
        have HET := Lib.hid (show endN N v i = t by unfold endN; rw [ETr.out]; simp)
        have ka := cell_alH (.cells #[.int .i64 t, .int .i64 r] 60) kbx2_0
        have kb := cell_alH (.cells #[.int .i64 t, .int .i64 r] 60) zq
        have kc := cell_alH (.cells #[.int .i64 t, .int .i64 r] 60) xy2
        by_cases hy1 : yo = 1
        case neg =>
          have hye : (yo == 1) = false := by simpa using hy1
          have HN1 := Lib.hid hy1; clear hy1
          have hgE := grown_alloc wp (.cells #[.int .i64 t, .int .i64 r] 60)
          have HOE2 := Lib.hid (HO.out.still hgE (by omega))
          have HFE := Lib.hid (HF5.out.still hgE)
          gi_wp2
          go_roundw
          case rel => exact ⟨i + 1, zy, by omega, by go_num, HOE2, Lib.hid (by rw [HRX.out, hset_no (by rw [HYO.out]; exact HN1.out)]), HFE⟩
          case measure => simp [intOf]; omega
        have hye : (yo == 1) = true := by simp [hy1]
        have HRX2 := Lib.hid (show hrow N o v (i + 1) zz = zy.set v (max (nth zy v) (nth zy t + 1)) by rw [HRX.out, hset_yes (by rw [HYO.out]; exact hy1) HET.out])
        clear hy1
        have hyv := HHY.out.at_ hv
        have hyt := HHY.out.at_ ht
        have hyl := HHY.out.1
        have hti : (t : Int) < N.ends.length := by omega
        obtain ⟨yv, HYV⟩ : ∃ y, Hid (nth zy v = y) := ⟨_, Lib.hid rfl⟩
        obtain ⟨yt, HYT⟩ : ∃ y, Hid (nth zy t = y) := ⟨_, Lib.hid rfl⟩
        rw [HYV.out] at hyv
        rw [HYT.out] at hyt
        rw [HYV.out, HYT.out] at HRX2
        have hb40 : 6 * j + i ≤ 1000 := by omega
        have hyw : IntKind.i64.wrap (yt + 1) = yt + 1 := IntWalk.i64_in _ (by omega)
        obtain ⟨mx, HMX⟩ : ∃ y, Hid (max yv (yt + 1) = y) := ⟨_, Lib.hid rfl⟩
        have HMX2 := Lib.hid (show max (yt + 1) yv = mx by rw [← HMX.out]; omega)
        rw [HMX.out] at HRX2
        clear hyv hyt
        gi_wp2
        clear kbx2_0 xy2 er er' ka kb kc zq
        obtain ⟨W6, HW6⟩ : ∃ W, Hid (W = wp.alloc (.cells #[.int .i64 t, .int .i64 r] 60)) := ⟨_, Lib.hid rfl⟩
        rw [← HW6.out]
        have hg6 : wp.grownBy W6 none := by rw [HW6.out]; exact grown_alloc _ _
        have bxe6 := Lib.hid (show BoxN W6 wp.heap.size #[.int .i64 t, .int .i64 r] 60 by rw [HW6.out]; exact BoxN.new _ _ _)
        clear HW6
        have hs6 := hg6.size
        have HF6 := Lib.hid (HF5.out.still hg6); clear HF5
        have O6 := Lib.hid (IntS.still HO.out hg6 (by omega)); clear HO
        refine wpIn_region_U (fun w' => w'.cell? ⟨(W1.heap.size + 1), 0, none⟩ = some (.slice (some ⟨W1.heap.size, 0, none⟩) N.ends.length N.ends.length) ∧ w'.cell? ⟨wp.heap.size, 0, none⟩ = some (.int .i64 t) ∧ w'.cell? ⟨W1.heap.size, v, none⟩ = some (.int .i64 yv) ∧ w'.cell? ⟨W1.heap.size, t, none⟩ = some (.int .i64 yt)) [13, 14] (by kernel_rfl) (by kernel_rfl) ?_
        refine nameU ?_
        intro W7 HW7
        have hg7 : W6.grownBy W7 none := by rw [HW7.out]; exact grown_drew _
        clear HW7
        have hs7 := hg7.size
        have HF7 := Lib.hid (HF6.out.still hg7); clear HF6
        have O7 := Lib.hid (IntS.still O6.out hg7 (by omega)); clear O6
        have bxe7 := Lib.hid (BoxN.still bxe6.out hg7); clear bxe6
        have hS8 : W7.cell? ⟨(W1.heap.size + 1), 0, none⟩ = some (.slice (some ⟨W1.heap.size, 0, none⟩) N.ends.length N.ends.length) ∧ W7.cell? ⟨wp.heap.size, 0, none⟩ = some (.int .i64 t) ∧ W7.cell? ⟨W1.heap.size, v, none⟩ = some (.int .i64 yv) ∧ W7.cell? ⟨W1.heap.size, t, none⟩ = some (.int .i64 yt) := ⟨(HF7.out.boxN B8_4.out (by omega)).cell 0 (by simp), bxe7.out.cell 0 (by simp), (by have := (IntS.at0 O7.out (j := v) (by rw [hyl]; exact hv)).1; rw [HYV.out] at this; exact this), (by have := (IntS.at0 O7.out (j := t) (by rw [hyl]; exact ht)).1; rw [HYT.out] at this; exact this)⟩
        refine anyU_take (i := 0) (v := .slice (some ⟨W1.heap.size, 0, none⟩) N.ends.length N.ends.length) rfl (by kernel_rfl) (by kernel_rfl) (by kernel_rfl) (fun _ _ _ h => h) ⟨by rfl, fun w' hS' => (by obtain ⟨s1, s2, s3, s4⟩ := hS'; go_simp)⟩ hS8 ?_
        simp only [List.getElem_toArray, List.getElem_cons_zero, Act.put, List.setIfInBounds_toArray, List.set_cons_zero, List.set_cons_succ]
        refine anyU_take (i := 1) (v := .int .i64 v) rfl (by kernel_rfl) (by kernel_rfl) (by kernel_rfl) (fun _ _ _ h => h) ⟨by rfl, fun w' hS' => (by obtain ⟨s1, s2, s3, s4⟩ := hS'; go_simp)⟩ hS8 ?_
        simp only [List.getElem_toArray, List.getElem_cons_succ, List.getElem_cons_zero, Act.put, List.setIfInBounds_toArray, List.set_cons_zero, List.set_cons_succ]
        refine anyU_take (i := 2) (v := .slice (some ⟨W1.heap.size, 0, none⟩) N.ends.length N.ends.length) rfl (by kernel_rfl) (by kernel_rfl) (by kernel_rfl) (fun _ _ _ h => h) ⟨by rfl, fun w' hS' => (by obtain ⟨s1, s2, s3, s4⟩ := hS'; go_simp)⟩ hS8 ?_
        simp only [List.getElem_toArray, List.getElem_cons_succ, List.getElem_cons_zero, Act.put, List.setIfInBounds_toArray, List.set_cons_zero, List.set_cons_succ]
        refine anyU_take (i := 3) (v := .int .i64 v) rfl (by kernel_rfl) (by kernel_rfl) (by kernel_rfl) (fun _ _ _ h => h) ⟨by rfl, fun w' hS' => (by obtain ⟨s1, s2, s3, s4⟩ := hS'; go_simp)⟩ hS8 ?_
        simp only [List.getElem_toArray, List.getElem_cons_succ, List.getElem_cons_zero, Act.put, List.setIfInBounds_toArray, List.set_cons_zero, List.set_cons_succ]
        refine anyU_take (i := 4) (v := .pointer (some ⟨W1.heap.size, v, none⟩)) rfl (by kernel_rfl) (by kernel_rfl) (by kernel_rfl) (fun _ _ _ h => h) ⟨by rfl, fun w' hS' => (by obtain ⟨s1, s2, s3, s4⟩ := hS'; simp [go_sem, hvi])⟩ hS8 ?_
        simp only [List.getElem_toArray, List.getElem_cons_succ, List.getElem_cons_zero, Act.put, List.setIfInBounds_toArray, List.set_cons_zero, List.set_cons_succ]
        refine anyU_take (i := 5) (v := .int .i64 yv) rfl (by kernel_rfl) (by kernel_rfl) (by kernel_rfl) (fun _ _ _ h => h) ⟨by rfl, fun w' hS' => (by obtain ⟨s1, s2, s3, s4⟩ := hS'; go_simp)⟩ hS8 ?_
        simp only [List.getElem_toArray, List.getElem_cons_succ, List.getElem_cons_zero, Act.put, List.setIfInBounds_toArray, List.set_cons_zero, List.set_cons_succ]
        refine anyU_take (i := 6) (v := .slice (some ⟨W1.heap.size, 0, none⟩) N.ends.length N.ends.length) rfl (by kernel_rfl) (by kernel_rfl) (by kernel_rfl) (fun _ _ _ h => h) ⟨by rfl, fun w' hS' => (by obtain ⟨s1, s2, s3, s4⟩ := hS'; go_simp)⟩ hS8 ?_
        simp only [List.getElem_toArray, List.getElem_cons_succ, List.getElem_cons_zero, Act.put, List.setIfInBounds_toArray, List.set_cons_zero, List.set_cons_succ]
        refine anyU_take (i := 7) (v := .pointer (some ⟨wp.heap.size, 0, none⟩)) rfl (by kernel_rfl) (by kernel_rfl) (by kernel_rfl) (fun _ _ _ h => h) ⟨by rfl, fun w' hS' => (by obtain ⟨s1, s2, s3, s4⟩ := hS'; go_simp)⟩ hS8 ?_
        simp only [List.getElem_toArray, List.getElem_cons_succ, List.getElem_cons_zero, Act.put, List.setIfInBounds_toArray, List.set_cons_zero, List.set_cons_succ]
        refine anyU_take (i := 8) (v := .int .i64 t) rfl (by kernel_rfl) (by kernel_rfl) (by kernel_rfl) (fun _ _ _ h => h) ⟨by rfl, fun w' hS' => (by obtain ⟨s1, s2, s3, s4⟩ := hS'; go_simp)⟩ hS8 ?_
        simp only [List.getElem_toArray, List.getElem_cons_succ, List.getElem_cons_zero, Act.put, List.setIfInBounds_toArray, List.set_cons_zero, List.set_cons_succ]
        refine anyU_take (i := 9) (v := .pointer (some ⟨W1.heap.size, t, none⟩)) rfl (by kernel_rfl) (by kernel_rfl) (by kernel_rfl) (fun _ _ _ h => h) ⟨by rfl, fun w' hS' => (by obtain ⟨s1, s2, s3, s4⟩ := hS'; simp [go_sem, hti])⟩ hS8 ?_
        simp only [List.getElem_toArray, List.getElem_cons_succ, List.getElem_cons_zero, Act.put, List.setIfInBounds_toArray, List.set_cons_zero, List.set_cons_succ]
        refine anyU_take (i := 10) (v := .int .i64 yt) rfl (by kernel_rfl) (by kernel_rfl) (by kernel_rfl) (fun _ _ _ h => h) ⟨by rfl, fun w' hS' => (by obtain ⟨s1, s2, s3, s4⟩ := hS'; go_simp)⟩ hS8 ?_
        simp only [List.getElem_toArray, List.getElem_cons_succ, List.getElem_cons_zero, Act.put, List.setIfInBounds_toArray, List.set_cons_zero, List.set_cons_succ]
        refine anyU_take (i := 11) (v := .int .i64 (yt + 1)) rfl (by kernel_rfl) (by kernel_rfl) (by kernel_rfl) (fun _ _ _ h => h) ⟨by rfl, fun w' hS' => (by obtain ⟨s1, s2, s3, s4⟩ := hS'; simp [go_sem, hyw])⟩ hS8 ?_
        simp only [List.getElem_toArray, List.getElem_cons_succ, List.getElem_cons_zero, Act.put, List.setIfInBounds_toArray, List.set_cons_zero, List.set_cons_succ]
        refine anyU_take (i := 12) (v := .int .i64 mx) rfl (by kernel_rfl) (by kernel_rfl) (by kernel_rfl) (fun _ _ _ h => h) ⟨by rfl, fun w' hS' => (by obtain ⟨s1, s2, s3, s4⟩ := hS'; simp [go_sem, HMX.out])⟩ hS8 ?_
        simp only [List.getElem_toArray, List.getElem_cons_succ, List.getElem_cons_zero, Act.put, List.setIfInBounds_toArray, List.set_cons_zero, List.set_cons_succ]
        refine anyU_ready (rs := [13]) (by kernel_rfl) (by simp) ?_
        refine ReadyU.cons (i := 13) rfl (fun K hK => ?_) ReadyU.nil
        simp only [List.getElem_toArray, List.getElem_cons_succ, List.getElem_cons_zero]
        refine ite_is (by rfl) ?_
        simp [go_sem, hvi]
        refine hK.out _ _ ⟨fun h => absurd h (by decide), ?_⟩
        clear hK K
        try simp only [List.getElem_toArray, List.getElem_cons_succ, List.getElem_cons_zero, Act.put, List.setIfInBounds_toArray, List.set_cons_zero, List.set_cons_succ]
        have x3d := (IntS.at0 O7.out (j := v) (by rw [hyl]; exact hv)).1
        have x3e := (IntS.at0 O7.out (j := v) (by rw [hyl]; exact hv)).2
        have HSX := Lib.hid (IntS.set0 O7.out (j := v) (by rw [hyl]; exact hv) mx)
        refine anyU_ready (rs := [14]) (by kernel_rfl) (by simp) ?_
        refine ReadyU.cons (i := 14) rfl (fun K hK => ?_) ReadyU.nil
        simp only [List.getElem_toArray, List.getElem_cons_succ, List.getElem_cons_zero]
        refine ite_is (by rfl) ?_
        simp [go_sem, x3d, x3e]
        refine hK.out _ _ ⟨fun h => absurd h (by decide), ?_⟩
        clear hK K
        try simp only [List.getElem_toArray, List.getElem_cons_succ, List.getElem_cons_zero, Act.put, List.setIfInBounds_toArray, List.set_cons_zero, List.set_cons_succ]
        refine nameU ?_
        intro W9 HW9
        have hg9 : W7.grownBy W9 (some W1.heap.size) := by rw [HW9.out]; exact grown_set _ _ _
        have hs9 := hg9.size
        have HF9 := Lib.hid (HF7.out.grown hg9 (fun g hg => by cases hg; omega)); clear HF7
        have bxe9 := Lib.hid (BoxN.far bxe7.out hg9 (fun g hg => by cases hg; omega)); clear bxe7
        have HON2 : Hid (IntS W9 W1.heap.size (W1.heap.size + 1) (.slice (some ⟨W1.heap.size, 0, none⟩) N.ends.length N.ends.length) (hrow N o v (i + 1) zz)) := by rw [HW9.out, HRX2.out]; exact HSX
        clear HW9 HSX x3d x3e O7
        clear hS8
        refine anyU_done (by kernel_rfl) ?_ _
        refine onlyOn_go ?_
        gi_wp2
        go_roundw
        case rel => exact ⟨i + 1, _, by omega, by go_num, HON2, Lib.hid rfl, HF9⟩
        case measure => simp [intOf]; omega

end Go.Proofs.Ytjapdfdjgjajkaa
