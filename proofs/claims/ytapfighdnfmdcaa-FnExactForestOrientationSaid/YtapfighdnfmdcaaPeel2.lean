/-
  Contracts: layers of nodes by the reference; PeelLayers and Degeneracy (program and reference).
-/
import Derived.Test.YtapfighdnfmdcaaPeel
import Derived.Test.YtapfighdnfmdcaaEdge2
namespace Go.Proofs.Ytapfighdnfmdcaa
open Go.ChangeShapes Go.WideShapes Go.ChangeAt Go.RowKit
set_option linter.unusedVariables false

theorem ends_le_sz (N : NetD) : N.ends.length ≤ N.sz := by unfold NetD.sz szSS; omega
/-- the nodes that get a layer now -/
def nowL (N : NetD) (a : Int) (l : List Int) (m : Nat) : List Int := ((List.range m).filter (peelAt N a l)).map fun (v : Nat) => (v : Int)
theorem nowL_yes {N : NetD} {a : Int} {l : List Int} {m : Nat} (h : peelAt N a l m = true) : nowL N a l (m + 1) = nowL N a l m ++ [(m : Int)] := by simp [nowL, List.range_succ, h]
theorem nowL_no {N : NetD} {a : Int} {l : List Int} {m : Nat} (h : peelAt N a l m = false) : nowL N a l (m + 1) = nowL N a l m := by simp [nowL, List.range_succ, h]
theorem nowL_len (N : NetD) (a : Int) (l : List Int) (m : Nat) : (nowL N a l m).length ≤ m := by
  unfold nowL; rw [List.length_map]; exact Nat.le_trans (List.length_filter_le _ _) (by simp)
theorem nowL_empty {N : NetD} {a : Int} {l : List Int} : (nowL N a l N.ends.length).length = 0 ↔ anyPeel N a l = false := by
  unfold nowL anyPeel
  rw [List.length_map, List.length_eq_zero_iff, List.filter_eq_nil_iff, Bool.eq_false_iff, Ne, List.any_eq_true]
  constructor
  · rintro h ⟨v, hv, hp⟩; exact h v hv hp
  · intro h v hv hp; exact h ⟨v, hv, hp⟩
theorem nowL_at {N : NetD} {a : Int} {l : List Int} {i : Nat} (h : i < (nowL N a l N.ends.length).length) : ∃ t : Nat, nth (nowL N a l N.ends.length) i = t ∧ t < N.ends.length ∧ ((List.range N.ends.length).filter (peelAt N a l))[i]? = some t := by
  have h' : i < ((List.range N.ends.length).filter (peelAt N a l)).length := by simpa [nowL] using h
  refine ⟨((List.range N.ends.length).filter (peelAt N a l))[i], ?_, ?_, List.getElem?_eq_getElem h'⟩
  · simp [nth, nowL, h']
  · have := List.getElem_mem h'
    simp only [List.mem_filter, List.mem_range] at this
    exact this.1
def setNow (N : NetD) (a : Int) (k : Nat) (l : List Int) (m : Nat) : List Int := (((List.range N.ends.length).filter (peelAt N a l)).take m).foldl (fun l v => l.set v (k : Int)) l
theorem setNow_succ {N : NetD} {a : Int} {k : Nat} {l : List Int} {m t : Nat} (h : ((List.range N.ends.length).filter (peelAt N a l))[m]? = some t) : setNow N a k l (m + 1) = (setNow N a k l m).set t k := by
  obtain ⟨h1, h2⟩ := List.getElem?_eq_some_iff.1 h
  unfold setNow
  rw [List.take_succ_eq_append_getElem h1, List.foldl_append, h2]; rfl
theorem setNow_len (N : NetD) (a : Int) (k : Nat) (l : List Int) (m : Nat) : (setNow N a k l m).length = l.length := by
  unfold setNow
  generalize ((List.range N.ends.length).filter (peelAt N a l)).take m = q
  induction q generalizing l with
  | nil => rfl
  | cons x q ih => rw [List.foldl_cons, ih, List.length_set]
theorem setNow_all {N : NetD} {a : Int} {k : Nat} {l : List Int} (hl : l.length = N.ends.length) : setNow N a k l (nowL N a l N.ends.length).length = peelStep N a k l := by
  unfold setNow nowL
  rw [List.length_map, List.take_length]
  obtain ⟨h1, h2⟩ := setAll_eq hl (k := k) (p := peelAt N a l) N.ends.length (Nat.le_refl _)
  apply ext_nth (by rw [h1, peelStep_length])
  intro j hj
  rw [h1] at hj
  rw [h2 j hj, nth_peelStep hj]
  by_cases c : peelAt N a l j = true
  · rw [if_pos ⟨hj, c⟩, if_pos c]
  · rw [if_neg (fun h => c h.2), if_neg c]
def degen (N : NetD) : Int := if N.stubless = true then fidxN (fun a => peelOk N a) 7 else 0

set_option maxHeartbeats 4000000 in
set_option maxRecDepth 100000 in
theorem orPeel_any (v1 : Value) (N : NetD) (lo1 hi1 : Nat) (a : Int) (w : World) (h1 : Net w lo1 hi1 v1 N) (hh1 : hi1 ≤ w.heap.size) (hg : N.good = true) :
    Calls Try.prog 80 #[v1, .int .i64 a] w fun e w' => ∃ r, e = .returned (r) ∧ IntS w' w.heap.size w'.heap.size r (peelAll N a) ∧ Below w.heap.size w w' := by
  obtain ⟨n1, n40⟩ := good_n hg
  have HG := Lib.hid hg; clear hg
  have F1 := Lib.hid h1
  obtain ⟨A1, c1, A1', c1', A1'', c1'', rfl, hc1, hd1, _⟩ := h1.parts
  obtain ⟨b1, o1, _, _, rfl, _⟩ := Net.rowAt F1.out (u := 0) (by omega)
  clear h1
  obtain ⟨WA, HWA⟩ : ∃ W, Hid (W = (w.alloc (.cells #[.slice (some ⟨b1, o1, none⟩) N.ends.length c1, .slice A1' N.ids.length c1', .slice A1'' N.inputs.length c1''] 31))) := ⟨_, Lib.hid rfl⟩
  have hbA : Below w.heap.size w WA := by rw [HWA.out]; exact ((Below.refl _ _).alloc (Nat.le_refl _) _)
  have hsA : w.heap.size + 1 ≤ WA.heap.size := by rw [HWA.out]; simp; try omega
  have bx1 : BoxN WA (w.heap.size) #[.slice (some ⟨b1, o1, none⟩) N.ends.length c1, .slice A1' N.ids.length c1', .slice A1'' N.inputs.length c1''] 31 := by rw [HWA.out]; exact (BoxN.new' _ _ _ (by simp))
  have G1 := Lib.hid (Net.below F1.out hbA hh1); clear F1
  go_enter Try.func80, Try.ntmps80
  go_upto_region 1 with (fail)
  rw [← HWA.out]; clear HWA
  have kbx1_0 : WA.cell? ⟨w.heap.size, 0, none⟩ = some (.slice (some ⟨b1, o1, none⟩) N.ends.length c1) := bx1.cell 0 (by simp)
  have kbx1_1 : WA.cell? ⟨w.heap.size, 1, none⟩ = some (.slice A1' N.ids.length c1') := bx1.cell 1 (by simp)
  have kbx1_2 : WA.cell? ⟨w.heap.size, 2, none⟩ = some (.slice A1'' N.inputs.length c1'') := bx1.cell 2 (by simp)
  go_wp2_with fail
  clear kbx1_0 kbx1_1 kbx1_2
  refine (roFree_any N.ends.length _ (by omega)).mono ?_
  rintro e W1 ⟨ro, rfl, hro, hb1⟩
  have hg1 := grown_below hb1; clear hb1
  have hs1 := hg1.size
  have HF1 := Lib.hid ((Turned.refl WA.heap.size WA.heap.size WA).still hg1)
  have O1 := Lib.hid hro; clear hro
  obtain ⟨Ao, co, rfl, hco, hdo⟩ := O1.out.dims
  obtain ⟨bo, oo, rfl, lbo, hbo, _, _⟩ := IntS.opened O1.out (j := 0) (by simp; omega)
  rw [List.length_replicate] at hco ⊢
  have N_1 := Lib.hid (Net.turned G1.out HF1.out (by omega) (by omega)); clear G1
  have bx1_1 := HF1.out.boxN bx1 (by omega); clear bx1
  have hbA1 := (HF1.out.below_of hbA (by omega) (by omega)); clear hbA HF1
  rw [List.length_replicate] at O1
  go_wp2_with fail
  go_loopw [6] (fun c wr => ∃ (k : Nat) (l : List Int), c = .int .i64 k ∧ Hid (IntS wr WA.heap.size W1.heap.size (.slice (some ⟨bo, oo, none⟩) N.ends.length co) l) ∧ Hid (PTop N a k l) ∧ Hid (Turned WA.heap.size W1.heap.size W1 wr)) (fun c _ => N.ends.length + 1 - (intOf c).toNat)
  case atStart => exact ⟨0, peel0 N, rfl, O1, Lib.hid (PTop.zero N a), Lib.hid (Turned.refl WA.heap.size W1.heap.size W1)⟩
  case round =>
    obtain ⟨k, l, rfl, HO, HT, HF2⟩ := hrel
    have hs2 := HF2.out.size
    have hkl := HT.out.inv.k_le
    have HLN := Lib.hid HT.out.inv.len
    obtain ⟨wo, rfl⟩ : ∃ wo : World, wo = wr := ⟨_, rfl⟩
    have kbx1_0 : wo.cell? ⟨w.heap.size, 0, none⟩ = some (.slice (some ⟨b1, o1, none⟩) N.ends.length c1) := (HF2.out.boxN bx1_1 (by omega)).cell 0 (by simp)
    have kbx1_1 : wo.cell? ⟨w.heap.size, 1, none⟩ = some (.slice A1' N.ids.length c1') := (HF2.out.boxN bx1_1 (by omega)).cell 1 (by simp)
    have kbx1_2 : wo.cell? ⟨w.heap.size, 2, none⟩ = some (.slice A1'' N.inputs.length c1'') := (HF2.out.boxN bx1_1 (by omega)).cell 2 (by simp)
    go_wp2_with fail
    clear kbx1_0 kbx1_1 kbx1_2
    go_loopw [23, 7] (fun i ov wr => ∃ (m : Nat) (zs : List Int), m ≤ N.ends.length ∧ i = .int .i64 m ∧ Hid (IntS wr WA.heap.size W1.heap.size (.slice (some ⟨bo, oo, none⟩) N.ends.length co) l) ∧ Hid (OwnI wr W1.heap.size 3 ov zs) ∧ Hid (zs = nowL N a l m) ∧ zs.length ≤ m ∧ Hid (Turned WA.heap.size W1.heap.size W1 wr)) (fun i ov _ => N.ends.length - (intOf i).toNat)
    case atStart => exact ⟨0, [], Nat.zero_le _, rfl, HO, Lib.hid (OwnI.nil _ _ _), Lib.hid rfl, Nat.zero_le _, HF2⟩
    case round =>
      clear HF2
      obtain ⟨m, zs, hm, rfl, HO, HZ, HD, hl, HF3⟩ := hrel
      have hs3 := HF3.out.size
      by_cases hml : m < N.ends.length
      case neg =>
        obtain rfl : m = N.ends.length := by omega
        obtain ⟨Az, cz, rfl, hcz, hdz⟩ := HZ.out.ints.dims
        cases ha : anyPeel N a l with
        | false =>
          have HA := Lib.hid ha; clear ha
          have hz0 := nowL_empty.2 HA.out
          rw [← HD.out] at hz0
          have hz0' : ((zs.length : Int) == 0) = true := by simp; exact List.eq_nil_of_length_eq_zero hz0
          clear hz0
          go_wp2_with fail
          go_ret
          refine ⟨_, rfl, ?_, (HF3.out.below_of hbA1 (by omega) (by omega))⟩
          rw [HT.out.stop HA.out]
          exact HO.out.mono (by omega) (by omega)
        | true =>
          have HA := Lib.hid ha; clear ha
          have hz0 : zs.length ≠ 0 := fun e => by
            rw [HD.out] at e
            have := nowL_empty.1 e
            rw [HA.out] at this; cases this
          have hz0' : ((zs.length : Int) == 0) = false := by simpa using hz0
          have hk2 := (HT.out.inv.step HA.out).k_le
          obtain ⟨bz, oz, rfl, lbz, hbz, _, _⟩ := IntS.opened HZ.out.ints (j := 0) (by omega)
          have HZI := Lib.hid HZ.out.ints
          obtain ⟨wp, rfl⟩ : ∃ wp : World, wp = wr := ⟨_, rfl⟩
          go_wp2_with fail
          go_loopw [63] (fun i wr => ∃ (m : Nat), m ≤ zs.length ∧ i = .int .i64 m ∧ Hid (IntS wr WA.heap.size W1.heap.size (.slice (some ⟨bo, oo, none⟩) N.ends.length co) (setNow N a k l m)) ∧ Hid (IntS wr W1.heap.size wp.heap.size (.slice (some ⟨bz, oz, none⟩) zs.length cz) zs) ∧ wp.heap.size ≤ wr.heap.size ∧ Hid (Turned WA.heap.size W1.heap.size W1 wr)) (fun i _ => zs.length - (intOf i).toNat)
          case atStart => exact ⟨0, Nat.zero_le _, rfl, HO, HZI, Nat.le_refl _, HF3⟩
          case round =>
            clear HF3
            obtain ⟨m, hm2, rfl, HO, HZ, hz, HF4⟩ := hrel
            have hs4 := HF4.out.size
            by_cases hml : m < zs.length
            case neg =>
              obtain rfl : m = zs.length := by omega
              have hset : setNow N a k l zs.length = peelStep N a k l := by rw [HD.out]; exact setNow_all HLN.out
              rw [hset] at HO
              go_wp2_with fail
              go_roundw
              case rel => exact ⟨k + 1, _, by go_num, HO, Lib.hid (HT.out.step HA.out), HF4⟩
              case measure => simp [intOf]; omega
            obtain ⟨t, e1, htl, e2⟩ := nowL_at (N := N) (a := a) (l := l) (i := m) (by rw [← HD.out]; exact hml)
            rw [← HD.out] at e1
            obtain ⟨x1, x2⟩ := HZ.out.at_ hml
            rw [e1] at x1
            have hsl : (setNow N a k l m).length = N.ends.length := by rw [setNow_len]; exact HLN.out
            obtain ⟨y1, y2⟩ := HO.out.at_ (j := t) (by rw [hsl]; exact htl)
            have HS := Lib.hid (HO.out.set (j := t) (by rw [hsl]; exact htl) k)
            rw [← setNow_succ e2] at HS
            obtain ⟨y, HY⟩ : ∃ y, Hid (nth (setNow N a k l m) t = y) := ⟨_, Lib.hid rfl⟩
            rw [HY.out] at y1
            have hti : (t : Int) < N.ends.length := by omega
            have hgs := grown_set wr ⟨bo, oo + t, none⟩ (.int .i64 k)
            have HZN := Lib.hid (IntS.far HZ.out hgs (by omega) (fun g hg => by cases hg; exact .inl (by show bo < _; omega)))
            have HFN := Lib.hid (HF4.out.grown hgs fun g hg => .inl (by cases hg; exact ⟨lbo, hbo⟩))
            clear e1 e2 hsl
            go_wp2_with fail
            go_roundw
            case rel => exact ⟨m + 1, by omega, by go_num, HS, HZN, by rw [size_setCell]; omega, HFN⟩
            case measure => simp [intOf]; omega
      have kbx1_0 : wr.cell? ⟨w.heap.size, 0, none⟩ = some (.slice (some ⟨b1, o1, none⟩) N.ends.length c1) := (HF3.out.boxN bx1_1 (by omega)).cell 0 (by simp)
      have kbx1_1 : wr.cell? ⟨w.heap.size, 1, none⟩ = some (.slice A1' N.ids.length c1') := (HF3.out.boxN bx1_1 (by omega)).cell 1 (by simp)
      have kbx1_2 : wr.cell? ⟨w.heap.size, 2, none⟩ = some (.slice A1'' N.inputs.length c1'') := (HF3.out.boxN bx1_1 (by omega)).cell 2 (by simp)
      go_wp2_with fail
      clear kbx1_0 kbx1_1 kbx1_2
      refine (neNear_any _ N m lo1 hi1 _ (Net.turned N_1.out HF3.out (by omega) (by omega)) (by omega) hml (by have := good_deg HG.out hml; omega)).mono ?_
      rintro e W5 ⟨r, rfl, hr, hb5⟩
      have hg5 := grown_below hb5; clear hb5
      have hs5 := hg5.size
      have HF5 := Lib.hid (HF3.out.still hg5); clear HF3
      have O5 := Lib.hid (IntS.still HO.out hg5 (by omega)); clear HO
      have Z5 := Lib.hid (OwnI.still HZ.out hg5); clear HZ
      have R5 := Lib.hid hr; clear hr
      obtain ⟨Ar, cr, rfl, hcr, hdr⟩ := R5.out.dims
      rw [nbs_length] at hcr ⊢
      have hd6 := good_deg HG.out hml
      obtain ⟨wp, rfl⟩ : ∃ wp : World, wp = W5 := ⟨_, rfl⟩
      go_wp2_with fail
      go_loop [30, 9] (fun i cv => ∃ (q c : Nat), q ≤ (nthL N.ends m).length ∧ i = .int .i64 q ∧ cv = .int .i64 c ∧ c ≤ q ∧ Hid (c = cntI (-1) ((nears N m l).take q))) (fun i cv => (nthL N.ends m).length - (intOf i).toNat)
      case atStart => exact ⟨0, 0, Nat.zero_le _, rfl, rfl, Nat.le_refl _, Lib.hid rfl⟩
      case round =>
        obtain ⟨q, c, hq, rfl, rfl, hc, HC⟩ := hrel
        by_cases hql : q < (nthL N.ends m).length
        case pos =>
          obtain ⟨b3, o3, rfl, _, _, x3, _⟩ := IntS.opened R5.out (j := q) (by rw [nbs_length]; exact hql)
          obtain ⟨t, r, et, ht, hr, _⟩ := good_end HG.out hml hql
          rw [nth_nbs N m hql, et] at x3
          dsimp only at x3
          obtain ⟨y1, _⟩ := O5.out.at_ (j := t) (by rw [HLN.out]; exact ht)
          have hlow := HT.out.inv.low t ht
          have HCT := Lib.hid (show cntI (-1) ((nears N m l).take (q + 1)) = cntI (-1) ((nears N m l).take q) + if nth l t = -1 then 1 else 0 by rw [cntI_take (by rw [nears_length]; exact hql), nth_nears l hql, et]; rfl)
          obtain ⟨y, HY⟩ : ∃ y, Hid (nth l t = y) := ⟨_, Lib.hid rfl⟩
          rw [HY.out] at y1 hlow HCT
          have hti : (t : Int) < N.ends.length := by omega
          clear et
          by_cases hy : y < 0
          · go_wp2_with fail
            go_round
            case rel => exact ⟨q + 1, c + 1, by omega, by go_num, by go_num, by omega, Lib.hid (by rw [HCT.out, ← HC.out, if_pos (by omega)])⟩
            case measure => simp [intOf]; omega
          · go_wp2_with fail
            go_round
            case rel => exact ⟨q + 1, c, by omega, by go_num, by go_num, by omega, Lib.hid (by rw [HCT.out, ← HC.out, if_neg (by omega)]; rfl)⟩
            case measure => simp [intOf]; omega
        obtain rfl : q = (nthL N.ends m).length := by omega
        have HPC := Lib.hid (show portsC N m l (-1) = c by rw [HC.out, ← nears_length N m l, List.take_length]; rfl)
        obtain ⟨y1, _⟩ := O5.out.at_ (j := m) (by rw [HLN.out]; exact hml)
        obtain ⟨y, HY⟩ : ∃ y, Hid (nth l m = y) := ⟨_, Lib.hid rfl⟩
        rw [HY.out] at y1
        have hlv := Z5.out.lt
        by_cases hy : y < 0
        case neg =>
          have hpa' : Hid (peelAt N a l m = false) := Lib.hid (by unfold peelAt; rw [HY.out, decide_eq_false hy]; rfl)
          go_wp2_with fail
          go_roundw
          case rel => exact ⟨m + 1, zs, by omega, by go_num, O5, Z5, Lib.hid (by rw [HD.out, nowL_no hpa'.out]), by omega, HF5⟩
          case measure => simp [intOf]; omega
        by_cases hpa : (c : Int) ≤ a
        case neg =>
          have hpa' : Hid (peelAt N a l m = false) := Lib.hid (by unfold peelAt; rw [HPC.out, decide_eq_false hpa, Bool.and_false])
          go_wp2_with fail
          go_roundw
          case rel => exact ⟨m + 1, zs, by omega, by go_num, O5, Z5, Lib.hid (by rw [HD.out, nowL_no hpa'.out]), by omega, HF5⟩
          case measure => simp [intOf]; omega
        have hpa' : Hid (peelAt N a l m = true) := Lib.hid (by unfold peelAt; rw [HY.out, HPC.out, decide_eq_true hpa, decide_eq_true hy]; rfl)
        go_wp2_with (at_builtin; refine append_int (s := .tmp 52) Try.underlying23 Try.info3 (by decide) wp rfl _ rfl Z5.out m _ rfl (by simp [Act.eval, go_sem]) (by omega) (by omega) ?_; intro v' w' ho' hg' hat')
        go_roundw
        case rel => exact ⟨m + 1, _, by omega, by go_num, Lib.hid (IntS.far O5.out hg' (by omega) (fun g hg => .inr (by have := hlv g hg; omega))), Lib.hid ho', Lib.hid (by rw [nowL_yes hpa'.out, HD.out]), by simp; omega, Lib.hid (HF5.out.grown hg' fun g hg => .inr (hlv g hg).1)⟩
        case measure => simp [intOf]; omega

set_option maxHeartbeats 4000000 in
set_option maxRecDepth 100000 in
theorem PeelLayers_impl (v1 : Value) (N : NetD) (lo1 hi1 : Nat) (a : Int) (w : World) (h1 : Net w lo1 hi1 v1 N) (hh1 : hi1 ≤ w.heap.size) (hz1 : N.sz ≤ 1048576) (ok1 : N.Ok) (ok2 : I64 a) :
    Calls Try.prog 34 #[v1, .int .i64 a] w fun e w' => ∃ r, e = .returned (.tuple #[r, .bool (peelRes N a)]) ∧ IntS w' w.heap.size w'.heap.size r (peelOut N a) ∧ Below w.heap.size w w' := by
  clear ok1
  have F1 := Lib.hid h1
  obtain ⟨A1, c1, A1', c1', A1'', c1'', rfl, hc1, hd1, _⟩ := h1.parts
  clear h1
  obtain ⟨WA, HWA⟩ : ∃ W, Hid (W = (w.alloc (.cells #[.slice A1 N.ends.length c1, .slice A1' N.ids.length c1', .slice A1'' N.inputs.length c1''] 31))) := ⟨_, Lib.hid rfl⟩
  have hbA : Below w.heap.size w WA := by rw [HWA.out]; exact ((Below.refl _ _).alloc (Nat.le_refl _) _)
  have hsA : w.heap.size + 1 ≤ WA.heap.size := by rw [HWA.out]; simp; try omega
  have bx1 : BoxN WA (w.heap.size) #[.slice A1 N.ends.length c1, .slice A1' N.ids.length c1', .slice A1'' N.inputs.length c1''] 31 := by rw [HWA.out]; exact (BoxN.new' _ _ _ (by simp))
  have G1 := Lib.hid (Net.below F1.out hbA hh1); clear F1
  go_enter Try.func34, Try.ntmps34
  go_upto_region 1 with (fail)
  rw [← HWA.out]; clear HWA
  have kbx1_0 : WA.cell? ⟨w.heap.size, 0, none⟩ = some (.slice A1 N.ends.length c1) := bx1.cell 0 (by simp)
  have kbx1_1 : WA.cell? ⟨w.heap.size, 1, none⟩ = some (.slice A1' N.ids.length c1') := bx1.cell 1 (by simp)
  have kbx1_2 : WA.cell? ⟨w.heap.size, 2, none⟩ = some (.slice A1'' N.inputs.length c1'') := bx1.cell 2 (by simp)
  go_wp2_with fail
  clear kbx1_0 kbx1_1 kbx1_2
  refine (stubless_any _ N lo1 hi1 _ G1.out (by omega) hz1).mono ?_
  rintro e W1 ⟨rfl, hb1⟩
  have hg1 := grown_below hb1; clear hb1
  have hs1 := hg1.size
  have HF1 := Lib.hid ((Turned.refl WA.heap.size WA.heap.size WA).still hg1)
  by_cases hst : N.stubless = true
  case neg =>
    have hst' : N.stubless = false := by simpa using hst
    rw [hst']
    have HST := Lib.hid hst'; clear hst hst'
    go_wp2_with fail
    go_ret2
    exact ⟨_, ret_vb (show false = peelRes N a by unfold peelRes; rw [HST.out]; simp), by unfold peelOut peelRes; rw [HST.out]; simp only [Bool.false_and]; exact IntS.nil _ _ _, (HF1.out.below_of hbA (by omega) (by omega))⟩
  rw [hst]
  have HST := Lib.hid hst; clear hst
  have HG := Lib.hid (stubless_good HST.out)
  by_cases ha : 0 ≤ a
  case neg =>
    have HA := Lib.hid (decide_eq_false ha)
    have ha' : a < 0 := by omega
    clear ha
    go_wp2_with fail
    go_ret2
    exact ⟨_, ret_vb (show false = peelRes N a by unfold peelRes; rw [HA.out]; simp), by unfold peelOut peelRes; rw [HA.out]; simp only [Bool.false_and, Bool.and_false]; exact IntS.nil _ _ _, (HF1.out.below_of hbA (by omega) (by omega))⟩
  have HA := Lib.hid (decide_eq_true ha)
  have kbx1_0 : W1.cell? ⟨w.heap.size, 0, none⟩ = some (.slice A1 N.ends.length c1) := (HF1.out.boxN bx1 (by omega)).cell 0 (by simp)
  have kbx1_1 : W1.cell? ⟨w.heap.size, 1, none⟩ = some (.slice A1' N.ids.length c1') := (HF1.out.boxN bx1 (by omega)).cell 1 (by simp)
  have kbx1_2 : W1.cell? ⟨w.heap.size, 2, none⟩ = some (.slice A1'' N.inputs.length c1'') := (HF1.out.boxN bx1 (by omega)).cell 2 (by simp)
  go_wp2_with fail
  clear kbx1_0 kbx1_1 kbx1_2
  refine (peelLayers_any _ N lo1 hi1 a _ (Net.turned G1.out HF1.out (by omega) (by omega)) (by omega) HG.out).mono ?_
  rintro e W2 ⟨r, rfl, hr, hb2⟩
  have hg2 := grown_below hb2; clear hb2
  have hs2 := hg2.size
  have HF2 := Lib.hid (HF1.out.still hg2); clear HF1
  have R2 := Lib.hid hr; clear hr
  obtain ⟨Ar, cr, rfl, hcr, hdr⟩ := R2.out.dims
  go_wp2_with fail
  go_ret2
  refine ⟨_, ret_vb (by unfold peelRes; rw [HST.out, HA.out]; rfl), ?_, (HF2.out.below_of hbA (by omega) (by omega))⟩
  have e : peelOut N a = peelLay N a := by unfold peelOut peelRes peelLay; rw [HST.out, HA.out]; rfl
  rw [e]
  exact R2.out.mono (by omega) (by omega)

set_option maxHeartbeats 4000000 in
set_option maxRecDepth 100000 in
theorem PeelLayers_spec (v1 : Value) (N : NetD) (lo1 hi1 : Nat) (a : Int) (w : World) (h1 : Net w lo1 hi1 v1 N) (hh1 : hi1 ≤ w.heap.size) (hz1 : N.sz ≤ 1048576) (ok1 : N.Ok) (ok2 : I64 a) :
    Calls Try.prog 33 #[v1, .int .i64 a] w fun e w' => ∃ r, e = .returned (.tuple #[r, .bool (peelRes N a)]) ∧ IntS w' w.heap.size w'.heap.size r (peelOut N a) ∧ Below w.heap.size w w' := by
  clear ok1
  have F1 := Lib.hid h1
  obtain ⟨A1, c1, A1', c1', A1'', c1'', rfl, hc1, hd1, _⟩ := h1.parts
  clear h1
  obtain ⟨WA, HWA⟩ : ∃ W, Hid (W = (w.alloc (.cells #[.slice A1 N.ends.length c1, .slice A1' N.ids.length c1', .slice A1'' N.inputs.length c1''] 31))) := ⟨_, Lib.hid rfl⟩
  have hbA : Below w.heap.size w WA := by rw [HWA.out]; exact ((Below.refl _ _).alloc (Nat.le_refl _) _)
  have hsA : w.heap.size + 1 ≤ WA.heap.size := by rw [HWA.out]; simp; try omega
  have bx1 : BoxN WA (w.heap.size) #[.slice A1 N.ends.length c1, .slice A1' N.ids.length c1', .slice A1'' N.inputs.length c1''] 31 := by rw [HWA.out]; exact (BoxN.new' _ _ _ (by simp))
  have G1 := Lib.hid (Net.below F1.out hbA hh1); clear F1
  go_enter Try.func33, Try.ntmps33
  go_upto_region 1 with (fail)
  rw [← HWA.out]; clear HWA
  have kbx1_0 : WA.cell? ⟨w.heap.size, 0, none⟩ = some (.slice A1 N.ends.length c1) := bx1.cell 0 (by simp)
  have kbx1_1 : WA.cell? ⟨w.heap.size, 1, none⟩ = some (.slice A1' N.ids.length c1') := bx1.cell 1 (by simp)
  have kbx1_2 : WA.cell? ⟨w.heap.size, 2, none⟩ = some (.slice A1'' N.inputs.length c1'') := bx1.cell 2 (by simp)
  go_wp2_with fail
  clear kbx1_0 kbx1_1 kbx1_2
  refine (orGood_any _ N lo1 hi1 _ G1.out (by omega) hz1).mono ?_
  rintro e W1 ⟨rfl, hb1⟩
  have hg1 := grown_below hb1; clear hb1
  have hs1 := hg1.size
  have HF1 := Lib.hid ((Turned.refl WA.heap.size WA.heap.size WA).still hg1)
  by_cases hst : N.stubless = true
  case neg =>
    have hst' : N.stubless = false := by simpa using hst
    rw [hst']
    have HST := Lib.hid hst'; clear hst hst'
    go_wp2_with fail
    go_ret2
    exact ⟨_, ret_vb (show false = peelRes N a by unfold peelRes; rw [HST.out]; simp), by unfold peelOut peelRes; rw [HST.out]; simp only [Bool.false_and]; exact IntS.nil _ _ _, (HF1.out.below_of hbA (by omega) (by omega))⟩
  rw [hst]
  have HST := Lib.hid hst; clear hst
  have HG := Lib.hid (stubless_good HST.out)
  by_cases ha : 0 ≤ a
  case neg =>
    have HA := Lib.hid (decide_eq_false ha)
    have ha' : a < 0 := by omega
    clear ha
    go_wp2_with fail
    go_ret2
    exact ⟨_, ret_vb (show false = peelRes N a by unfold peelRes; rw [HA.out]; simp), by unfold peelOut peelRes; rw [HA.out]; simp only [Bool.false_and, Bool.and_false]; exact IntS.nil _ _ _, (HF1.out.below_of hbA (by omega) (by omega))⟩
  have HA := Lib.hid (decide_eq_true ha)
  have kbx1_0 : W1.cell? ⟨w.heap.size, 0, none⟩ = some (.slice A1 N.ends.length c1) := (HF1.out.boxN bx1 (by omega)).cell 0 (by simp)
  have kbx1_1 : W1.cell? ⟨w.heap.size, 1, none⟩ = some (.slice A1' N.ids.length c1') := (HF1.out.boxN bx1 (by omega)).cell 1 (by simp)
  have kbx1_2 : W1.cell? ⟨w.heap.size, 2, none⟩ = some (.slice A1'' N.inputs.length c1'') := (HF1.out.boxN bx1 (by omega)).cell 2 (by simp)
  go_wp2_with fail
  clear kbx1_0 kbx1_1 kbx1_2
  refine (orPeel_any _ N lo1 hi1 a _ (Net.turned G1.out HF1.out (by omega) (by omega)) (by omega) HG.out).mono ?_
  rintro e W2 ⟨r, rfl, hr, hb2⟩
  have hg2 := grown_below hb2; clear hb2
  have hs2 := hg2.size
  have HF2 := Lib.hid (HF1.out.still hg2); clear HF1
  have R2 := Lib.hid hr; clear hr
  obtain ⟨Ar, cr, rfl, hcr, hdr⟩ := R2.out.dims
  cases hok : peelOk N a with
  | false =>
    have HOK := Lib.hid hok; clear hok
    have HM := Lib.hid (show decide ((-1 : Int) ∈ peelAll N a) = true by have := HOK.out; unfold peelOk at this; simpa using this)
    go_wp2_with (go_at_call 79; refine (l1Has_any _ (peelAll N a) _ _ _ _ R2.out).mono ?_; rintro e w' ⟨rfl, rfl⟩; rw [HM.out])
    go_ret2
    exact ⟨_, ret_vb (show false = peelRes N a by unfold peelRes; rw [HOK.out]; simp), by unfold peelOut peelRes; rw [HOK.out]; simp only [Bool.and_false]; exact IntS.nil _ _ _, (HF2.out.below_of hbA (by omega) (by omega))⟩
  | true =>
    have HOK := Lib.hid hok; clear hok
    have HM := Lib.hid (show decide ((-1 : Int) ∈ peelAll N a) = false by have := HOK.out; unfold peelOk at this; simpa using this)
    have kbx1_0 : W2.cell? ⟨w.heap.size, 0, none⟩ = some (.slice A1 N.ends.length c1) := (HF2.out.boxN bx1 (by omega)).cell 0 (by simp)
    have kbx1_1 : W2.cell? ⟨w.heap.size, 1, none⟩ = some (.slice A1' N.ids.length c1') := (HF2.out.boxN bx1 (by omega)).cell 1 (by simp)
    have kbx1_2 : W2.cell? ⟨w.heap.size, 2, none⟩ = some (.slice A1'' N.inputs.length c1'') := (HF2.out.boxN bx1 (by omega)).cell 2 (by simp)
    go_wp2_with (go_at_call 79; refine (l1Has_any _ (peelAll N a) _ _ _ _ R2.out).mono ?_; rintro e w' ⟨rfl, rfl⟩; rw [HM.out])
    clear kbx1_0 kbx1_1 kbx1_2
    refine (orPeel_any _ N lo1 hi1 a _ (Net.turned G1.out HF2.out (by omega) (by omega)) (by omega) HG.out).mono ?_
    rintro e W3 ⟨r2, rfl, hr2, hb3⟩
    have hg3 := grown_below hb3; clear hb3
    have hs3 := hg3.size
    have HF3 := Lib.hid (HF2.out.still hg3); clear HF2
    have R3 := Lib.hid (IntS.still R2.out hg3 (by omega)); clear R2
    have Q3 := Lib.hid hr2; clear hr2
    obtain ⟨Aq, cq, rfl, hcq, hdq⟩ := Q3.out.dims
    go_wp2_with fail
    go_ret2
    refine ⟨_, ret_vb (by unfold peelRes; rw [HST.out, HA.out, HOK.out]; rfl), ?_, (HF3.out.below_of hbA (by omega) (by omega))⟩
    have e : peelOut N a = peelAll N a := by unfold peelOut peelRes; rw [HST.out, HA.out, HOK.out]; rfl
    rw [e]
    exact Q3.out.mono (by omega) (by omega)

set_option maxHeartbeats 4000000 in
set_option maxRecDepth 100000 in
theorem Degeneracy_impl (v1 : Value) (N : NetD) (lo1 hi1 : Nat) (w : World) (h1 : Net w lo1 hi1 v1 N) (hh1 : hi1 ≤ w.heap.size) (hz1 : N.sz ≤ 1048576) (ok1 : N.Ok) :
    Calls Try.prog 32 #[v1] w fun e w' => e = .returned (.tuple #[.int .i64 (degen N), .bool N.stubless]) ∧ Below w.heap.size w w' := by
  clear ok1
  have F1 := Lib.hid h1
  obtain ⟨A1, c1, A1', c1', A1'', c1'', rfl, hc1, hd1, _⟩ := h1.parts
  clear h1
  obtain ⟨WA, HWA⟩ : ∃ W, Hid (W = (w.alloc (.cells #[.slice A1 N.ends.length c1, .slice A1' N.ids.length c1', .slice A1'' N.inputs.length c1''] 31))) := ⟨_, Lib.hid rfl⟩
  have hbA : Below w.heap.size w WA := by rw [HWA.out]; exact ((Below.refl _ _).alloc (Nat.le_refl _) _)
  have hsA : w.heap.size + 1 ≤ WA.heap.size := by rw [HWA.out]; simp; try omega
  have bx1 : BoxN WA (w.heap.size) #[.slice A1 N.ends.length c1, .slice A1' N.ids.length c1', .slice A1'' N.inputs.length c1''] 31 := by rw [HWA.out]; exact (BoxN.new' _ _ _ (by simp))
  have G1 := Lib.hid (Net.below F1.out hbA hh1); clear F1
  go_enter Try.func32, Try.ntmps32
  go_upto_region 1 with (fail)
  rw [← HWA.out]; clear HWA
  have kbx1_0 : WA.cell? ⟨w.heap.size, 0, none⟩ = some (.slice A1 N.ends.length c1) := bx1.cell 0 (by simp)
  have kbx1_1 : WA.cell? ⟨w.heap.size, 1, none⟩ = some (.slice A1' N.ids.length c1') := bx1.cell 1 (by simp)
  have kbx1_2 : WA.cell? ⟨w.heap.size, 2, none⟩ = some (.slice A1'' N.inputs.length c1'') := bx1.cell 2 (by simp)
  go_wp2_with fail
  clear kbx1_0 kbx1_1 kbx1_2
  refine (stubless_any _ N lo1 hi1 _ G1.out (by omega) hz1).mono ?_
  rintro e W1 ⟨rfl, hb1⟩
  have hg1 := grown_below hb1; clear hb1
  have hs1 := hg1.size
  have HF1 := Lib.hid ((Turned.refl WA.heap.size WA.heap.size WA).still hg1)
  by_cases hst : N.stubless = true
  case neg =>
    have hst' : N.stubless = false := by simpa using hst
    rw [hst']
    have HST := Lib.hid hst'; clear hst hst'
    go_wp2_with fail
    go_ret2
    exact ⟨ret_ivb' (by unfold degen; rw [HST.out]; rfl) HST.out.symm, (HF1.out.below_of hbA (by omega) (by omega))⟩
  rw [hst]
  have HST := Lib.hid hst; clear hst
  have HG := Lib.hid (stubless_good HST.out)
  have N_1 := Lib.hid (Net.turned G1.out HF1.out (by omega) (by omega)); clear G1
  have bx1_1 := HF1.out.boxN bx1 (by omega); clear bx1
  have hbA1 := (HF1.out.below_of hbA (by omega) (by omega)); clear hbA HF1
  go_wp2_with fail
  go_loopw [4] (fun c wr => ∃ (a : Nat), c = .int .i64 a ∧ a ≤ 6 ∧ Hid (∀ j : Nat, j < a → peelOk N j = false) ∧ Hid (Turned W1.heap.size W1.heap.size W1 wr)) (fun c _ => 7 - (intOf c).toNat)
  case atStart => exact ⟨0, rfl, by omega, Lib.hid fun j hj => absurd hj (by omega), Lib.hid (Turned.refl W1.heap.size W1.heap.size W1)⟩
  case round =>
    obtain ⟨a, rfl, ha, HU, HF2⟩ := hrel
    have hs2 := HF2.out.size
    have kbx1_0 : wr.cell? ⟨w.heap.size, 0, none⟩ = some (.slice A1 N.ends.length c1) := (HF2.out.boxN bx1_1 (by omega)).cell 0 (by simp)
    have kbx1_1 : wr.cell? ⟨w.heap.size, 1, none⟩ = some (.slice A1' N.ids.length c1') := (HF2.out.boxN bx1_1 (by omega)).cell 1 (by simp)
    have kbx1_2 : wr.cell? ⟨w.heap.size, 2, none⟩ = some (.slice A1'' N.inputs.length c1'') := (HF2.out.boxN bx1_1 (by omega)).cell 2 (by simp)
    go_wp2_with fail
    clear kbx1_0 kbx1_1 kbx1_2
    refine (peelLayers_any _ N lo1 hi1 a _ (Net.turned N_1.out HF2.out (by omega) (by omega)) (by omega) HG.out).mono ?_
    rintro e W3 ⟨r, rfl, hr, hb3⟩
    have hg3 := grown_below hb3; clear hb3
    have hs3 := hg3.size
    have HF3 := Lib.hid (HF2.out.still hg3); clear HF2
    have R3 := Lib.hid hr; clear hr
    obtain ⟨Ar, cr, rfl, hcr, hdr⟩ := R3.out.dims
    cases hok : peelOk N a with
    | false =>
      have HOK := Lib.hid hok
      have ha2 : a < 6 := Classical.byContradiction fun h => by
        have := peelOk_six HG.out (a := a) (by omega)
        rw [hok] at this; cases this
      go_wp2_with fail
      go_roundw
      case rel =>
        refine ⟨a + 1, by go_num, by omega, Lib.hid fun j hj => ?_, HF3⟩
        by_cases e : j = a
        · rw [e]; exact HOK.out
        · exact HU.out j (by omega)
      case measure => simp [intOf]; omega
    | true =>
      have HOK := Lib.hid hok
      go_wp2_with fail
      go_ret2
      exact ⟨ret_ivb' (by unfold degen; rw [HST.out, if_pos rfl, fidxN_hit (by omega) HOK.out HU.out]) HST.out.symm, (HF3.out.below_of hbA1 (by omega) (by omega))⟩

set_option maxHeartbeats 4000000 in
set_option maxRecDepth 100000 in
theorem Degeneracy_spec (v1 : Value) (N : NetD) (lo1 hi1 : Nat) (w : World) (h1 : Net w lo1 hi1 v1 N) (hh1 : hi1 ≤ w.heap.size) (hz1 : N.sz ≤ 1048576) (ok1 : N.Ok) :
    Calls Try.prog 31 #[v1] w fun e w' => e = .returned (.tuple #[.int .i64 (degen N), .bool N.stubless]) ∧ Below w.heap.size w w' := by
  clear ok1
  have F1 := Lib.hid h1
  obtain ⟨A1, c1, A1', c1', A1'', c1'', rfl, hc1, hd1, _⟩ := h1.parts
  clear h1
  obtain ⟨WA, HWA⟩ : ∃ W, Hid (W = (w.alloc (.cells #[.slice A1 N.ends.length c1, .slice A1' N.ids.length c1', .slice A1'' N.inputs.length c1''] 31))) := ⟨_, Lib.hid rfl⟩
  have hbA : Below w.heap.size w WA := by rw [HWA.out]; exact ((Below.refl _ _).alloc (Nat.le_refl _) _)
  have hsA : w.heap.size + 1 ≤ WA.heap.size := by rw [HWA.out]; simp; try omega
  have bx1 : BoxN WA (w.heap.size) #[.slice A1 N.ends.length c1, .slice A1' N.ids.length c1', .slice A1'' N.inputs.length c1''] 31 := by rw [HWA.out]; exact (BoxN.new' _ _ _ (by simp))
  have G1 := Lib.hid (Net.below F1.out hbA hh1); clear F1
  go_enter Try.func31, Try.ntmps31
  go_upto_region 1 with (fail)
  rw [← HWA.out]; clear HWA
  have kbx1_0 : WA.cell? ⟨w.heap.size, 0, none⟩ = some (.slice A1 N.ends.length c1) := bx1.cell 0 (by simp)
  have kbx1_1 : WA.cell? ⟨w.heap.size, 1, none⟩ = some (.slice A1' N.ids.length c1') := bx1.cell 1 (by simp)
  have kbx1_2 : WA.cell? ⟨w.heap.size, 2, none⟩ = some (.slice A1'' N.inputs.length c1'') := bx1.cell 2 (by simp)
  go_wp2_with fail
  clear kbx1_0 kbx1_1 kbx1_2
  refine (orGood_any _ N lo1 hi1 _ G1.out (by omega) hz1).mono ?_
  rintro e W1 ⟨rfl, hb1⟩
  have hg1 := grown_below hb1; clear hb1
  have hs1 := hg1.size
  have HF1 := Lib.hid ((Turned.refl WA.heap.size WA.heap.size WA).still hg1)
  by_cases hst : N.stubless = true
  case neg =>
    have hst' : N.stubless = false := by simpa using hst
    rw [hst']
    have HST := Lib.hid hst'; clear hst hst'
    go_wp2_with fail
    go_ret2
    exact ⟨ret_ivb' (by unfold degen; rw [HST.out]; rfl) HST.out.symm, (HF1.out.below_of hbA (by omega) (by omega))⟩
  rw [hst]
  have HST := Lib.hid hst; clear hst
  have HG := Lib.hid (stubless_good HST.out)
  have N_1 := Lib.hid (Net.turned G1.out HF1.out (by omega) (by omega)); clear G1
  have bx1_1 := HF1.out.boxN bx1 (by omega); clear bx1
  have hbA1 := (HF1.out.below_of hbA (by omega) (by omega)); clear hbA HF1
  go_wp2_with fail
  go_loopw [4] (fun c wr => ∃ (a : Nat), c = .int .i64 a ∧ a ≤ 6 ∧ Hid (∀ j : Nat, j < a → peelOk N j = false) ∧ Hid (Turned W1.heap.size W1.heap.size W1 wr)) (fun c _ => 7 - (intOf c).toNat)
  case atStart => exact ⟨0, rfl, by omega, Lib.hid fun j hj => absurd hj (by omega), Lib.hid (Turned.refl W1.heap.size W1.heap.size W1)⟩
  case round =>
    obtain ⟨a, rfl, ha, HU, HF2⟩ := hrel
    have hs2 := HF2.out.size
    have kbx1_0 : wr.cell? ⟨w.heap.size, 0, none⟩ = some (.slice A1 N.ends.length c1) := (HF2.out.boxN bx1_1 (by omega)).cell 0 (by simp)
    have kbx1_1 : wr.cell? ⟨w.heap.size, 1, none⟩ = some (.slice A1' N.ids.length c1') := (HF2.out.boxN bx1_1 (by omega)).cell 1 (by simp)
    have kbx1_2 : wr.cell? ⟨w.heap.size, 2, none⟩ = some (.slice A1'' N.inputs.length c1'') := (HF2.out.boxN bx1_1 (by omega)).cell 2 (by simp)
    go_wp2_with fail
    clear kbx1_0 kbx1_1 kbx1_2
    refine (orPeel_any _ N lo1 hi1 a _ (Net.turned N_1.out HF2.out (by omega) (by omega)) (by omega) HG.out).mono ?_
    rintro e W3 ⟨r, rfl, hr, hb3⟩
    have hg3 := grown_below hb3; clear hb3
    have hs3 := hg3.size
    have HF3 := Lib.hid (HF2.out.still hg3); clear HF2
    have R3 := Lib.hid hr; clear hr
    obtain ⟨Ar, cr, rfl, hcr, hdr⟩ := R3.out.dims
    cases hok : peelOk N a with
    | false =>
      have HOK := Lib.hid hok
      have ha2 : a < 6 := Classical.byContradiction fun h => by
        have := peelOk_six HG.out (a := a) (by omega)
        rw [hok] at this; cases this
      go_wp2_with (go_at_call 79; refine (l1Has_any _ (peelAll N a) _ _ _ _ R3.out).mono ?_; rintro e w' ⟨rfl, rfl⟩; rw [show decide ((-1 : Int) ∈ peelAll N a) = true by have := HOK.out; unfold peelOk at this; simpa using this])
      go_roundw
      case rel =>
        refine ⟨a + 1, by go_num, by omega, Lib.hid fun j hj => ?_, HF3⟩
        by_cases e : j = a
        · rw [e]; exact HOK.out
        · exact HU.out j (by omega)
      case measure => simp [intOf]; omega
    | true =>
      have HOK := Lib.hid hok
      go_wp2_with (go_at_call 79; refine (l1Has_any _ (peelAll N a) _ _ _ _ R3.out).mono ?_; rintro e w' ⟨rfl, rfl⟩; rw [show decide ((-1 : Int) ∈ peelAll N a) = false by have := HOK.out; unfold peelOk at this; simpa using this])
      go_ret2
      exact ⟨ret_ivb' (by unfold degen; rw [HST.out, if_pos rfl, fidxN_hit (by omega) HOK.out HU.out]) HST.out.symm, (HF3.out.below_of hbA1 (by omega) (by omega))⟩

end Go.Proofs.Ytapfighdnfmdcaa
