/-
  Several texts in one: Cde2, Perm, CoL, NumP. No condition on any program.
-/
import Derived.Test.YtmdlginjblnfoaaGreatCzI
import Derived.Test.YtmdlginjblnfoaaGreatCzD
import Derived.Test.YtmdlginjblnfoaaGreatCzA
import Derived.Test.YtmdlginjblnfoaaGreatCzH
import Derived.Test.YtmdlginjblnfoaaGreatCzG
import Derived.Test.YtmdlginjblnfoaaGreatCzE

/- Contract: the code from a node and its walk (program). -/
namespace Go.Proofs.YtmdlginjblnfoaaGreat
open Go.ChangeShapes Go.WideShapes Go.ChangeAt Go.RowKit
set_option linter.unusedVariables false

theorem Turned.grownM {lo hi : Nat} {A W : World} (h : Turned lo hi A W) (hl : hi ≤ lo) : A.grownBy W none := ⟨h.os, h.tape, h.output, h.size, fun k hk _ => h.block k hk (by omega)⟩

set_option maxHeartbeats 8000000 in
set_option maxRecDepth 100000 in
theorem codeFrom_any (v1 : Value) (N : NetD) (lo1 hi1 : Nat) (v : Nat) (w : World) (h1 : Net w lo1 hi1 v1 N) (hh1 : hi1 ≤ w.heap.size) (hg : N.good = true) (hv : v < N.ends.length) :
    Calls Tryz.prog 50 #[v1, .int .i64 (v : Nat)] w fun e w' => ∃ rc rw m, e = .returned (.tuple #[rc, rw]) ∧ w.heap.size ≤ m ∧ m ≤ w'.heap.size ∧ IntS w' w.heap.size m rw (walkN N v) ∧ IntS w' m w'.heap.size rc (codeN N (walkN N v)) ∧ Below w.heap.size w w' := by
  obtain ⟨n1, n40⟩ := good_n hg
  have HG := Lib.hid hg; clear hg
  have hmm := @run_makeMap Tryz.prog
  have HNO := Lib.hid (good_nodes HG.out)
  have HNI := Lib.hid (good_idslW HG.out)
  have HNN := Lib.hid (good_inslW HG.out)
  have F1 := Lib.hid h1
  obtain ⟨A1, c1, A1', c1', A1'', c1'', rfl, hc1, hd1, _⟩ := h1.parts
  obtain ⟨b1, o1, _, _, rfl, _⟩ := Net.rowAt F1.out (u := 0) (by omega)
  clear h1
  obtain ⟨WA, HWA⟩ : ∃ W, Hid (W = (w.alloc (.cells #[.slice (some ⟨b1, o1, none⟩) N.ends.length c1, .slice A1' N.ids.length c1', .slice A1'' N.inputs.length c1''] 32))) := ⟨_, Lib.hid rfl⟩
  have hbA : Below w.heap.size w WA := by rw [HWA.out]; exact ((Below.refl _ _).alloc (Nat.le_refl _) _)
  have hsA : w.heap.size + 1 ≤ WA.heap.size := by rw [HWA.out]; simp; try omega
  have bx1 : BoxN WA (w.heap.size) #[.slice (some ⟨b1, o1, none⟩) N.ends.length c1, .slice A1' N.ids.length c1', .slice A1'' N.inputs.length c1''] 32 := by rw [HWA.out]; exact (BoxN.new' _ _ _ (by simp))
  have G1 := Lib.hid (Net.below F1.out hbA hh1); clear F1
  go_enter Tryz.func50, Tryz.ntmps50
  go_upto_region 1 with (fail)
  rw [← HWA.out]; clear HWA
  obtain ⟨bI, oI, rfl, _, hbI, _, _⟩ := (netInsW G1.out).opened (j := 0) (by rw [HNN.out]; omega)
  go_upto_region 2 with (fail)
  refine nameC ?_
  intro W1 HW1
  have hg1 : WA.grownBy W1 none := by rw [HW1.out]; exact grown_alloc _ _
  have hs1 := hg1.size
  have HF1 := Lib.hid ((Turned.refl WA.heap.size WA.heap.size WA).still hg1)
  have HO := Lib.hid (show OwnI W1 WA.heap.size 3 (.slice (some ⟨WA.heap.size, 0, none⟩) 1 1) [(v : Int)] by rw [HW1.out]; exact OwnI.one _ _ _ _ rfl (Nat.le_refl _))
  have hz1 : WA.heap.size + 1 = W1.heap.size := by rw [HW1.out]; simp
  clear HW1
  obtain ⟨w5, hU, hg5, HM5⟩ := (MpN.new W1).put (by omega) (x := (v : Int)) (by unfold I64; omega) (by simp)
  simp only [List.length_nil, List.nil_append, Nat.zero_add] at hU HM5
  have hU2 : (Instr.mapUpdate 91 (.map (some W1.heap.size)) (.int .i64 (v : Int)) (.int .i64 0)).run Tryz.prog (W1.alloc (.map #[] 0)) = .ok () w5 := hU
  clear hU
  have hs5 := hg5.size
  have HM := Lib.hid (show MpN w5 W1.heap.size [(v : Int)] 1 from HM5)
  have hz5 : W1.heap.size + 1 ≤ w5.heap.size := by simp at hs5; omega
  have HO5 := Lib.hid ((OwnI.kept (OwnI.kept HO.out (grown_alloc W1 (.map #[] 0)) (by right; simp [Value.ownBlock])) hg5 (by right; simp [Value.ownBlock]; omega)))
  have HF5 := Lib.hid ((HF1.out.still (grown_alloc W1 (.map #[] 0))).grown hg5 (fun g e => .inr (by cases e; omega)))
  clear HM5 hg5 HO HF1
  go_upto_region 3 with (fail)
  clear hU2 hmm
  go_wp2_with fail
  go_loopw [8, 6] (fun kv ov wr => ∃ (k : Nat) (out : List Int), kv = .int .i64 k ∧ Hid (OwnI wr WA.heap.size 3 ov out) ∧ Hid (WkTop N v k out) ∧ Hid (MpN wr W1.heap.size out out.length) ∧ Hid (∀ g, Value.ownBlock ov = some g → g ≠ W1.heap.size) ∧ W1.heap.size + 1 ≤ wr.heap.size ∧ Hid (Turned WA.heap.size WA.heap.size WA wr)) (fun kv ov _ => N.ends.length + 1 - (intOf kv).toNat)
  case atStart => exact ⟨0, [(v : Int)], rfl, HO5, Lib.hid (WkTop.start hv), HM, Lib.hid fun g e => by simp [Value.ownBlock] at e; omega, hz5, HF5⟩
  case round =>
    clear HF5
    obtain ⟨k, out, rfl, HO, HI, HM, HGO, hz, HF2⟩ := hrel
    have hs2 := HF2.out.size
    obtain ⟨wq, rfl⟩ : ∃ wq : World, wq = wr := ⟨_, rfl⟩
    have hkl := HI.out.le
    have hll := HI.out.ok.len
    obtain ⟨Az, cz, rfl, hcz, hdz⟩ := HO.out.ints.dims
    by_cases hlt : k < out.length
    case pos =>
      obtain ⟨u, eu, hu⟩ := HI.out.ok.at_ hlt
      have HEU := Lib.hid eu
      obtain ⟨bz, oz, rfl, _, hbz, xz, _⟩ := IntS.opened HO.out.ints (j := k) hlt
      rw [eu] at xz
      clear eu
      have hki : (k : Int) < out.length := by omega
      have hui : (u : Int) < N.ends.length := by omega
      have hd6 := good_deg HG.out hu
      obtain ⟨Aa, ca, hba, qa, hca, hda, hRa⟩ := Net.rowIn G1.out hu
      replace qa := (HF2.out.cell (by omega) (by omega)).trans qa
      have Ra := Lib.hid hRa; clear hRa
      have kbx1_0 : wq.cell? ⟨w.heap.size, 0, none⟩ = some (.slice (some ⟨b1, o1, none⟩) N.ends.length c1) := (HF2.out.boxN bx1 (by omega)).cell 0 (by simp)
      have kbx1_1 : wq.cell? ⟨w.heap.size, 1, none⟩ = some (.slice A1' N.ids.length c1') := (HF2.out.boxN bx1 (by omega)).cell 1 (by simp)
      have kbx1_2 : wq.cell? ⟨w.heap.size, 2, none⟩ = some (.slice (some ⟨bI, oI, none⟩) N.inputs.length c1'') := (HF2.out.boxN bx1 (by omega)).cell 2 (by simp)
      go_wp2_with fail
      go_quiet (fail)
      clear xz qa kbx1_0 kbx1_1 kbx1_2
      obtain ⟨nd, hnd⟩ : ∃ nd : Nat, nd = nd := ⟨0, rfl⟩
      clear hnd nd
      go_wp2_with fail
      go_loopw [39, 6] (fun iv ov wr => ∃ (m : Nat) (out' : List Int), m ≤ (nthL N.ends u).length ∧ iv = .int .i64 m ∧ Hid (OwnI wr WA.heap.size 3 ov out') ∧ Hid (out' = wkRow N out u m) ∧ Hid (MpN wr W1.heap.size out' out'.length) ∧ Hid (∀ g, Value.ownBlock ov = some g → g ≠ W1.heap.size) ∧ W1.heap.size + 1 ≤ wr.heap.size ∧ Hid (Turned WA.heap.size WA.heap.size WA wr)) (fun iv ov _ => (nthL N.ends u).length - (intOf iv).toNat)
      case atStart => exact ⟨0, out, Nat.zero_le _, rfl, Lib.hid (OwnI.kept HO.out (grown_drewN wq _) (by right; simp [Value.ownBlock])), Lib.hid rfl, Lib.hid (MpN.still HM.out (grown_drewN wq _)), HGO, hz, Lib.hid (HF2.out.still (grown_drewN wq _))⟩
      case round =>
        clear HF2
        obtain ⟨m, out', hm, rfl, HO, HW, HM, HGO2, hz, HF3⟩ := hrel
        have hs3 := HF3.out.size
        obtain ⟨ws, rfl⟩ : ∃ ws : World, ws = wr := ⟨_, rfl⟩
        have hnl := nbs_length N u
        have HOK := Lib.hid (show WkOk N out' by rw [HW.out]; exact HI.out.ok.row HNO.out hu m (by rw [hnl]; exact hm))
        have hlo := HOK.out.len
        have HNL := Lib.hid hnl; clear hnl
        by_cases hml : m < (nthL N.ends u).length
        case neg =>
          obtain rfl : m = (nthL N.ends u).length := by omega
          have HIN := Lib.hid (show WkTop N v (k + 1) out' by rw [HW.out, ← HNL.out]; exact HI.out.next HNO.out hlt HEU.out hu)
          go_wp2_with fail
          go_roundw
          case rel => exact ⟨k + 1, out', by go_num, HO, HIN, HM, HGO2, hz, HF3⟩
          case measure => simp [intOf]; omega
        obtain ⟨ba, oa, rfl, _, hba', ea, ea'⟩ := (EndS.turned Ra.out HF3.out (by omega) (by omega)).opened hml
        obtain ⟨t, r, eta, ht, hr, eua⟩ := good_end HG.out hu hml
        rw [eta] at ea ea'
        dsimp only at ea ea'
        have ETa := Lib.hid eta
        have EUa := Lib.hid eua
        clear eta eua
        go_upto_region 9 with (fail)
        refine nameC ?_
        intro W4 HW4
        have hg4 : ws.grownBy W4 none := by rw [HW4.out]; exact grown_alloc _ _
        have hs4 := hg4.size
        have HF4 := Lib.hid (HF3.out.still hg4); clear HF3
        have O4 := Lib.hid (OwnI.still HO.out hg4); clear HO
        have M4 := Lib.hid (MpN.still HM.out hg4); clear HM
        have bxe4 := Lib.hid (show BoxN W4 ws.heap.size #[.int .i64 t, .int .i64 r] 66 by rw [HW4.out]; exact BoxN.new _ _ _)
        clear HW4
        clear ea ea'
        have HSC := Lib.hid (show wkRow N out u (m + 1) = wkStep out' (t : Int) by rw [wkRow_succ _ _ _ (by rw [HNL.out]; exact hml), ← HW.out, nth_nbs N u hml, ETa.out])
        obtain ⟨Ay, cy, rfl, hcy, hdy⟩ := O4.out.ints.dims
        have hlv3 := Lib.hid O4.out.lt
        have hlk := M4.out.look_ok (x := (t : Int)) (by unfold I64; omega)
        obtain ⟨nv, HNV⟩ : ∃ x, Hid (numV out' (t : Int) = x) := ⟨_, Lib.hid rfl⟩
        rw [HNV.out] at hlk
        have kbxe_0 : W4.cell? ⟨ws.heap.size, 0, none⟩ = some (.int .i64 t) := bxe4.out.cell 0 (by simp)
        have kbxe_1 : W4.cell? ⟨ws.heap.size, 1, none⟩ = some (.int .i64 r) := bxe4.out.cell 1 (by simp)
        cases hmm : decide ((t : Int) ∈ out') with
        | true =>
          have HMM := Lib.hid hmm
          rw [hmm] at hlk
          clear hmm
          have HSE := Lib.hid (show out' = wkRow N out u (m + 1) by rw [HSC.out]; unfold wkStep; rw [if_pos (of_decide_eq_true HMM.out)])
          go_wp2_with fail
          go_roundw
          case rel => exact ⟨m + 1, out', by omega, by go_num, O4, HSE, M4, HGO2, by omega, HF4⟩
          case measure => simp [intOf]; omega
        | false =>
          have HMM := Lib.hid hmm
          rw [hmm] at hlk
          clear hmm
          have HSE := Lib.hid (show out' ++ [(t : Int)] = wkRow N out u (m + 1) by rw [HSC.out]; unfold wkStep; rw [if_neg (of_decide_eq_false HMM.out)])
          obtain ⟨w6, hU, hg6, HM6⟩ := M4.out.put (by omega) (x := (t : Int)) (by unfold I64; omega) (of_decide_eq_false HMM.out)
          have hs6 := hg6.size
          have HMP := Lib.hid HM6; clear HM6
          have BE6 := Lib.hid (BoxN.far bxe4.out hg6 (fun g e => by cases e; omega))
          have HO6 := Lib.hid (OwnI.far O4.out hg6 (fun g e => .inr (by cases e; exact fun e2 => HGO2.out _ e2 rfl)))
          have HF6 := Lib.hid (HF4.out.grown hg6 (fun g e => .inr (by cases e; omega)))
          have ke0 : w6.cell? ⟨ws.heap.size, 0, none⟩ = some (.int .i64 t) := BE6.out.cell 0 (by simp)
          have hol : (out' ++ [(t : Int)]).length = out'.length + 1 := by simp
          rw [← hol] at HMP
          clear hol
          have hlv6 := HO6.out.lt
          go_wp2_with (at_builtin; refine append_int (s := .tmp 57) Tryz.underlying23 Tryz.info3 (by decide) w6 rfl _ rfl HO6.out t _ rfl (by simp [Act.eval, go_sem]) (by omega) (by omega) ?_; intro v' w' ho' hg' hat')
          go_roundw
          case rel =>
            have hgs := hg'.size
            refine ⟨m + 1, _, by omega, by go_num, Lib.hid ho', HSE, Lib.hid (MpN.far HMP.out hg' (fun g e => HGO2.out g e)), Lib.hid fun g e => ?_, by omega, Lib.hid (HF6.out.grown hg' fun g hg => .inr (hlv6 g hg).1)⟩
            rcases hat' with e1 | e1
            · rw [e1] at e; exact HGO2.out g e
            · rw [e1] at e; injection e with e; omega
          case measure => simp [intOf]; omega
    obtain rfl : k = out.length := by omega
    have HLE := Lib.hid HI.out.stop
    have HL := Lib.hid HI.out.ok
    have HLL := Lib.hid (show walkN N v = out from HLE.out)
    have hL40 := HL.out.len
    clear HI HLE hlt hkl
    have HOI := Lib.hid HO.out.ints; clear HO HGO
    have N_5 := Lib.hid (Net.turned G1.out HF2.out (by omega) (by omega)); clear G1
    have bx1_5 := HF2.out.boxN bx1 (by omega); clear bx1
    have hbA5 : Below w.heap.size w wq := (HF2.out.below_of hbA (by omega) (by omega)); clear hbA HF2
    obtain ⟨i1, hi1', hz1⟩ := Option.map_eq_some_iff.1 Tryz.info3
    simp only [Prod.mk.injEq] at hz1
    obtain ⟨hz1a, hz1b, hz1c⟩ := hz1
    have HI1 := Lib.hid hz1a; have HI2 := Lib.hid hz1b; have HI3 := Lib.hid hz1c; have HII := Lib.hid hi1'
    clear hz1a hz1b hz1c hi1'
    go_wp2_with fail
    go_loopw [65, 13] (fun kv ov wr => ∃ (k : Nat) (cs : List Int), k ≤ out.length ∧ kv = .int .i64 k ∧ Hid (OwnI wr wq.heap.size 3 ov cs) ∧ Hid (cs = codeTo N out k) ∧ Hid (Turned wq.heap.size wq.heap.size wq wr)) (fun kv ov _ => out.length - (intOf kv).toNat)
    case atStart => exact ⟨0, [], Nat.zero_le _, rfl, Lib.hid (OwnI.nil _ _ _), Lib.hid rfl, Lib.hid (Turned.refl wq.heap.size wq.heap.size wq)⟩
    case round =>
      obtain ⟨k, cs, hk, rfl, HV, HC, HF6⟩ := hrel
      have hs6 := HF6.out.size
      obtain ⟨wp, rfl⟩ : ∃ wp : World, wp = wr := ⟨_, rfl⟩
      have hcl := codeTo_len HG.out HL.out k hk
      rw [← HC.out] at hcl
      obtain ⟨Ax, cx, rfl, hcx, hdx⟩ := HV.out.ints.dims
      by_cases hlt : k < out.length
      case neg =>
        obtain rfl : k = out.length := by omega
        have HCE := Lib.hid (show codeN N out = cs by rw [HC.out]; rfl)
        go_wp2_with fail
        go_ret2
        rw [HLL.out]
        refine ⟨_, _, wq.heap.size, rfl, by omega, by omega, ?_, ?_, (HF6.out.below_of hbA5 (by omega) (by omega))⟩
        · exact IntS.mono (IntS.turned HOI.out HF6.out (by omega) (by omega)) (by omega) (Nat.le_refl _)
        · rw [HCE.out]; exact HV.out.ints
      obtain ⟨u, hu, hun⟩ := HL.out.at_ hlt
      obtain ⟨b5, o5, rfl, _, _, x5, _⟩ := IntS.opened (IntS.turned HOI.out HF6.out (by omega) (by omega)) hlt
      have HCS := Lib.hid (codeTo_succ N out hlt hu)
      rw [← HC.out] at HCS
      rw [hu] at x5
      clear hu
      have hki : (k : Int) < out.length := by omega
      have hui : (u : Int) < N.ends.length := by omega
      have hd6 := good_deg HG.out hun
      obtain ⟨hd, HHD⟩ : ∃ hd, Hid (codeHead N u = hd) := ⟨_, Lib.hid rfl⟩
      have hvin : (u : Int) < N.inputs.length := by rw [HNN.out]; exact hui
      have hvinn : u < N.inputs.length := by rw [HNN.out]; exact hun
      have GI := Lib.hid (netInsW N_5.out)
      obtain ⟨xi, HXI⟩ : ∃ x, Hid (nth N.inputs u = x) := ⟨_, Lib.hid rfl⟩
      obtain ⟨Aa, ca, hba, qa, hca, hda, hRa⟩ := Net.rowIn N_5.out hun
      have QA := Lib.hid qa
      have Ra := Lib.hid hRa; clear hRa qa
      go_upto_region 19 with (fail)
      clear x5
      by_cases hid : 0 < N.ids.length
      case neg =>
        have kbx1_0 : wp.cell? ⟨w.heap.size, 0, none⟩ = some (.slice (some ⟨b1, o1, none⟩) N.ends.length c1) := (HF6.out.boxN bx1_5 (by omega)).cell 0 (by simp)
        have kbx1_1 : wp.cell? ⟨w.heap.size, 1, none⟩ = some (.slice A1' N.ids.length c1') := (HF6.out.boxN bx1_5 (by omega)).cell 1 (by simp)
        have kbx1_2 : wp.cell? ⟨w.heap.size, 2, none⟩ = some (.slice (some ⟨bI, oI, none⟩) N.inputs.length c1'') := (HF6.out.boxN bx1_5 (by omega)).cell 2 (by simp)
        have hidi : ¬ (0 : Int) < N.ids.length := by omega
        have HIDE := Lib.hid (show [((nthL N.ends u).length : Int), xi, (0 : Int)] = hd by rw [← HHD.out]; unfold codeHead; rw [if_neg hid, HXI.out])
        go_wp2_with fail
        clear kbx1_0 kbx1_1 kbx1_2
        refine wp_region_U (fun w' => w'.cell? ⟨w.heap.size, 0, none⟩ = some (.slice (some ⟨b1, o1, none⟩) N.ends.length c1) ∧ w'.cell? ⟨w.heap.size, 1, none⟩ = some (.slice A1' N.ids.length c1') ∧ w'.cell? ⟨w.heap.size, 2, none⟩ = some (.slice (some ⟨bI, oI, none⟩) N.inputs.length c1'') ∧ w'.cell? ⟨b1, o1 + u, none⟩ = some (Value.slice Aa (nthL N.ends u).length ca) ∧ w'.cell? ⟨bI, oI + u, none⟩ = some (.int .i64 xi)) [] (by kernel_rfl) ?_
        refine nameU ?_
        intro W7 HW7
        have hg7 : wp.grownBy W7 none := by rw [HW7.out]; exact grown_drew _
        clear HW7
        have hs7 := hg7.size
        have HF7 := Lib.hid (HF6.out.still hg7); clear HF6
        have O7 := Lib.hid (OwnI.still HV.out hg7); clear HV
        have hS8 : W7.cell? ⟨w.heap.size, 0, none⟩ = some (.slice (some ⟨b1, o1, none⟩) N.ends.length c1) ∧ W7.cell? ⟨w.heap.size, 1, none⟩ = some (.slice A1' N.ids.length c1') ∧ W7.cell? ⟨w.heap.size, 2, none⟩ = some (.slice (some ⟨bI, oI, none⟩) N.inputs.length c1'') ∧ W7.cell? ⟨b1, o1 + u, none⟩ = some (Value.slice Aa (nthL N.ends u).length ca) ∧ W7.cell? ⟨bI, oI + u, none⟩ = some (.int .i64 xi) := ⟨(HF7.out.boxN bx1_5 (by omega)).cell 0 (by simp), (HF7.out.boxN bx1_5 (by omega)).cell 1 (by simp), (HF7.out.boxN bx1_5 (by omega)).cell 2 (by simp), ((HF7.out.cell (by omega) (by omega)).trans QA.out), (by have := (IntS.at_ (IntS.turned GI.out HF7.out (by omega) (by omega)) hvinn).1; rw [HXI.out] at this; exact this)⟩
        refine anyU_take (i := 0) (v := .slice Ax cs.length cx) rfl (by kernel_rfl) (by kernel_rfl) (by kernel_rfl) (fun _ _ _ h => h) ⟨by rfl, fun w' hS' => (by obtain ⟨s1, s2, s3, s4, s5⟩ := hS'; go_simp)⟩ hS8 ?_
        simp only [List.getElem_toArray, List.getElem_cons_zero, Act.put, List.setIfInBounds_toArray, List.set_cons_zero, List.set_cons_succ]
        refine anyU_take (i := 1) (v := .pointer (some ⟨w.heap.size, 0, none⟩)) rfl (by kernel_rfl) (by kernel_rfl) (by kernel_rfl) (fun _ _ _ h => h) ⟨by rfl, fun w' hS' => (by obtain ⟨s1, s2, s3, s4, s5⟩ := hS'; go_simp)⟩ hS8 ?_
        simp only [List.getElem_toArray, List.getElem_cons_succ, List.getElem_cons_zero, Act.put, List.setIfInBounds_toArray, List.set_cons_zero, List.set_cons_succ]
        refine anyU_take (i := 2) (v := .slice (some ⟨b1, o1, none⟩) N.ends.length c1) rfl (by kernel_rfl) (by kernel_rfl) (by kernel_rfl) (fun _ _ _ h => h) ⟨by rfl, fun w' hS' => (by obtain ⟨s1, s2, s3, s4, s5⟩ := hS'; go_simp)⟩ hS8 ?_
        simp only [List.getElem_toArray, List.getElem_cons_succ, List.getElem_cons_zero, Act.put, List.setIfInBounds_toArray, List.set_cons_zero, List.set_cons_succ]
        refine anyU_take (i := 3) (v := .int .i64 u) rfl (by kernel_rfl) (by kernel_rfl) (by kernel_rfl) (fun _ _ _ h => h) ⟨by rfl, fun w' hS' => (by obtain ⟨s1, s2, s3, s4, s5⟩ := hS'; go_simp)⟩ hS8 ?_
        simp only [List.getElem_toArray, List.getElem_cons_succ, List.getElem_cons_zero, Act.put, List.setIfInBounds_toArray, List.set_cons_zero, List.set_cons_succ]
        refine anyU_take (i := 4) (v := .pointer (some ⟨b1, o1 + u, none⟩)) rfl (by kernel_rfl) (by kernel_rfl) (by kernel_rfl) (fun _ _ _ h => h) ⟨by rfl, fun w' hS' => (by obtain ⟨s1, s2, s3, s4, s5⟩ := hS'; simp [go_sem, hui])⟩ hS8 ?_
        simp only [List.getElem_toArray, List.getElem_cons_succ, List.getElem_cons_zero, Act.put, List.setIfInBounds_toArray, List.set_cons_zero, List.set_cons_succ]
        refine anyU_take (i := 5) (v := Value.slice Aa (nthL N.ends u).length ca) rfl (by kernel_rfl) (by kernel_rfl) (by kernel_rfl) (fun _ _ _ h => h) ⟨by rfl, fun w' hS' => (by obtain ⟨s1, s2, s3, s4, s5⟩ := hS'; go_simp)⟩ hS8 ?_
        simp only [List.getElem_toArray, List.getElem_cons_succ, List.getElem_cons_zero, Act.put, List.setIfInBounds_toArray, List.set_cons_zero, List.set_cons_succ]
        refine anyU_take (i := 6) (v := .int .i64 (nthL N.ends u).length) rfl (by kernel_rfl) (by kernel_rfl) (by kernel_rfl) (fun _ _ _ h => h) ⟨by rfl, fun w' hS' => (by obtain ⟨s1, s2, s3, s4, s5⟩ := hS'; go_simp)⟩ hS8 ?_
        simp only [List.getElem_toArray, List.getElem_cons_succ, List.getElem_cons_zero, Act.put, List.setIfInBounds_toArray, List.set_cons_zero, List.set_cons_succ]
        refine anyU_take (i := 7) (v := .pointer (some ⟨w.heap.size, 2, none⟩)) rfl (by kernel_rfl) (by kernel_rfl) (by kernel_rfl) (fun _ _ _ h => h) ⟨by rfl, fun w' hS' => (by obtain ⟨s1, s2, s3, s4, s5⟩ := hS'; go_simp)⟩ hS8 ?_
        simp only [List.getElem_toArray, List.getElem_cons_succ, List.getElem_cons_zero, Act.put, List.setIfInBounds_toArray, List.set_cons_zero, List.set_cons_succ]
        refine anyU_take (i := 8) (v := .slice (some ⟨bI, oI, none⟩) N.inputs.length c1'') rfl (by kernel_rfl) (by kernel_rfl) (by kernel_rfl) (fun _ _ _ h => h) ⟨by rfl, fun w' hS' => (by obtain ⟨s1, s2, s3, s4, s5⟩ := hS'; go_simp)⟩ hS8 ?_
        simp only [List.getElem_toArray, List.getElem_cons_succ, List.getElem_cons_zero, Act.put, List.setIfInBounds_toArray, List.set_cons_zero, List.set_cons_succ]
        refine anyU_take (i := 9) (v := .int .i64 u) rfl (by kernel_rfl) (by kernel_rfl) (by kernel_rfl) (fun _ _ _ h => h) ⟨by rfl, fun w' hS' => (by obtain ⟨s1, s2, s3, s4, s5⟩ := hS'; go_simp)⟩ hS8 ?_
        simp only [List.getElem_toArray, List.getElem_cons_succ, List.getElem_cons_zero, Act.put, List.setIfInBounds_toArray, List.set_cons_zero, List.set_cons_succ]
        refine anyU_take (i := 10) (v := .pointer (some ⟨bI, oI + u, none⟩)) rfl (by kernel_rfl) (by kernel_rfl) (by kernel_rfl) (fun _ _ _ h => h) ⟨by rfl, fun w' hS' => (by obtain ⟨s1, s2, s3, s4, s5⟩ := hS'; simp [go_sem, hvin])⟩ hS8 ?_
        simp only [List.getElem_toArray, List.getElem_cons_succ, List.getElem_cons_zero, Act.put, List.setIfInBounds_toArray, List.set_cons_zero, List.set_cons_succ]
        refine anyU_take (i := 11) (v := .int .i64 xi) rfl (by kernel_rfl) (by kernel_rfl) (by kernel_rfl) (fun _ _ _ h => h) ⟨by rfl, fun w' hS' => (by obtain ⟨s1, s2, s3, s4, s5⟩ := hS'; go_simp)⟩ hS8 ?_
        simp only [List.getElem_toArray, List.getElem_cons_succ, List.getElem_cons_zero, Act.put, List.setIfInBounds_toArray, List.set_cons_zero, List.set_cons_succ]
        refine anyU_take (i := 12) (v := .int .i64 (0 : Int)) rfl (by kernel_rfl) (by kernel_rfl) (by kernel_rfl) (fun _ _ _ h => h) ⟨by rfl, fun w' hS' => (by obtain ⟨s1, s2, s3, s4, s5⟩ := hS'; go_simp)⟩ hS8 ?_
        simp only [List.getElem_toArray, List.getElem_cons_succ, List.getElem_cons_zero, Act.put, List.setIfInBounds_toArray, List.set_cons_zero, List.set_cons_succ]
        refine anyU_ready (rs := [13]) (by kernel_rfl) (by simp) ?_
        refine ReadyU.cons (i := 13) rfl (fun K hK => ?_) ReadyU.nil
        simp only [List.getElem_toArray, List.getElem_cons_succ, List.getElem_cons_zero]
        refine ite_is (by rfl) ?_
        simp [go_sem]
        refine hK.out _ _ ⟨fun _ => ⟨((HF7.out.boxN bx1_5 (by omega)).still (grown_alloc _ _)).cell 0 (by simp), ((HF7.out.boxN bx1_5 (by omega)).still (grown_alloc _ _)).cell 1 (by simp), ((HF7.out.boxN bx1_5 (by omega)).still (grown_alloc _ _)).cell 2 (by simp), (((HF7.out.still (grown_alloc W7 (.cells #[.int .i64 ((nthL N.ends u).length : Int), .int .i64 xi, .int .i64 (0 : Int)] 3))).cell (by omega) (by omega)).trans QA.out), (by have := (IntS.at_ (IntS.turned GI.out (HF7.out.still (grown_alloc W7 (.cells #[.int .i64 ((nthL N.ends u).length : Int), .int .i64 xi, .int .i64 (0 : Int)] 3))) (by omega) (by omega)) hvinn).1; rw [HXI.out] at this; exact this)⟩, ?_⟩
        clear hK K
        try simp only [List.getElem_toArray, List.getElem_cons_succ, List.getElem_cons_zero, Act.put, List.setIfInBounds_toArray, List.set_cons_zero, List.set_cons_succ]
        refine nameU ?_
        intro W9 HW9
        have hg9 : W7.grownBy W9 none := by rw [HW9.out]; exact grown_alloc _ _
        have BV9 := Lib.hid (show BoxN W9 W7.heap.size #[.int .i64 ((nthL N.ends u).length : Int), .int .i64 xi, .int .i64 (0 : Int)] 3 by rw [HW9.out]; exact BoxN.new _ _ _)
        have hz9 : W7.heap.size < W9.heap.size := BV9.out.lt
        clear HW9
        have hs9 := hg9.size
        have HF9 := Lib.hid (HF7.out.still hg9); clear HF7
        have O9 := Lib.hid (OwnI.still O7.out hg9); clear O7
        have hS10 : W9.cell? ⟨w.heap.size, 0, none⟩ = some (.slice (some ⟨b1, o1, none⟩) N.ends.length c1) ∧ W9.cell? ⟨w.heap.size, 1, none⟩ = some (.slice A1' N.ids.length c1') ∧ W9.cell? ⟨w.heap.size, 2, none⟩ = some (.slice (some ⟨bI, oI, none⟩) N.inputs.length c1'') ∧ W9.cell? ⟨b1, o1 + u, none⟩ = some (Value.slice Aa (nthL N.ends u).length ca) ∧ W9.cell? ⟨bI, oI + u, none⟩ = some (.int .i64 xi) := ⟨(HF9.out.boxN bx1_5 (by omega)).cell 0 (by simp), (HF9.out.boxN bx1_5 (by omega)).cell 1 (by simp), (HF9.out.boxN bx1_5 (by omega)).cell 2 (by simp), ((HF9.out.cell (by omega) (by omega)).trans QA.out), (by have := (IntS.at_ (IntS.turned GI.out HF9.out (by omega) (by omega)) hvinn).1; rw [HXI.out] at this; exact this)⟩
        clear hS8
        have LOX := Lib.hid O9.out.lt
        refine anyU_ready (rs := [14]) (by kernel_rfl) (by simp) ?_
        refine ReadyU.cons (i := 14) rfl (fun K hK => ?_) ReadyU.nil
        refine step_append_lies W9 (by rfl) _ _ _ (by rfl) wq.heap.size 3 i1 _ 1 _ Tryz.underlying23 HII.out HI1.out HI2.out HI3.out rfl (by omega) (.slice Ax cs.length cx) _ (cs.map (Value.int .i64)) (by rfl) O9.out ⟨W7.heap.size, 0, none⟩ 3 3 [.int .i64 ((nthL N.ends u).length : Int), .int .i64 xi, .int .i64 (0 : Int)] (by rfl) (by rfl) (World.news_of_block BV9.out) (by simp [Value.oneCell']) (by omega) (by rw [List.length_map]; unfold maxLen; omega) (by rw [List.length_map]; omega) (by omega) _ rfl ?_
        intro gp cp W11 hown hg11 hatp hltp
        simp only [List.length_map] at hown ⊢
        have hs11 := hg11.size
        have HF11 := Lib.hid (HF9.out.grown hg11 (fun g e => by have := LOX.out g e; omega)); clear HF9
        have HOO11 := Lib.hid (own_appL (qs := [((nthL N.ends u).length : Int), xi, (0 : Int)]) (n := 3) rfl hown)
        clear hown LOX hatp hltp BV9
        have hS12 : W11.cell? ⟨w.heap.size, 0, none⟩ = some (.slice (some ⟨b1, o1, none⟩) N.ends.length c1) ∧ W11.cell? ⟨w.heap.size, 1, none⟩ = some (.slice A1' N.ids.length c1') ∧ W11.cell? ⟨w.heap.size, 2, none⟩ = some (.slice (some ⟨bI, oI, none⟩) N.inputs.length c1'') ∧ W11.cell? ⟨b1, o1 + u, none⟩ = some (Value.slice Aa (nthL N.ends u).length ca) ∧ W11.cell? ⟨bI, oI + u, none⟩ = some (.int .i64 xi) := ⟨(HF11.out.boxN bx1_5 (by omega)).cell 0 (by simp), (HF11.out.boxN bx1_5 (by omega)).cell 1 (by simp), (HF11.out.boxN bx1_5 (by omega)).cell 2 (by simp), ((HF11.out.cell (by omega) (by omega)).trans QA.out), (by have := (IntS.at_ (IntS.turned GI.out HF11.out (by omega) (by omega)) hvinn).1; rw [HXI.out] at this; exact this)⟩
        refine hK.out _ _ ⟨fun _ => hS12, ?_⟩
        clear hK K hS10
        try simp only [List.getElem_toArray, List.getElem_cons_succ, List.getElem_cons_zero, Act.put, List.setIfInBounds_toArray, List.set_cons_zero, List.set_cons_succ]
        refine anyU_ready (rs := [15]) (by kernel_rfl) (by simp) ?_
        refine ReadyU.cons (i := 15) rfl (fun K hK => ?_) ReadyU.nil
        simp only [List.getElem_toArray, List.getElem_cons_succ, List.getElem_cons_zero]
        refine ite_is (by rfl) ?_
        simp [go_sem]
        refine hK.out _ _ ⟨fun _ => hS12, ?_⟩
        clear hK K
        try simp only [List.getElem_toArray, List.getElem_cons_succ, List.getElem_cons_zero, Act.put, List.setIfInBounds_toArray, List.set_cons_zero, List.set_cons_succ]
        clear hS12
        refine anyU_done (by kernel_rfl) ?_ _
        have HHE := Lib.hid (show [((nthL N.ends u).length : Int), xi, (0 : Int)] = hd from HIDE.out)
        have hhl : hd.length = 3 := by rw [← HHE.out]; rfl
        have hcsl : (cs ++ [((nthL N.ends u).length : Int), xi, (0 : Int)]).length = cs.length + 3 := by simp
        rw [HHE.out] at HOO11 hcsl
        have kbx1_0 : W11.cell? ⟨w.heap.size, 0, none⟩ = some (.slice (some ⟨b1, o1, none⟩) N.ends.length c1) := (HF11.out.boxN bx1_5 (by omega)).cell 0 (by simp)
        have kbx1_1 : W11.cell? ⟨w.heap.size, 1, none⟩ = some (.slice A1' N.ids.length c1') := (HF11.out.boxN bx1_5 (by omega)).cell 1 (by simp)
        have kbx1_2 : W11.cell? ⟨w.heap.size, 2, none⟩ = some (.slice (some ⟨bI, oI, none⟩) N.inputs.length c1'') := (HF11.out.boxN bx1_5 (by omega)).cell 2 (by simp)
        have qa2 : W11.cell? ⟨b1, o1 + u, none⟩ = some (Value.slice Aa (nthL N.ends u).length ca) := ((HF11.out.cell (by omega) (by omega)).trans QA.out)
        go_wp2_with fail
        clear qa2 kbx1_0 kbx1_1 kbx1_2
        go_loopw [99, 13] (fun mv ov wr => ∃ (m : Nat) (ds : List Int), m ≤ (nthL N.ends u).length ∧ mv = .int .i64 m ∧ Hid (OwnI wr wq.heap.size 3 ov ds) ∧ Hid (ds = cs ++ hd ++ codeRow N out u m) ∧ Hid (Turned wq.heap.size wq.heap.size wq wr)) (fun mv ov _ => (nthL N.ends u).length - (intOf mv).toNat)
        case atStart => exact ⟨0, _, Nat.zero_le _, rfl, HOO11, Lib.hid (by simp [codeRow]), HF11⟩
        case round =>
          clear HF11
          obtain ⟨m, ds, hm, rfl, HV, HD, HF13⟩ := hrel
          have hs13 := HF13.out.size
          obtain ⟨wt, rfl⟩ : ∃ wt : World, wt = wr := ⟨_, rfl⟩
          have hcr := codeRow_len N out u m
          have hdl : ds.length ≤ 700 := by rw [HD.out, List.length_append, List.length_append]; omega
          obtain ⟨Ay, cy, rfl, hcy, hdy⟩ := HV.out.ints.dims
          have HLV := Lib.hid HV.out.lt
          by_cases hml : m < (nthL N.ends u).length
          case neg =>
            obtain rfl : m = (nthL N.ends u).length := by omega
            have HDE := Lib.hid (show ds = codeTo N out (k + 1) by rw [HD.out, HCS.out, HHD.out, List.append_assoc])
            go_wp2_with fail
            go_roundw
            case rel => exact ⟨k + 1, ds, by omega, by go_num, HV, HDE, HF13⟩
            case measure => simp [intOf]; omega
          obtain ⟨ba, oa, rfl, _, hba', ea, ea'⟩ := (EndS.turned Ra.out HF13.out (by omega) (by omega)).opened hml
          obtain ⟨t, r, eta, ht, hr, eua⟩ := good_end HG.out hun hml
          rw [eta] at ea ea'
          dsimp only at ea ea'
          have ETa := Lib.hid eta
          have EUa := Lib.hid eua
          clear eta eua
          go_upto_region 25 with (fail)
          refine nameC ?_
          intro W14 HW14
          have hg14 : wt.grownBy W14 none := by rw [HW14.out]; exact grown_alloc _ _
          have hs14 := hg14.size
          have HF14 := Lib.hid (HF13.out.still hg14); clear HF13
          have O14 := Lib.hid (OwnI.still HV.out hg14); clear HV
          have bxe14 := Lib.hid (show BoxN W14 wt.heap.size #[.int .i64 t, .int .i64 r] 66 by rw [HW14.out]; exact BoxN.new _ _ _)
          clear HW14
          clear ea ea'
          have hlk := (MpN.kept HM.out (HF14.out.grownM (by omega)) (by simp)).look (x := (t : Int)) (by unfold I64; omega)
          have hrk := good_deg HG.out ht
          obtain ⟨num, HNUM⟩ : ∃ x, Hid (numV out (t : Int) = x) := ⟨_, Lib.hid rfl⟩
          rw [HNUM.out] at hlk
          have HRS := Lib.hid (show cs ++ hd ++ codeRow N out u (m + 1) = ds ++ [num, (r : Int)] by rw [codeRow_succ N out u hml, ETa.out, HD.out]; simp only [List.append_assoc]; rw [HNUM.out])
          have kbxe_0 : W14.cell? ⟨wt.heap.size, 0, none⟩ = some (.int .i64 t) := bxe14.out.cell 0 (by simp)
          have kbxe_1 : W14.cell? ⟨wt.heap.size, 1, none⟩ = some (.int .i64 r) := bxe14.out.cell 1 (by simp)
          go_wp2_with (at_builtin; refine append_int2 (s := .tmp 103) Tryz.underlying23 Tryz.info3 (by decide) W14 rfl _ rfl O14.out num r _ rfl (by simp [Act.eval, go_sem]) (by omega) (by omega) ?_; intro v' w' ho' hg' hat')
          go_roundw
          case rel => exact ⟨m + 1, _, by omega, by go_num, Lib.hid (by rw [HRS.out]; exact ho'), Lib.hid rfl, Lib.hid (HF14.out.grown hg' fun g hg => .inr (by have := HLV.out g hg; omega))⟩
          case measure => simp [intOf]; omega
      have hidi : (0 : Int) < N.ids.length := by omega
      have hidn : N.ids.length = N.ends.length := by have := HNI.out; omega
      have hvid : (u : Int) < N.ids.length := by rw [hidn]; exact hui
      have hvidn : u < N.ids.length := by rw [hidn]; exact hun
      have HIDN := Lib.hid hidn; clear hidn
      have GD := Lib.hid (netIdsW N_5.out)
      obtain ⟨bD, oD, rfl, _, hbD, _, _⟩ := GD.out.opened (j := 0) hid
      obtain ⟨xd, HXD⟩ : ∃ x, Hid (nth N.ids u = x) := ⟨_, Lib.hid rfl⟩
      have HIDE := Lib.hid (show [((nthL N.ends u).length : Int), xi, xd] = hd by rw [← HHD.out]; unfold codeHead; rw [if_pos hid, HXI.out, HXD.out])
      have xd1 := (IntS.at_ (IntS.turned GD.out HF6.out (by omega) (by omega)) hvidn).1
      rw [HXD.out] at xd1
      have kbx1_0 : wp.cell? ⟨w.heap.size, 0, none⟩ = some (.slice (some ⟨b1, o1, none⟩) N.ends.length c1) := (HF6.out.boxN bx1_5 (by omega)).cell 0 (by simp)
      have kbx1_1 : wp.cell? ⟨w.heap.size, 1, none⟩ = some (.slice (some ⟨bD, oD, none⟩) N.ids.length c1') := (HF6.out.boxN bx1_5 (by omega)).cell 1 (by simp)
      have kbx1_2 : wp.cell? ⟨w.heap.size, 2, none⟩ = some (.slice (some ⟨bI, oI, none⟩) N.inputs.length c1'') := (HF6.out.boxN bx1_5 (by omega)).cell 2 (by simp)
      go_wp2_with fail
      clear xd1 kbx1_0 kbx1_1 kbx1_2
      refine wp_region_U (fun w' => w'.cell? ⟨w.heap.size, 0, none⟩ = some (.slice (some ⟨b1, o1, none⟩) N.ends.length c1) ∧ w'.cell? ⟨w.heap.size, 1, none⟩ = some (.slice (some ⟨bD, oD, none⟩) N.ids.length c1') ∧ w'.cell? ⟨w.heap.size, 2, none⟩ = some (.slice (some ⟨bI, oI, none⟩) N.inputs.length c1'') ∧ w'.cell? ⟨b1, o1 + u, none⟩ = some (Value.slice Aa (nthL N.ends u).length ca) ∧ w'.cell? ⟨bI, oI + u, none⟩ = some (.int .i64 xi)) [] (by kernel_rfl) ?_
      refine nameU ?_
      intro W15 HW15
      have hg15 : wp.grownBy W15 none := by rw [HW15.out]; exact grown_drew _
      clear HW15
      have hs15 := hg15.size
      have HF15 := Lib.hid (HF6.out.still hg15); clear HF6
      have O15 := Lib.hid (OwnI.still HV.out hg15); clear HV
      have hS16 : W15.cell? ⟨w.heap.size, 0, none⟩ = some (.slice (some ⟨b1, o1, none⟩) N.ends.length c1) ∧ W15.cell? ⟨w.heap.size, 1, none⟩ = some (.slice (some ⟨bD, oD, none⟩) N.ids.length c1') ∧ W15.cell? ⟨w.heap.size, 2, none⟩ = some (.slice (some ⟨bI, oI, none⟩) N.inputs.length c1'') ∧ W15.cell? ⟨b1, o1 + u, none⟩ = some (Value.slice Aa (nthL N.ends u).length ca) ∧ W15.cell? ⟨bI, oI + u, none⟩ = some (.int .i64 xi) := ⟨(HF15.out.boxN bx1_5 (by omega)).cell 0 (by simp), (HF15.out.boxN bx1_5 (by omega)).cell 1 (by simp), (HF15.out.boxN bx1_5 (by omega)).cell 2 (by simp), ((HF15.out.cell (by omega) (by omega)).trans QA.out), (by have := (IntS.at_ (IntS.turned GI.out HF15.out (by omega) (by omega)) hvinn).1; rw [HXI.out] at this; exact this)⟩
      refine anyU_take (i := 0) (v := .slice Ax cs.length cx) rfl (by kernel_rfl) (by kernel_rfl) (by kernel_rfl) (fun _ _ _ h => h) ⟨by rfl, fun w' hS' => (by obtain ⟨s1, s2, s3, s4, s5⟩ := hS'; go_simp)⟩ hS16 ?_
      simp only [List.getElem_toArray, List.getElem_cons_zero, Act.put, List.setIfInBounds_toArray, List.set_cons_zero, List.set_cons_succ]
      refine anyU_take (i := 1) (v := .pointer (some ⟨w.heap.size, 0, none⟩)) rfl (by kernel_rfl) (by kernel_rfl) (by kernel_rfl) (fun _ _ _ h => h) ⟨by rfl, fun w' hS' => (by obtain ⟨s1, s2, s3, s4, s5⟩ := hS'; go_simp)⟩ hS16 ?_
      simp only [List.getElem_toArray, List.getElem_cons_succ, List.getElem_cons_zero, Act.put, List.setIfInBounds_toArray, List.set_cons_zero, List.set_cons_succ]
      refine anyU_take (i := 2) (v := .slice (some ⟨b1, o1, none⟩) N.ends.length c1) rfl (by kernel_rfl) (by kernel_rfl) (by kernel_rfl) (fun _ _ _ h => h) ⟨by rfl, fun w' hS' => (by obtain ⟨s1, s2, s3, s4, s5⟩ := hS'; go_simp)⟩ hS16 ?_
      simp only [List.getElem_toArray, List.getElem_cons_succ, List.getElem_cons_zero, Act.put, List.setIfInBounds_toArray, List.set_cons_zero, List.set_cons_succ]
      refine anyU_take (i := 3) (v := .int .i64 u) rfl (by kernel_rfl) (by kernel_rfl) (by kernel_rfl) (fun _ _ _ h => h) ⟨by rfl, fun w' hS' => (by obtain ⟨s1, s2, s3, s4, s5⟩ := hS'; go_simp)⟩ hS16 ?_
      simp only [List.getElem_toArray, List.getElem_cons_succ, List.getElem_cons_zero, Act.put, List.setIfInBounds_toArray, List.set_cons_zero, List.set_cons_succ]
      refine anyU_take (i := 4) (v := .pointer (some ⟨b1, o1 + u, none⟩)) rfl (by kernel_rfl) (by kernel_rfl) (by kernel_rfl) (fun _ _ _ h => h) ⟨by rfl, fun w' hS' => (by obtain ⟨s1, s2, s3, s4, s5⟩ := hS'; simp [go_sem, hui])⟩ hS16 ?_
      simp only [List.getElem_toArray, List.getElem_cons_succ, List.getElem_cons_zero, Act.put, List.setIfInBounds_toArray, List.set_cons_zero, List.set_cons_succ]
      refine anyU_take (i := 5) (v := Value.slice Aa (nthL N.ends u).length ca) rfl (by kernel_rfl) (by kernel_rfl) (by kernel_rfl) (fun _ _ _ h => h) ⟨by rfl, fun w' hS' => (by obtain ⟨s1, s2, s3, s4, s5⟩ := hS'; go_simp)⟩ hS16 ?_
      simp only [List.getElem_toArray, List.getElem_cons_succ, List.getElem_cons_zero, Act.put, List.setIfInBounds_toArray, List.set_cons_zero, List.set_cons_succ]
      refine anyU_take (i := 6) (v := .int .i64 (nthL N.ends u).length) rfl (by kernel_rfl) (by kernel_rfl) (by kernel_rfl) (fun _ _ _ h => h) ⟨by rfl, fun w' hS' => (by obtain ⟨s1, s2, s3, s4, s5⟩ := hS'; go_simp)⟩ hS16 ?_
      simp only [List.getElem_toArray, List.getElem_cons_succ, List.getElem_cons_zero, Act.put, List.setIfInBounds_toArray, List.set_cons_zero, List.set_cons_succ]
      refine anyU_take (i := 7) (v := .pointer (some ⟨w.heap.size, 2, none⟩)) rfl (by kernel_rfl) (by kernel_rfl) (by kernel_rfl) (fun _ _ _ h => h) ⟨by rfl, fun w' hS' => (by obtain ⟨s1, s2, s3, s4, s5⟩ := hS'; go_simp)⟩ hS16 ?_
      simp only [List.getElem_toArray, List.getElem_cons_succ, List.getElem_cons_zero, Act.put, List.setIfInBounds_toArray, List.set_cons_zero, List.set_cons_succ]
      refine anyU_take (i := 8) (v := .slice (some ⟨bI, oI, none⟩) N.inputs.length c1'') rfl (by kernel_rfl) (by kernel_rfl) (by kernel_rfl) (fun _ _ _ h => h) ⟨by rfl, fun w' hS' => (by obtain ⟨s1, s2, s3, s4, s5⟩ := hS'; go_simp)⟩ hS16 ?_
      simp only [List.getElem_toArray, List.getElem_cons_succ, List.getElem_cons_zero, Act.put, List.setIfInBounds_toArray, List.set_cons_zero, List.set_cons_succ]
      refine anyU_take (i := 9) (v := .int .i64 u) rfl (by kernel_rfl) (by kernel_rfl) (by kernel_rfl) (fun _ _ _ h => h) ⟨by rfl, fun w' hS' => (by obtain ⟨s1, s2, s3, s4, s5⟩ := hS'; go_simp)⟩ hS16 ?_
      simp only [List.getElem_toArray, List.getElem_cons_succ, List.getElem_cons_zero, Act.put, List.setIfInBounds_toArray, List.set_cons_zero, List.set_cons_succ]
      refine anyU_take (i := 10) (v := .pointer (some ⟨bI, oI + u, none⟩)) rfl (by kernel_rfl) (by kernel_rfl) (by kernel_rfl) (fun _ _ _ h => h) ⟨by rfl, fun w' hS' => (by obtain ⟨s1, s2, s3, s4, s5⟩ := hS'; simp [go_sem, hvin])⟩ hS16 ?_
      simp only [List.getElem_toArray, List.getElem_cons_succ, List.getElem_cons_zero, Act.put, List.setIfInBounds_toArray, List.set_cons_zero, List.set_cons_succ]
      refine anyU_take (i := 11) (v := .int .i64 xi) rfl (by kernel_rfl) (by kernel_rfl) (by kernel_rfl) (fun _ _ _ h => h) ⟨by rfl, fun w' hS' => (by obtain ⟨s1, s2, s3, s4, s5⟩ := hS'; go_simp)⟩ hS16 ?_
      simp only [List.getElem_toArray, List.getElem_cons_succ, List.getElem_cons_zero, Act.put, List.setIfInBounds_toArray, List.set_cons_zero, List.set_cons_succ]
      refine anyU_take (i := 12) (v := .int .i64 xd) rfl (by kernel_rfl) (by kernel_rfl) (by kernel_rfl) (fun _ _ _ h => h) ⟨by rfl, fun w' hS' => (by obtain ⟨s1, s2, s3, s4, s5⟩ := hS'; go_simp)⟩ hS16 ?_
      simp only [List.getElem_toArray, List.getElem_cons_succ, List.getElem_cons_zero, Act.put, List.setIfInBounds_toArray, List.set_cons_zero, List.set_cons_succ]
      refine anyU_ready (rs := [13]) (by kernel_rfl) (by simp) ?_
      refine ReadyU.cons (i := 13) rfl (fun K hK => ?_) ReadyU.nil
      simp only [List.getElem_toArray, List.getElem_cons_succ, List.getElem_cons_zero]
      refine ite_is (by rfl) ?_
      simp [go_sem]
      refine hK.out _ _ ⟨fun _ => ⟨((HF15.out.boxN bx1_5 (by omega)).still (grown_alloc _ _)).cell 0 (by simp), ((HF15.out.boxN bx1_5 (by omega)).still (grown_alloc _ _)).cell 1 (by simp), ((HF15.out.boxN bx1_5 (by omega)).still (grown_alloc _ _)).cell 2 (by simp), (((HF15.out.still (grown_alloc W15 (.cells #[.int .i64 ((nthL N.ends u).length : Int), .int .i64 xi, .int .i64 xd] 3))).cell (by omega) (by omega)).trans QA.out), (by have := (IntS.at_ (IntS.turned GI.out (HF15.out.still (grown_alloc W15 (.cells #[.int .i64 ((nthL N.ends u).length : Int), .int .i64 xi, .int .i64 xd] 3))) (by omega) (by omega)) hvinn).1; rw [HXI.out] at this; exact this)⟩, ?_⟩
      clear hK K
      try simp only [List.getElem_toArray, List.getElem_cons_succ, List.getElem_cons_zero, Act.put, List.setIfInBounds_toArray, List.set_cons_zero, List.set_cons_succ]
      refine nameU ?_
      intro W17 HW17
      have hg17 : W15.grownBy W17 none := by rw [HW17.out]; exact grown_alloc _ _
      have BV17 := Lib.hid (show BoxN W17 W15.heap.size #[.int .i64 ((nthL N.ends u).length : Int), .int .i64 xi, .int .i64 xd] 3 by rw [HW17.out]; exact BoxN.new _ _ _)
      have hz17 : W15.heap.size < W17.heap.size := BV17.out.lt
      clear HW17
      have hs17 := hg17.size
      have HF17 := Lib.hid (HF15.out.still hg17); clear HF15
      have O17 := Lib.hid (OwnI.still O15.out hg17); clear O15
      have hS18 : W17.cell? ⟨w.heap.size, 0, none⟩ = some (.slice (some ⟨b1, o1, none⟩) N.ends.length c1) ∧ W17.cell? ⟨w.heap.size, 1, none⟩ = some (.slice (some ⟨bD, oD, none⟩) N.ids.length c1') ∧ W17.cell? ⟨w.heap.size, 2, none⟩ = some (.slice (some ⟨bI, oI, none⟩) N.inputs.length c1'') ∧ W17.cell? ⟨b1, o1 + u, none⟩ = some (Value.slice Aa (nthL N.ends u).length ca) ∧ W17.cell? ⟨bI, oI + u, none⟩ = some (.int .i64 xi) := ⟨(HF17.out.boxN bx1_5 (by omega)).cell 0 (by simp), (HF17.out.boxN bx1_5 (by omega)).cell 1 (by simp), (HF17.out.boxN bx1_5 (by omega)).cell 2 (by simp), ((HF17.out.cell (by omega) (by omega)).trans QA.out), (by have := (IntS.at_ (IntS.turned GI.out HF17.out (by omega) (by omega)) hvinn).1; rw [HXI.out] at this; exact this)⟩
      clear hS16
      have LOX := Lib.hid O17.out.lt
      refine anyU_ready (rs := [14]) (by kernel_rfl) (by simp) ?_
      refine ReadyU.cons (i := 14) rfl (fun K hK => ?_) ReadyU.nil
      refine step_append_lies W17 (by rfl) _ _ _ (by rfl) wq.heap.size 3 i1 _ 1 _ Tryz.underlying23 HII.out HI1.out HI2.out HI3.out rfl (by omega) (.slice Ax cs.length cx) _ (cs.map (Value.int .i64)) (by rfl) O17.out ⟨W15.heap.size, 0, none⟩ 3 3 [.int .i64 ((nthL N.ends u).length : Int), .int .i64 xi, .int .i64 xd] (by rfl) (by rfl) (World.news_of_block BV17.out) (by simp [Value.oneCell']) (by omega) (by rw [List.length_map]; unfold maxLen; omega) (by rw [List.length_map]; omega) (by omega) _ rfl ?_
      intro gp cp W19 hown hg19 hatp hltp
      simp only [List.length_map] at hown ⊢
      have hs19 := hg19.size
      have HF19 := Lib.hid (HF17.out.grown hg19 (fun g e => by have := LOX.out g e; omega)); clear HF17
      have HOO19 := Lib.hid (own_appL (qs := [((nthL N.ends u).length : Int), xi, xd]) (n := 3) rfl hown)
      clear hown LOX hatp hltp BV17
      have hS20 : W19.cell? ⟨w.heap.size, 0, none⟩ = some (.slice (some ⟨b1, o1, none⟩) N.ends.length c1) ∧ W19.cell? ⟨w.heap.size, 1, none⟩ = some (.slice (some ⟨bD, oD, none⟩) N.ids.length c1') ∧ W19.cell? ⟨w.heap.size, 2, none⟩ = some (.slice (some ⟨bI, oI, none⟩) N.inputs.length c1'') ∧ W19.cell? ⟨b1, o1 + u, none⟩ = some (Value.slice Aa (nthL N.ends u).length ca) ∧ W19.cell? ⟨bI, oI + u, none⟩ = some (.int .i64 xi) := ⟨(HF19.out.boxN bx1_5 (by omega)).cell 0 (by simp), (HF19.out.boxN bx1_5 (by omega)).cell 1 (by simp), (HF19.out.boxN bx1_5 (by omega)).cell 2 (by simp), ((HF19.out.cell (by omega) (by omega)).trans QA.out), (by have := (IntS.at_ (IntS.turned GI.out HF19.out (by omega) (by omega)) hvinn).1; rw [HXI.out] at this; exact this)⟩
      refine hK.out _ _ ⟨fun _ => hS20, ?_⟩
      clear hK K hS18
      try simp only [List.getElem_toArray, List.getElem_cons_succ, List.getElem_cons_zero, Act.put, List.setIfInBounds_toArray, List.set_cons_zero, List.set_cons_succ]
      refine anyU_ready (rs := [15]) (by kernel_rfl) (by simp) ?_
      refine ReadyU.cons (i := 15) rfl (fun K hK => ?_) ReadyU.nil
      simp only [List.getElem_toArray, List.getElem_cons_succ, List.getElem_cons_zero]
      refine ite_is (by rfl) ?_
      simp [go_sem]
      refine hK.out _ _ ⟨fun _ => hS20, ?_⟩
      clear hK K
      try simp only [List.getElem_toArray, List.getElem_cons_succ, List.getElem_cons_zero, Act.put, List.setIfInBounds_toArray, List.set_cons_zero, List.set_cons_succ]
      clear hS20
      refine anyU_done (by kernel_rfl) ?_ _
      have HHE := Lib.hid (show [((nthL N.ends u).length : Int), xi, xd] = hd from HIDE.out)
      have hhl : hd.length = 3 := by rw [← HHE.out]; rfl
      have hcsl : (cs ++ [((nthL N.ends u).length : Int), xi, xd]).length = cs.length + 3 := by simp
      rw [HHE.out] at HOO19 hcsl
      have kbx1_0 : W19.cell? ⟨w.heap.size, 0, none⟩ = some (.slice (some ⟨b1, o1, none⟩) N.ends.length c1) := (HF19.out.boxN bx1_5 (by omega)).cell 0 (by simp)
      have kbx1_1 : W19.cell? ⟨w.heap.size, 1, none⟩ = some (.slice (some ⟨bD, oD, none⟩) N.ids.length c1') := (HF19.out.boxN bx1_5 (by omega)).cell 1 (by simp)
      have kbx1_2 : W19.cell? ⟨w.heap.size, 2, none⟩ = some (.slice (some ⟨bI, oI, none⟩) N.inputs.length c1'') := (HF19.out.boxN bx1_5 (by omega)).cell 2 (by simp)
      have qa2 : W19.cell? ⟨b1, o1 + u, none⟩ = some (Value.slice Aa (nthL N.ends u).length ca) := ((HF19.out.cell (by omega) (by omega)).trans QA.out)
      go_wp2_with fail
      clear qa2 kbx1_0 kbx1_1 kbx1_2
      go_loopw [99, 13] (fun mv ov wr => ∃ (m : Nat) (ds : List Int), m ≤ (nthL N.ends u).length ∧ mv = .int .i64 m ∧ Hid (OwnI wr wq.heap.size 3 ov ds) ∧ Hid (ds = cs ++ hd ++ codeRow N out u m) ∧ Hid (Turned wq.heap.size wq.heap.size wq wr)) (fun mv ov _ => (nthL N.ends u).length - (intOf mv).toNat)
      case atStart => exact ⟨0, _, Nat.zero_le _, rfl, HOO19, Lib.hid (by simp [codeRow]), HF19⟩
      case round =>
        clear HF19
        obtain ⟨m, ds, hm, rfl, HV, HD, HF21⟩ := hrel
        have hs21 := HF21.out.size
        obtain ⟨wt, rfl⟩ : ∃ wt : World, wt = wr := ⟨_, rfl⟩
        have hcr := codeRow_len N out u m
        have hdl : ds.length ≤ 700 := by rw [HD.out, List.length_append, List.length_append]; omega
        obtain ⟨Ay, cy, rfl, hcy, hdy⟩ := HV.out.ints.dims
        have HLV := Lib.hid HV.out.lt
        by_cases hml : m < (nthL N.ends u).length
        case neg =>
          obtain rfl : m = (nthL N.ends u).length := by omega
          have HDE := Lib.hid (show ds = codeTo N out (k + 1) by rw [HD.out, HCS.out, HHD.out, List.append_assoc])
          go_wp2_with fail
          go_roundw
          case rel => exact ⟨k + 1, ds, by omega, by go_num, HV, HDE, HF21⟩
          case measure => simp [intOf]; omega
        obtain ⟨ba, oa, rfl, _, hba', ea, ea'⟩ := (EndS.turned Ra.out HF21.out (by omega) (by omega)).opened hml
        obtain ⟨t, r, eta, ht, hr, eua⟩ := good_end HG.out hun hml
        rw [eta] at ea ea'
        dsimp only at ea ea'
        have ETa := Lib.hid eta
        have EUa := Lib.hid eua
        clear eta eua
        go_upto_region 25 with (fail)
        refine nameC ?_
        intro W22 HW22
        have hg22 : wt.grownBy W22 none := by rw [HW22.out]; exact grown_alloc _ _
        have hs22 := hg22.size
        have HF22 := Lib.hid (HF21.out.still hg22); clear HF21
        have O22 := Lib.hid (OwnI.still HV.out hg22); clear HV
        have bxe22 := Lib.hid (show BoxN W22 wt.heap.size #[.int .i64 t, .int .i64 r] 66 by rw [HW22.out]; exact BoxN.new _ _ _)
        clear HW22
        clear ea ea'
        have hlk := (MpN.kept HM.out (HF22.out.grownM (by omega)) (by simp)).look (x := (t : Int)) (by unfold I64; omega)
        have hrk := good_deg HG.out ht
        obtain ⟨num, HNUM⟩ : ∃ x, Hid (numV out (t : Int) = x) := ⟨_, Lib.hid rfl⟩
        rw [HNUM.out] at hlk
        have HRS := Lib.hid (show cs ++ hd ++ codeRow N out u (m + 1) = ds ++ [num, (r : Int)] by rw [codeRow_succ N out u hml, ETa.out, HD.out]; simp only [List.append_assoc]; rw [HNUM.out])
        have kbxe_0 : W22.cell? ⟨wt.heap.size, 0, none⟩ = some (.int .i64 t) := bxe22.out.cell 0 (by simp)
        have kbxe_1 : W22.cell? ⟨wt.heap.size, 1, none⟩ = some (.int .i64 r) := bxe22.out.cell 1 (by simp)
        go_wp2_with (at_builtin; refine append_int2 (s := .tmp 103) Tryz.underlying23 Tryz.info3 (by decide) W22 rfl _ rfl O22.out num r _ rfl (by simp [Act.eval, go_sem]) (by omega) (by omega) ?_; intro v' w' ho' hg' hat')
        go_roundw
        case rel => exact ⟨m + 1, _, by omega, by go_num, Lib.hid (by rw [HRS.out]; exact ho'), Lib.hid rfl, Lib.hid (HF22.out.grown hg' fun g hg => .inr (by have := HLV.out g hg; omega))⟩
        case measure => simp [intOf]; omega

end Go.Proofs.YtmdlginjblnfoaaGreat

/- Contracts: permutations, orders of a network's nodes, least free numbers (program and reference). -/
namespace Go.Proofs.YtmdlginjblnfoaaGreat
open Go.ChangeShapes Go.WideShapes Go.ChangeAt Go.RowKit
set_option linter.unusedVariables false

theorem Tryz.infoBool : (Tryz.prog.info? 4).map (fun i => (i.zero, i.size, i.bytes)) = some (some (.bool false), 1, 1) := by kernel_rfl
end Go.Proofs.YtmdlginjblnfoaaGreat

/- Components: lemmas for the walk; the contract that is wanted of slices.SortFunc. -/
namespace Go.Proofs.YtmdlginjblnfoaaGreat
open Go.ChangeShapes Go.WideShapes Go.ChangeAt Go.RowKit
set_option linter.unusedVariables false

theorem CoS.weak {enc : CmpV → List Value} {k : Nat} {w : World} {base top base' : Nat} {e : TypeId} {v : Value} {xs : List CmpV} (h : CoS enc k w base top e v xs) (hb : base' ≤ base) : CoS enc k w base' top e v xs := by
  refine ⟨?_, Nat.le_trans hb h.low, h.high, h.own, fun x hx => let ⟨lo, hi, a1, a2⟩ := h.el x hx; ⟨lo, hi, Nat.le_trans hb a1, a2⟩⟩
  obtain ⟨h1, h2⟩ := h.row
  refine ⟨h1, ?_⟩
  rcases h2 with h2 | ⟨g, cap, cur, e1, hg, hh, hn, hm, hs, ht⟩
  · exact .inl h2
  · exact .inr ⟨g, cap, cur, e1, Nat.le_trans hb hg, hh, hn, hm, hs, ht⟩
theorem ElOk.still {w w' : World} {lo hi : Nat} {x : CmpV} (h : ElOk w lo hi x) (hg : w.grownBy w' none) (hB : hi ≤ w.heap.size) : ElOk w' lo hi x := h.far hg hB (no_row _ _)
theorem cmpL_neg {a b : List Int} (h : ltL a b = true) : cmpL a b = -1 := by unfold cmpL; rw [if_pos h]
theorem cmpL_zero (a : List Int) : cmpL a a = 0 := by unfold cmpL; rw [ltL_irr, if_neg (by decide), if_pos rfl]
theorem cmpL_pos {a b : List Int} (h : ¬ ltL a b = true) (hne : a ≠ b) : cmpL a b = 1 := by unfold cmpL; rw [if_neg h, if_neg hne]
theorem nodes_mem {N : NetD} (hg : N.good = true) {v : Nat} (hv : v < N.ends.length) {j : Nat} (hj : j < (nodesOf N v).length) : ∃ t : Nat, nth (nodesOf N v) j = t ∧ t < N.ends.length := by
  have h := nth_mem hj
  unfold nodesOf at h
  rw [(sortI_perm _).mem_iff] at h
  exact (walk_ok (good_nodes hg) hv).node _ h
theorem nodes_len {N : NetD} (hg : N.good = true) {v : Nat} (hv : v < N.ends.length) : (nodesOf N v).length ≤ N.ends.length := by
  unfold nodesOf; rw [sortI_length]; exact (walk_ok (good_nodes hg) hv).len
/-- what a component in the making is like -/
theorem compTo_walk {N : NetD} (hg : N.good = true) {v : Nat} (hv : v < N.ends.length) : ∀ k, k ≤ (nodesOf N v).length → ((compTo N v k).cnt = 0 ∧ (compTo N v k).code = [] ∧ (compTo N v k).walk = []) ∨ (0 < (compTo N v k).cnt ∧ 0 < (compTo N v k).walk.length ∧ (compTo N v k).cnt ≤ k ∧ (compTo N v k).code.length ≤ 600 ∧ (compTo N v k).walk.length ≤ 40)
  | 0, _ => .inl ⟨rfl, rfl, rfl⟩
  | k + 1, h => by
    have ih := compTo_walk hg hv k (by omega)
    obtain ⟨t, et, ht⟩ := nodes_mem hg hv (show k < (nodesOf N v).length by omega)
    have hok := walk_ok (good_nodes hg) ht
    have hp := walk_pos (good_nodes hg) ht
    have hlen := hok.len
    have hn := (good_n hg).2
    rw [compTo_succ N v (by omega), et]
    right
    unfold cmpStep
    rw [Int.toNat_natCast]
    split
    · refine ⟨by show 0 < 1; omega, List.length_pos_of_mem hp, by show 1 ≤ k + 1; omega, ?_, by show (walkN N t).length ≤ 40; omega⟩
      have := codeTo_len hg hok _ (Nat.le_refl _)
      show (codeTo N (walkN N t) (walkN N t).length).length ≤ 600
      omega
    · rename_i h1
      have h0 : (compTo N v k).cnt ≠ 0 := fun e => h1 (.inl e)
      rcases ih with ih | ⟨i1, i2, i3, i4, i5⟩
      · exact absurd ih.1 h0
      · split
        · exact ⟨by show 0 < _ + 1; omega, i2, by show _ + 1 ≤ k + 1; omega, i4, i5⟩
        · exact ⟨i1, i2, by omega, i4, i5⟩
theorem stC_node {N : NetD} (hg : N.good = true) : ∀ k, k ≤ N.ends.length → (stC N k).1.length ≤ k
  | 0, _ => Nat.le_refl _
  | k + 1, h => by
    have ih := stC_node hg k (by omega)
    simp only [stC]
    split
    · omega
    · rw [List.length_append]; simp; omega
theorem infoCo : (Tryz.prog.info? 53).map (fun i => (i.zero, i.size, i.bytes)) = some (some (.agg #[.slice none 0 0, .slice none 0 0, .int .i64 0, .int .i64 0]), 4, 64) := by kernel_rfl
/-- append of one component, just laid in a block of its own -/
theorem append_co {P : Program} {ops : Array Oper} {rest : List Oper} {o : Oper} {a : Act} {Q : Exit → Act → World → Prop} {t e : TypeId} {z : Value} {bytes : Nat}
    (ht : P.underlying t = some (.slice e)) (hinfo : (P.info? e).map (fun i => (i.zero, i.size, i.bytes)) = some (some z, 4, bytes)) (hz1 : z.cells.size = 4) (hby : bytes ≤ 64)
    (w : World) (hgd : o.guard = none) {s : Operand} (x : Operand) (ho : o.op = .call { callee := .builtin .append, args := #[s, x], argTypes := #[t, t] })
    {base top : Nat} {v : Value} {xs : List CmpV} (hown : CoS encI 4 w base top e v xs) (y : CmpV) {lo hi : Nat} (hy : ElOk w lo hi y) (h1 : top ≤ lo) (h2 : hi ≤ w.heap.size) (hlh : lo ≤ hi) (hc1 : y.vc.oneCell' = true) (hc2 : y.vw.oneCell' = true) (te : TypeId) (hs : a.eval s = v) (hx : a.eval x = .slice (some ⟨w.heap.size, 0, none⟩) 1 1)
    (hlen : xs.length < 1099511627000)
    (h : ∀ v' w', CoS encI 4 w' base w'.heap.size e v' (xs ++ [y]) → w.grownBy w' v.ownBlock → wpList P ops Q rest (a.put o.dst v') w') :
    wpList P ops Q (o :: rest) a (w.alloc (.cells #[y.vc, y.vw, .int .i64 (y.c.least : Nat), .int .i64 (y.c.cnt : Nat)] te)) := by
  have hlow := hown.low
  have hhigh := hown.high
  refine append_row (m := 1) ht hinfo hz1 (by omega) hby _ hgd x ho (World.ownsRow.alloc hown.row _) hs (encI y) hx rfl ?_ ?_ (by omega) (by simp; omega) fun v' w' a1 a2 a3 => ?_
  · intro j u hj
    rw [show (⟨w.heap.size, 0, none⟩ : Addr).add j = ⟨w.heap.size, j, none⟩ by simp [Addr.add, eq_comm], World.cell?_alloc_at _ _ _ _ rfl]
    simpa [encI] using hj
  · intro u hu
    simp only [encI, List.mem_cons, List.not_mem_nil, or_false] at hu
    rcases hu with rfl | rfl | rfl | rfl
    · exact hc1
    · exact hc2
    · rfl
    · rfl
  · have hg : w.grownBy w' v.ownBlock := ⟨a2.os, a2.tape, a2.output, Nat.le_trans (by simp) a2.size, fun k hk hne => (a2.block k (by simp; omega) hne).trans (Below.heap_alloc _ _ _ hk)⟩
    exact h v' w' (hown.push hg a1 (a3.imp id fun e => ⟨_, e, by simp⟩) hy h1 h2 hlh) hg
/-- the sort's contract, as it is wanted here -/
def SortC (P : Program) (f g : Nat) (e : TypeId) : Prop :=
  ∀ (W : World) (base top : Nat) (v : Value) (xs : List CmpV), CoS encI 4 W base top e v xs → (xs.map CmpV.c).Pairwise (fun a b => a.least < b.least) → xs.length ≤ 40 → (∀ x ∈ xs, x.c.code.length ≤ 600) →
    Calls P f #[v, .func (.func g) #[] #[]] W fun e' w' => e' = .returned (.tuple #[]) ∧ (∃ ys : List CmpV, ys.map CmpV.c = insAll (xs.map CmpV.c) ∧ CoS encI 4 w' base w'.heap.size e v ys) ∧ W.grownBy w' v.ownBlock

end Go.Proofs.YtmdlginjblnfoaaGreat

/- Plain: numbers from a on, written at the places that a list names. No condition on any program. -/
namespace Go.Proofs.YtmdlginjblnfoaaGreat
set_option linter.unusedVariables false

/-- numbers from a on, written at the places that a list names -/
def numL : List Int → Nat → List Int → List Int
  | o, _, [] => o
  | o, a, x :: l => numL (o.set x.toNat (a : Nat)) (a + 1) l
theorem numL_length : ∀ (l o : List Int) (a : Nat), (numL o a l).length = o.length
  | [], o, a => rfl
  | x :: l, o, a => by simp only [numL]; rw [numL_length l]; simp
theorem numL_snoc (x : Int) : ∀ (l o : List Int) (a : Nat), numL o a (l ++ [x]) = (numL o a l).set x.toNat ((a + l.length : Nat) : Int)
  | [], o, a => by simp [numL]
  | y :: l, o, a => by
    show numL (o.set y.toNat (a : Nat)) (a + 1) (l ++ [x]) = (numL (o.set y.toNat (a : Nat)) (a + 1) l).set _ _
    rw [numL_snoc x l, List.length_cons, show a + 1 + l.length = a + (l.length + 1) by omega]
theorem zip_numL : ∀ (l o : List Int) (a : Nat), (l.zipIdx a).foldl (fun o p => o.set p.1.toNat (p.2 : Int)) o = numL o a l
  | [], o, a => rfl
  | x :: l, o, a => by rw [List.zipIdx_cons, List.foldl_cons, zip_numL l]; rfl
theorem numL_other : ∀ (l o : List Int) (a x : Nat), (∀ z ∈ l, z.toNat < o.length ∧ z.toNat ≠ x) → nth (numL o a l) x = nth o x
  | [], o, a, x, _ => rfl
  | y :: l, o, a, x, h => by
    have hy := h y (by simp)
    show nth (numL (o.set y.toNat (a : Nat)) (a + 1) l) x = _
    rw [numL_other l _ _ x (fun z hz => by rw [List.length_set]; exact h z (by simp [hz])), nth_set _ _ _ _ hy.1, if_neg (fun e => hy.2 e.symm)]
theorem numL_at : ∀ (l o : List Int) (a k : Nat), k < l.length → (∀ i j, i < l.length → j < l.length → (nth l i).toNat = (nth l j).toNat → i = j) → (∀ z ∈ l, z.toNat < o.length) → nth (numL o a l) (nth l k).toNat = ((a + k : Nat) : Int)
  | [], o, a, k, hk, _, _ => absurd hk (by simp)
  | y :: l, o, a, 0, _, h1, h2 => by
    show nth (numL (o.set y.toNat (a : Nat)) (a + 1) l) y.toNat = _
    rw [numL_other l _ _ _ (fun z hz => ?_), nth_set _ _ _ _ (h2 y (by simp)), if_pos rfl]; · rfl
    refine ⟨by rw [List.length_set]; exact h2 z (by simp [hz]), fun e => ?_⟩
    obtain ⟨i, hi, ei⟩ := List.mem_iff_getElem.1 hz
    have := h1 (i + 1) 0 (by simpa using hi) (by simp) (by rw [nth_cons_succ, nth_cons_zero, nth_eq hi, ei]; exact e)
    omega
  | y :: l, o, a, k + 1, hk, h1, h2 => by
    show nth (numL (o.set y.toNat (a : Nat)) (a + 1) l) (nth l k).toNat = _
    rw [numL_at l _ (a + 1) k (by simpa using hk) (fun i j hi hj e => by have := h1 (i + 1) (j + 1) (by simpa using hi) (by simpa using hj) e; omega) (fun z hz => by rw [List.length_set]; exact h2 z (by simp [hz]))]
    congr 1; omega
end Go.Proofs.YtmdlginjblnfoaaGreat
