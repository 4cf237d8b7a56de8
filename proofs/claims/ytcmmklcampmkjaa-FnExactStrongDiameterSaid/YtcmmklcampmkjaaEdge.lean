/-
  Contracts: the edges of a network (program and reference), stubs, and that a network has none.
-/
import Derived.Test.YtcmmklcampmkjaaQuadP
import Derived.Test.YtcmmklcampmkjaaExt
import Derived.Deep.Cut
namespace Go.Proofs.Ytcmmklcampmkjaa
open Go.ChangeShapes Go.WideShapes Go.ChangeAt Go.RowKit
set_option linter.unusedVariables false

theorem Try.infoEdge : (Try.prog.info? 95).map (fun i => (i.zero, i.size, i.bytes)) = some (some (.agg #[.int .i64 0, .int .i64 0, .int .i64 0, .int .i64 0]), 4, 32) := by kernel_rfl
theorem Try.infoRow : (Try.prog.info? 23).map (fun i => (i.zero, i.size, i.bytes)) = some (some (.slice none 0 0), 1, 24) := by kernel_rfl
theorem hid_and {p q : Prop} (h : p) (k : q) : Hid (p ∧ q) := Lib.hid ⟨h, k⟩

set_option maxHeartbeats 4000000 in
set_option maxRecDepth 100000 in
theorem edges_any (v1 : Value) (N : NetD) (lo1 hi1 : Nat) (w : World) (h1 : Net w lo1 hi1 v1 N) (hh1 : hi1 ≤ w.heap.size) (hg : N.good = true) :
    Calls Try.prog 83 #[v1] w fun e w' => ∃ r, e = .returned (r) ∧ QuadS w' w.heap.size w'.heap.size r (edges N) ∧ Below w.heap.size w w' := by
  obtain ⟨n1, n40⟩ := good_n hg
  have HG := Lib.hid hg; clear hg
  have F1 := Lib.hid h1
  obtain ⟨A1, c1, A1', c1', A1'', c1'', rfl, hc1, hd1, _⟩ := h1.parts
  obtain ⟨b1, o1, _, _, rfl, _⟩ := Net.rowAt F1.out (u := 0) (by omega)
  clear h1
  obtain ⟨WA, HWA⟩ : ∃ W, Hid (W = (w.alloc (.cells #[.slice (some ⟨b1, o1, none⟩) N.ends.length c1, .slice A1' N.ids.length c1', .slice A1'' N.inputs.length c1''] 34))) := ⟨_, Lib.hid rfl⟩
  have hbA : Below w.heap.size w WA := by rw [HWA.out]; exact ((Below.refl _ _).alloc (Nat.le_refl _) _)
  have hsA : w.heap.size + 1 ≤ WA.heap.size := by rw [HWA.out]; simp; try omega
  have bx1 : BoxN WA (w.heap.size) #[.slice (some ⟨b1, o1, none⟩) N.ends.length c1, .slice A1' N.ids.length c1', .slice A1'' N.inputs.length c1''] 34 := by rw [HWA.out]; exact (BoxN.new' _ _ _ (by simp))
  have G1 := Lib.hid (Net.below F1.out hbA hh1); clear F1
  go_enter Try.func83, Try.ntmps83
  go_upto_region 1 with (fail)
  rw [← HWA.out]; clear HWA
  have kbx1_0 : WA.cell? ⟨w.heap.size, 0, none⟩ = some (.slice (some ⟨b1, o1, none⟩) N.ends.length c1) := bx1.cell 0 (by simp)
  have kbx1_1 : WA.cell? ⟨w.heap.size, 1, none⟩ = some (.slice A1' N.ids.length c1') := bx1.cell 1 (by simp)
  have kbx1_2 : WA.cell? ⟨w.heap.size, 2, none⟩ = some (.slice A1'' N.inputs.length c1'') := bx1.cell 2 (by simp)
  go_wp2_with fail
  clear kbx1_0 kbx1_1 kbx1_2
  go_loopw [11, 3] (fun i ov wr => ∃ (k : Nat) (qs : List Quad), k ≤ N.ends.length ∧ i = .int .i64 k ∧ OwnQd wr WA.heap.size 95 ov qs ∧ Hid (qs = edgesE N k) ∧ qs.length ≤ 6 * k ∧ Hid (Turned WA.heap.size WA.heap.size WA wr)) (fun i ov _ => N.ends.length - (intOf i).toNat)
  case atStart => exact ⟨0, [], Nat.zero_le _, rfl, OwnQd.nil _ _ _, Lib.hid rfl, Nat.zero_le _, Lib.hid (Turned.refl WA.heap.size WA.heap.size WA)⟩
  case round =>
    obtain ⟨k, qs, hk, rfl, ho, HD, hl, HF1⟩ := hrel
    have hs1 := HF1.out.size
    by_cases hlt : k < N.ends.length
    case neg =>
      obtain rfl : k = N.ends.length := by omega
      go_wp2_with fail
      go_ret
      refine ⟨_, rfl, ?_, (HF1.out.below_of hbA (by omega) (by omega))⟩
      have e : edges N = qs := HD.out.symm
      rw [e]
      exact ho.quads.mono (by omega) (Nat.le_refl _)
    obtain ⟨Ar, cr, hbr, qr, hcr, hdr, hRr⟩ := Net.rowIn G1.out hlt
    replace qr := (HF1.out.cell (by omega) (by omega)).trans qr
    have Rr := Lib.hid hRr; clear hRr
    have hd6 := good_deg HG.out hlt
    obtain ⟨wo, rfl⟩ : ∃ wo : World, wo = wr := ⟨_, rfl⟩
    go_wp2_with fail
    clear qr
    go_loopw [18, 3] (fun i ov wi => ∃ (m : Nat) (qs : List Quad), m ≤ (nthL N.ends k).length ∧ i = .int .i64 m ∧ OwnQd wi WA.heap.size 95 ov qs ∧ Hid (qs = edgesE N k ++ rowE N k m) ∧ qs.length ≤ 6 * k + m ∧ Hid (Turned WA.heap.size WA.heap.size WA wi)) (fun i ov _ => (nthL N.ends k).length - (intOf i).toNat)
    case atStart => exact ⟨0, qs, Nat.zero_le _, rfl, ho, Lib.hid (by rw [HD.out, rowE_zero, List.append_nil]), hl, HF1⟩
    case round =>
      clear HF1
      obtain ⟨m, qs, hm, rfl, ho, HE, hl, HF2⟩ := hrel
      have hs2 := HF2.out.size
      by_cases hml : m < (nthL N.ends k).length
      case neg =>
        obtain rfl : m = (nthL N.ends k).length := by omega
        go_wp2_with fail
        go_roundw
        case rel => exact ⟨k + 1, _, by omega, by go_num, ho, Lib.hid (by rw [HE.out, edgesE_succ]), by omega, HF2⟩
        case measure => simp [intOf]; omega
      obtain ⟨br, or, rfl, _, hbr', er, er'⟩ := (EndS.turned Rr.out HF2.out (by omega) (by omega)).opened hml
      obtain ⟨t, r, etr, ht, hr, eur⟩ := good_end HG.out hlt hml
      rw [etr] at er er'
      dsimp only at er er'
      have ETr := Lib.hid etr
      have EUr := Lib.hid eur
      clear etr eur
      by_cases d1 : k < t
      case pos =>
        go_wp2_with (at_builtin; refine append_quad (s := .tmp 39) Try.underlying93 Try.infoEdge rfl (by decide) (wr.alloc (.cells #[.int .i64 t, .int .i64 r] 60)) rfl _ rfl (OwnQd.alloc ho _) ⟨k, m, t, r⟩ _ rfl (by simp [Act.eval, go_sem]) (by omega) (by simp; omega) ?_; intro v' w' ho' hg')
        go_roundw
        case rel =>
          have hgs := hg'.size
          refine ⟨m + 1, _, by omega, by go_num, ho', Lib.hid ?_, by simp; omega, Lib.hid ((HF2.out.still (grown_alloc _ _)).grown hg' fun g hg => .inr (by have := ho.lt g hg; omega))⟩
          rw [HE.out, List.append_assoc, rowE_yes (by unfold firstB; rw [ETr.out]; simp; omega)]
          unfold quadAt; rw [ETr.out]
        case measure => simp [intOf]; omega
      by_cases d2 : k = t
      case neg =>
        have c2' : ((k : Int) == (t : Int)) = false := by simp; omega
        go_wp2_with fail
        go_roundw
        case rel => exact ⟨m + 1, _, by omega, by go_num, ho.still (grown_alloc _ _), Lib.hid (by rw [HE.out, rowE_no (by unfold firstB; rw [ETr.out]; simp; omega)]), by omega, Lib.hid (HF2.out.still (grown_alloc _ _))⟩
        case measure => simp [intOf]; omega
      have c2' : ((k : Int) == (t : Int)) = true := by simp; omega
      have C2 := Lib.hid d2; clear d2
      have d4 : t ≤ k := by omega
      by_cases d3 : m ≤ r
      case pos =>
        go_wp2_with (at_builtin; refine append_quad (s := .tmp 39) Try.underlying93 Try.infoEdge rfl (by decide) (wr.alloc (.cells #[.int .i64 t, .int .i64 r] 60)) rfl _ rfl (OwnQd.alloc ho _) ⟨k, m, t, r⟩ _ rfl (by simp [Act.eval, go_sem]) (by omega) (by simp; omega) ?_; intro v' w' ho' hg')
        go_roundw
        case rel =>
          have hgs := hg'.size
          refine ⟨m + 1, _, by omega, by go_num, ho', Lib.hid ?_, by simp; omega, Lib.hid ((HF2.out.still (grown_alloc _ _)).grown hg' fun g hg => .inr (by have := ho.lt g hg; omega))⟩
          rw [HE.out, List.append_assoc, rowE_yes (by unfold firstB; rw [ETr.out]; simp; have := C2.out; omega)]
          unfold quadAt; rw [ETr.out]
        case measure => simp [intOf]; omega
      go_wp2_with fail
      go_roundw
      case rel => exact ⟨m + 1, _, by omega, by go_num, ho.still (grown_alloc _ _), Lib.hid (by rw [HE.out, rowE_no (by unfold firstB; rw [ETr.out]; simp; have := C2.out; omega)]), by omega, Lib.hid (HF2.out.still (grown_alloc _ _))⟩
      case measure => simp [intOf]; omega

end Go.Proofs.Ytcmmklcampmkjaa
