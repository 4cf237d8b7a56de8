/-
  Contract of the reference's biDepths: the root and the depths of a tree given by the ports of parents.
-/
import Derived.Test.YtgpbnanidjkliaaTreeP
import Derived.Test.YtgpbnanidjkliaaOwn
namespace Go.Proofs.Ytgpbnanidjkliaa
open Go.ChangeShapes Go.WideShapes Go.ChangeAt Go.RowKit
set_option linter.unusedVariables false

theorem ret_ivb {x y : Int} {r : Value} {c d : Bool} (h : x = y) (h2 : c = d) : Ending.returned (.tuple #[.int .i64 x, r, .bool c]) = .returned (.tuple #[.int .i64 y, r, .bool d]) := by rw [h, h2]
theorem td_no {N : NetD} {ps : List Int} (h : tdOk N ps = false) : tdRoot N ps = 0 ∧ tdDepths N ps = [] := by unfold tdRoot tdDepths; rw [h]; exact ⟨rfl, rfl⟩

set_option maxHeartbeats 4000000 in
set_option maxRecDepth 100000 in
theorem biDepths_any (v1 v2 : Value) (N : NetD) (ps : List Int) (lo1 hi1 lo2 hi2 : Nat) (w : World) (h1 : Net w lo1 hi1 v1 N) (h2 : IntS w lo2 hi2 v2 ps) (hh1 : hi1 ≤ w.heap.size) (hh2 : hi2 ≤ w.heap.size) (hg : N.good = true) (hsz : ps.length ≤ 1048576) :
    Calls Try.prog 55 #[v1, v2] w fun e w' => ∃ r, e = .returned (.tuple #[.int .i64 (tdRoot N ps), r, .bool (tdOk N ps)]) ∧ IntS w' w.heap.size w'.heap.size r (tdDepths N ps) ∧ Below w.heap.size w w' := by
  obtain ⟨A, c, A2, c2, A3, c3, rfl, hc1, hc2, _, _, hopen⟩ := h1.parts
  obtain ⟨n1, n40⟩ := good_n hg
  obtain ⟨b, off, rfl, hb1, hb2, hN⟩ := hopen (by omega)
  obtain ⟨B, d, rfl, hd1, hd2, hcell⟩ := h2.form
  unfold maxLen at hd2
  have HG := Lib.hid hg
  obtain ⟨W0, HW0⟩ : ∃ W0, Hid (W0 = w.alloc (.cells #[.slice (some ⟨b, off, none⟩) N.ends.length c, .slice A2 N.ids.length c2, .slice A3 N.inputs.length c3] 31)) := ⟨_, Lib.hid rfl⟩
  have b0 : Box3 W0 w.heap.size 31 (.slice (some ⟨b, off, none⟩) N.ends.length c) (.slice A2 N.ids.length c2) (.slice A3 N.inputs.length c3) := by rw [HW0.out]; exact Box3.new w 31 _ _ _
  have hb0 : Below w.heap.size w W0 := by rw [HW0.out]; exact below_a1 _ _
  have hs0 : w.heap.size + 1 ≤ W0.heap.size := by rw [HW0.out]; simp
  have NO := Lib.hid (hN.below hb0 (by omega) hh1)
  have NW := Lib.hid hN
  clear h1 h2 hopen hN hg
  by_cases hl : ps.length = N.ends.length
  case neg =>
    have hl' : ((ps.length : Int) != (N.ends.length : Int)) = true := by simp; omega
    have HL := Lib.hid hl
    clear hl hcell b0 hb0
    go_enter Try.func55, Try.ntmps55
    go_wp2
    go_ret3
    have e := td_no (tdOk_len HL.out)
    exact ⟨_, ret_ivb e.1.symm (tdOk_len HL.out).symm, by rw [e.2]; exact IntS.nil _ _ _, below_a1 _ _⟩
  have hl' : ((ps.length : Int) != (N.ends.length : Int)) = false := by simp [hl]
  have HL := Lib.hid hl
  have hl1 : ps.length ≤ N.ends.length := by omega
  have hl2 : N.ends.length ≤ ps.length := by omega
  clear hl
  obtain ⟨bp, offp, rfl, hbp1, hbp2, hcs⟩ := hcell (by omega)
  have HCS := Lib.hid hcs
  clear hcell hcs
  go_enter Try.func55, Try.ntmps55
  go_wp2
  rw [← HW0.out]
  clear HW0
  go_loop [22, 7] (fun i rt => ∃ (k : Nat) (ρ : Int), k ≤ ps.length ∧ i = .int .i64 k ∧ rt = .int .i64 ρ ∧ Hid (RInv N ps k ρ) ∧ -1 ≤ ρ ∧ ρ < 41) (fun i _ => ps.length - (intOf i).toNat)
  case atStart => exact ⟨0, -1, Nat.zero_le _, rfl, rfl, Lib.hid (RInv.zero N ps), by omega, by omega⟩
  case round =>
    obtain ⟨k, ρ, hk, rfl, rfl, HI, hr1, hr2⟩ := hrel
    by_cases hlt : k < ps.length
    · have hck := (hb0.cell (p := ⟨bp, offp + k, none⟩) (by show bp < _; omega)).trans (HCS.out k hlt).1
      have q0 := b0.cells.1
      by_cases hm : nth ps k = -1
      · have hm' : (nth ps k == -1) = true := by simpa using hm
        have HM := Lib.hid hm
        clear hm
        by_cases hρ : 0 ≤ ρ
        · go_wp2
          go_ret3
          have hbad := HI.out.bad_twice HM.out hρ
          have e := td_no (tdOk_bad hlt hbad)
          exact ⟨_, ret_ivb e.1.symm (tdOk_bad hlt hbad).symm, by rw [e.2]; exact IntS.nil _ _ _, hb0⟩
        · have hm2 : (nth ps k != -1) = false := by rw [HM.out]; rfl
          go_wp2
          go_round
          case rel => exact ⟨k + 1, k, by omega, by go_num, rfl, Lib.hid (HI.out.root hlt HM.out hρ), by omega, by omega⟩
          case measure => simp [intOf]; omega
      · have hm' : (nth ps k == -1) = false := by simpa using hm
        have hm2 : (nth ps k != -1) = true := by simpa using hm
        have HM := Lib.hid hm
        clear hm
        obtain ⟨A4, c4, hu, hu1, hu2, _⟩ := NO.out k (by omega)
        by_cases hi : inB (nth ps k) 0 (((nthL N.ends k).length : Int) - 1) = true
        · go_wp2_with (go_at_call 76; refine (l1In_any _ _ _ _).mono ?_; rintro e w' ⟨rfl, rfl⟩)
          go_round
          case rel => exact ⟨k + 1, ρ, by omega, by go_num, rfl, Lib.hid (HI.out.skip HM.out hi), by omega, by omega⟩
          case measure => simp [intOf]; omega
        · have hi' : inB (nth ps k) 0 (((nthL N.ends k).length : Int) - 1) = false := by simpa using hi
          clear hi
          go_wp2_with (go_at_call 76; refine (l1In_any _ _ _ _).mono ?_; rintro e w' ⟨rfl, rfl⟩)
          go_ret3
          have hbad := bad_port HM.out hi'
          have e := td_no (tdOk_bad hlt hbad)
          exact ⟨_, ret_ivb e.1.symm (tdOk_bad hlt hbad).symm, by rw [e.2]; exact IntS.nil _ _ _, hb0⟩
    · obtain rfl : k = ps.length := by omega
      by_cases hρ : ρ < 0
      · go_wp2
        go_ret3
        have hn := tdOk_noroot (N := N) (HI.out.none hρ)
        have e := td_no hn
        exact ⟨_, ret_ivb e.1.symm hn.symm, by rw [e.2]; exact IntS.nil _ _ _, hb0⟩
      obtain ⟨hR, hRl⟩ := HI.out.some hρ
      obtain ⟨root, rfl⟩ : ∃ root : Nat, ρ = root := ⟨ρ.toNat, by omega⟩
      have HR := Lib.hid hR
      have HB := Lib.hid HI.out.1
      have hrl : root < ps.length := by omega
      clear hR HI hr1 hr2
      go_wp2
      go_loopw [57, 10] (fun i dv wr => ∃ (k : Nat) (ds : List Int), k ≤ ps.length ∧ i = .int .i64 k ∧ OwnI wr (w.heap.size + 1) 3 dv ds ∧ Hid (ds = (tdAll N ps).take k ∧ ∀ j, j < k → hops N ps root (ps.length + 1) j ≤ ps.length) ∧ ds.length ≤ k ∧
          Box3 wr w.heap.size 31 (.slice (some ⟨b, off, none⟩) N.ends.length c) (.slice A2 N.ids.length c2) (.slice A3 N.inputs.length c3) ∧ Below w.heap.size w wr) (fun i _ _ => ps.length - (intOf i).toNat)
      case atStart => exact ⟨0, [], Nat.zero_le _, rfl, OwnI.nil _ _ _, Lib.hid ⟨by simp, fun j hj => absurd hj (by omega)⟩, Nat.zero_le _, b0, hb0⟩
      case round =>
        clear b0
        obtain ⟨k, ds, hk, rfl, ho, HD, hdl, hbx, hb⟩ := hrel
        have hs1 := hb.size
        by_cases hlt : k < ps.length
        · obtain ⟨wo, rfl⟩ : ∃ wo : World, wo = wr := ⟨_, rfl⟩
          go_wp2
          go_loopw [12, 13] (fun kk ww wi => ∃ (m u nd : Nat), m ≤ ps.length + 1 ∧ kk = .int .i64 m ∧ ww = .int .i64 u ∧ u < N.ends.length ∧ Hid (hops N ps root (ps.length + 1) k = m + hops N ps root (ps.length + 1 - m) u) ∧ wi = wo.drewN nd) (fun kk _ _ => ps.length + 1 - (intOf kk).toNat)
          case atStart => exact ⟨0, k, 0, Nat.zero_le _, rfl, rfl, by omega, Lib.hid (by simp), rfl⟩
          case round =>
            obtain ⟨m, u, nd, hm, rfl, rfl, hul, HH, rfl⟩ := hrel
            by_cases hmp : m ≤ ps.length
            · by_cases hur : u = root
              · have hur' : ((u : Int) != (root : Int)) = false := by simp [hur]
                have HM : Hid (hops N ps root (ps.length + 1) k = m) := Lib.hid (by rw [HH.out, hur, hops_root]; rfl)
                clear hur HH
                go_wp2_with (at_builtin; refine append_int (s := .tmp 88) Try.underlying23 Try.info3 (by decide) (wo.drewN nd) rfl _ rfl (ho.drewN nd) m _ rfl rfl (by omega) (by have := hbx.lt; show _ ≤ wo.heap.size; omega) ?_; intro v' w' ho' hg' hat')
                go_roundw
                case rel =>
                  have hbl := hbx.lt
                  have hgr : wo.grownBy w' _ := ⟨hg'.os, hg'.tape, hg'.output, hg'.size, hg'.block⟩
                  refine ⟨k + 1, ds ++ [(m : Int)], by omega, by go_num, ho', Lib.hid ⟨?_, fun j hj => ?_⟩, by simp; omega, ?_, hb.grown hgr hb.size fun g hg => by have := (ho.lt g hg).1; omega⟩
                  · rw [List.take_succ_eq_append_getElem (by rw [tdAll_length]; exact hlt), HD.out.1, ← nth_eq, nth_tdAll N ps hlt, ← HR.out, Int.toNat_natCast, HM.out]
                  · by_cases e : j = k
                    · subst e; rw [HM.out]; exact hmp
                    · exact HD.out.2 j (by omega)
                  · exact (hgr.block _ hbl (fun e => by have := (ho.lt _ e.symm).1; omega)).trans hbx
                case measure => simp [intOf]; omega
              · have hur' : ((u : Int) != (root : Int)) = true := by simp; omega
                have HUR := Lib.hid hur
                clear hur
                obtain ⟨pi, hpi, hpl⟩ := par_port HL.out HB.out (v := u) (by omega) (by rw [← HR.out]; have := HUR.out; omega)
                obtain ⟨b2, off2, c4, e1, e2, e3, e4, e5, e6, _⟩ := NW.out.port (t := u) (r := pi) hul hpl
                obtain ⟨hupl, hupe⟩ := up_lt (ps := ps) HG.out hul hpi hpl
                rw [hupe] at e6
                have g0 := hbx.cells.1
                have g1 := (hb.cell (p := ⟨b, off + u, none⟩) (by show b < _; omega)).trans e1
                have g2 := (hb.cell (p := ⟨b2, off2 + pi * 2, none⟩) (by show b2 < _; omega)).trans e6
                have g3 := (hb.cell (p := ⟨bp, offp + u, none⟩) (by show bp < _; omega)).trans (HCS.out u (by omega)).1
                rw [hpi] at g3
                have i1 : (u : Int) < N.ends.length := by omega
                have i2 : (u : Int) < ps.length := by omega
                have i3 : (pi : Int) < (nthL N.ends u).length := by omega
                have HPI := Lib.hid hpi
                clear e1 e6 hpi hupe
                go_wp2
                go_quiet (fail)
                go_wp2
                go_roundw
                case rel =>
                  refine ⟨m + 1, up N ps u, nd + nq, by omega, by go_num, rfl, hupl, Lib.hid ?_, rfl⟩
                  rw [HH.out, show ps.length + 1 - m = (ps.length - m) + 1 by omega, hops_up _ _ _ _ _ HUR.out, show ps.length + 1 - (m + 1) = ps.length - m by omega]
                  omega
                case measure => simp [intOf]; omega
            · obtain rfl : m = ps.length + 1 := by omega
              have HM : Hid (hops N ps root (ps.length + 1) k = ps.length + 1) := Lib.hid (by rw [HH.out, Nat.sub_self]; rfl)
              clear HH
              by_cases hur : u = root
              · have hur' : ((u : Int) != (root : Int)) = false := by simp [hur]
                clear hur
                go_wp2
                go_ret3
                have hf := tdOk_far (N := N) hlt (by rw [← HR.out, Int.toNat_natCast, HM.out]; omega)
                have e := td_no hf
                exact ⟨_, ret_ivb e.1.symm hf.symm, by rw [e.2]; exact IntS.nil _ _ _, below_drewN hb _⟩
              · have hur' : ((u : Int) != (root : Int)) = true := by simp; omega
                clear hur
                go_wp2
                go_ret3
                have hf := tdOk_far (N := N) hlt (by rw [← HR.out, Int.toNat_natCast, HM.out]; omega)
                have e := td_no hf
                exact ⟨_, ret_ivb e.1.symm hf.symm, by rw [e.2]; exact IntS.nil _ _ _, below_drewN hb _⟩
        · obtain rfl : k = ps.length := by omega
          go_wp2
          go_ret3
          have hy := tdOk_yes HL.out HB.out (by rw [← HR.out]; omega) (by rw [← HR.out, Int.toNat_natCast]; exact HD.out.2)
          refine ⟨_, ret_ivb (by unfold tdRoot; rw [hy]; exact HR.out) hy.symm, ?_, hb⟩
          have e : tdDepths N ps = ds := by unfold tdDepths; rw [hy, HD.out.1, List.take_of_length_le (by rw [tdAll_length]; exact Nat.le_refl _)]; rfl
          rw [e]
          exact ho.ints.mono (by omega) (Nat.le_refl _)

end Go.Proofs.Ytgpbnanidjkliaa
