/-
  Contract of the program's treeDepths: the root and the depths of a tree given by the ports of parents.
-/
import Derived.Test.YtgpbnanidjkliaaTreeS
import Derived.Test.YtgpbnanidjkliaaIsNet
namespace Go.Proofs.Ytgpbnanidjkliaa
open Go.ChangeShapes Go.WideShapes Go.ChangeAt Go.RowKit
set_option linter.unusedVariables false

theorem fidx_cases (p : Int → Bool) (zs : List Int) : (fidx p zs = -1 ∧ ∀ j, j < zs.length → p (nth zs j) = false) ∨ ∃ k : Nat, k < zs.length ∧ fidx p zs = k ∧ p (nth zs k) = true ∧ ∀ j, j < k → p (nth zs j) = false := by
  by_cases h : ∃ v, v < zs.length ∧ p (nth zs v) = true
  · right
    have : ∀ n, (∃ v, v < n ∧ v < zs.length ∧ p (nth zs v) = true) → ∃ v, v < zs.length ∧ p (nth zs v) = true ∧ ∀ j, j < v → p (nth zs j) = false := by
      intro n
      induction n with
      | zero => rintro ⟨v, hv, _⟩; omega
      | succ n ih =>
        rintro ⟨v, hv, hl, he⟩
        by_cases hh : ∃ u, u < n ∧ u < zs.length ∧ p (nth zs u) = true
        · exact ih hh
        · refine ⟨v, hl, he, fun j hj => ?_⟩
          rw [Bool.eq_false_iff]
          exact fun e => hh ⟨j, by omega, by omega, e⟩
    obtain ⟨v, hl, he⟩ := h
    obtain ⟨u, h1, h2, h3⟩ := this (v + 1) ⟨v, by omega, hl, he⟩
    exact ⟨u, h1, fidx_hit h1 h2 h3, h2, h3⟩
  · left
    have hn : ∀ j, j < zs.length → p (nth zs j) = false := fun j hj => by rw [Bool.eq_false_iff]; exact fun e => h ⟨j, hj, e⟩
    exact ⟨fidx_none hn, hn⟩
theorem idxOf_eq (zs : List Int) (x : Int) : Lib.idxOf zs x = fidx (fun y => y == x) zs := by
  rcases fidx_cases (fun y => y == x) zs with ⟨h1, h2⟩ | ⟨k, hk, h1, h2, h3⟩
  · rw [h1]
    have := Lib.idxOf_miss zs zs.length x (fun j hj => by have := h2 j hj; simpa [nth] using this)
    rwa [List.take_length] at this
  · rw [h1]
    have := Lib.idxOf_hit zs zs.length k x hk (Nat.le_refl _) (by simpa [nth] using h2) (fun j hj => by have := h3 j hj; simpa [nth] using this)
    rwa [List.take_length] at this
theorem index_any (v : Value) (zs : List Int) (x : Int) (lo hi : Nat) (w : World) (h : IntS w lo hi v zs) :
    Calls Try.prog 112 #[v, .int .i64 x] w fun e w' => e = .returned (.int .i64 (fidx (fun y => y == x) zs)) ∧ w = w' := by
  obtain ⟨A, c, rfl, hc1, hc2, hcell⟩ := h.form
  rw [← idxOf_eq]
  rcases Nat.eq_zero_or_pos zs.length with h0 | h0
  · obtain rfl : zs = [] := List.eq_nil_of_length_eq_zero h0
    refine (Try.slices_Index_int_empty _ _ _ _).mono ?_
    rintro e w' ⟨rfl, rfl⟩
    exact ⟨rfl, rfl⟩
  · obtain ⟨b, off, rfl, hb1, hb2, hcs⟩ := hcell h0
    unfold maxLen at hc2
    refine (Try.slices_Index_int b off zs.length c zs x w (Nat.le_refl _) (by omega) (fun j hj => (hcs j hj).1)).mono ?_
    rintro e w' ⟨rfl, rfl⟩
    rw [List.take_length]
    exact ⟨rfl, rfl⟩

set_option maxHeartbeats 4000000 in
set_option maxRecDepth 100000 in
theorem treeDepths_any (v1 v2 : Value) (N : NetD) (ps : List Int) (lo1 hi1 lo2 hi2 : Nat) (w : World) (h1 : Net w lo1 hi1 v1 N) (h2 : IntS w lo2 hi2 v2 ps) (hh1 : hi1 ≤ w.heap.size) (hh2 : hi2 ≤ w.heap.size) (hg : N.good = true) (hsz : ps.length ≤ 1048576) :
    Calls Try.prog 58 #[v1, v2] w fun e w' => ∃ r, e = .returned (.tuple #[.int .i64 (tdRoot N ps), r, .bool (tdOk N ps)]) ∧ IntS w' w.heap.size w'.heap.size r (tdDepths N ps) ∧ Below w.heap.size w w' := by
  have HNET := Lib.hid h1
  have HPS := Lib.hid h2
  obtain ⟨A, c, A2, c2, A3, c3, rfl, hc1, hc2, _, _, hopen⟩ := h1.parts
  obtain ⟨n1, n40⟩ := good_n hg
  obtain ⟨b, off, rfl, hb1, hb2, hN⟩ := hopen (by omega)
  obtain ⟨B, d, rfl, hd1, hd2, hcell⟩ := h2.form
  unfold maxLen at hd2
  have HG := Lib.hid hg
  obtain ⟨W0, HW0⟩ : ∃ W0, Hid (W0 = w.alloc (.cells #[.slice (some ⟨b, off, none⟩) N.ends.length c, .slice A2 N.ids.length c2, .slice A3 N.inputs.length c3] 31)) := ⟨_, Lib.hid rfl⟩
  have b0 : Box3 W0 w.heap.size 31 (.slice (some ⟨b, off, none⟩) N.ends.length c) (.slice A2 N.ids.length c2) (.slice A3 N.inputs.length c3) := by rw [HW0.out]; exact Box3.new w 31 _ _ _
  have hb0 : Below w.heap.size w W0 := by rw [HW0.out]; exact below_a1 _ _
  have hs0 : w.heap.size + 1 ≤ W0.heap.size := by rw [HW0.out]; simp
  have NW := Lib.hid hN
  clear h1 h2 hopen hN hg
  by_cases hl : ps.length = N.ends.length
  case neg =>
    have hl' : ((ps.length : Int) != (N.ends.length : Int)) = true := by simp; omega
    have HL := Lib.hid hl
    clear hl hcell b0 hb0
    go_enter Try.func58, Try.ntmps58
    go_wp2_with fail
    go_ret3
    have e := td_no (tdOk_len HL.out)
    exact ⟨_, ret_ivb e.1.symm (tdOk_len HL.out).symm, by rw [e.2]; exact IntS.nil _ _ _, below_a1 _ _⟩
  have hl' : ((ps.length : Int) != (N.ends.length : Int)) = false := by simp [hl]
  have HL := Lib.hid hl
  have hl1 : ps.length ≤ N.ends.length := by omega
  have hl2 : N.ends.length ≤ ps.length := by omega
  clear hl
  obtain ⟨bp, offp, rfl, hbp1, hbp2, hcs⟩ := hcell (by omega)
  have HCS := Lib.hid hcs
  clear hcell hcs
  obtain ⟨ρ, HR⟩ : ∃ ρ, Hid (rootOf ps = ρ) := ⟨_, Lib.hid rfl⟩
  have hρ : -1 ≤ ρ ∧ ρ < ps.length := by
    rcases rootOf_cases ps with ⟨e, _⟩ | ⟨u, h1, e, _⟩
    · rw [← HR.out, e]; omega
    · rw [← HR.out, e]; omega
  obtain ⟨hρ1, hρ2⟩ := hρ
  go_enter Try.func58, Try.ntmps58
  go_wp2_with fail
  rw [← HW0.out]
  clear HW0
  refine (index_any _ ps (-1) lo2 hi2 _ (HPS.out.below hb0 hh2)).mono ?_
  rintro e w' ⟨rfl, rfl⟩
  rw [show fidx (fun y => y == -1) ps = ρ from HR.out]
  go_wp2_with fail
  go_loopw [23] (fun i wr => ∃ k : Nat, k ≤ ps.length ∧ i = .int .i64 k ∧ Hid (∀ j, j < k → badPar N ps j = false) ∧ Box3 wr w.heap.size 31 (.slice (some ⟨b, off, none⟩) N.ends.length c) (.slice A2 N.ids.length c2) (.slice A3 N.inputs.length c3) ∧ Below w.heap.size w wr) (fun i _ => ps.length - (intOf i).toNat)
  case atStart => exact ⟨0, Nat.zero_le _, rfl, Lib.hid fun j hj => absurd hj (by omega), b0, hb0⟩
  case round =>
    clear b0 hb0
    obtain ⟨k, hk, rfl, HB, hbx, hb⟩ := hrel
    have hs1 := hb.size
    by_cases hlt : k < ps.length
    · have hck := (hb.cell (p := ⟨bp, offp + k, none⟩) (by show bp < _; omega)).trans (HCS.out k hlt).1
      obtain ⟨q0, q1, q2⟩ := hbx.cells
      by_cases hm : nth ps k = -1
      · have hm' : (nth ps k == -1) = true := by simpa using hm
        have hm2 : (nth ps k != -1) = false := by simp [hm]
        have HM := Lib.hid hm
        clear hm
        by_cases hkr : (k : Int) = ρ
        · have hkr' : ((k : Int) != ρ) = false := by simp [hkr]
          have HK := Lib.hid hkr
          clear hkr
          go_wp2_with fail
          go_roundw
          case rel =>
            refine ⟨k + 1, by omega, by go_num, Lib.hid fun j hj => ?_, hbx, hb⟩
            by_cases e : j = k
            · subst e; unfold badPar; rw [HM.out, HR.out, decide_eq_true HK.out]; rfl
            · exact HB.out j (by omega)
          case measure => simp [intOf]; omega
        · have hkr' : ((k : Int) != ρ) = true := by simpa using hkr
          have HK := Lib.hid hkr
          clear hkr
          go_wp2_with fail
          go_ret3
          have hbad : badPar N ps k = true := by unfold badPar; rw [HM.out, HR.out, decide_eq_false HK.out]; rfl
          have e := td_no (tdOk_bad hlt hbad)
          exact ⟨_, ret_ivb e.1.symm (tdOk_bad hlt hbad).symm, by rw [e.2]; exact IntS.nil _ _ _, hb⟩
      · have hm' : (nth ps k == -1) = false := by simpa using hm
        have hm2 : (nth ps k != -1) = true := by simpa using hm
        have HM := Lib.hid hm
        clear hm
        have hkn : inB (k : Int) 0 ((N.ends.length : Int) - 1) = true := inB_true (by omega) (by omega)
        have NWr := Lib.hid (HNET.out.below hb hh1)
        by_cases hi : inB (nth ps k) 0 (((nthL N.ends k).length : Int) - 1) = true
        · have HP : Hid (N.port k (nth ps k) = true) := Lib.hid (by unfold NetD.port; rw [hkn, Int.toNat_natCast, hi]; rfl)
          go_wp2_with fail
          refine (hasPort_is _ N _ _ true HP.out lo1 hi1 _ NWr.out (by omega)).mono ?_
          rintro e w3 ⟨rfl, hb3⟩
          go_wp2_with fail
          go_roundw
          case rel =>
            refine ⟨k + 1, by omega, by go_num, Lib.hid fun j hj => ?_, hbx.below hb3 hbx.lt, hb.trans (hb3.mono hs1)⟩
            by_cases e : j = k
            · subst e; exact not_bad HM.out hi
            · exact HB.out j (by omega)
          case measure => simp [intOf]; omega
        · have hi' : inB (nth ps k) 0 (((nthL N.ends k).length : Int) - 1) = false := by simpa using hi
          clear hi
          have HP : Hid (N.port k (nth ps k) = false) := Lib.hid (by unfold NetD.port; rw [Int.toNat_natCast, hi', Bool.and_false])
          go_wp2_with fail
          refine (hasPort_is _ N _ _ false HP.out lo1 hi1 _ NWr.out (by omega)).mono ?_
          rintro e w3 ⟨rfl, hb3⟩
          go_wp2_with fail
          go_ret3
          have hbad := bad_port HM.out hi'
          have e := td_no (tdOk_bad hlt hbad)
          exact ⟨_, ret_ivb e.1.symm (tdOk_bad hlt hbad).symm, by rw [e.2]; exact IntS.nil _ _ _, hb.trans (hb3.mono hs1)⟩
    · obtain rfl : k = ps.length := by omega
      by_cases hneg : ρ < 0
      · go_wp2_with fail
        go_ret3
        have hn := tdOk_noroot (N := N) (ps := ps) (by rw [HR.out]; exact hneg)
        have e := td_no hn
        exact ⟨_, ret_ivb e.1.symm hn.symm, by rw [e.2]; exact IntS.nil _ _ _, hb⟩
      obtain ⟨root, rfl⟩ : ∃ root : Nat, ρ = root := ⟨ρ.toNat, by omega⟩
      have hrl : root < ps.length := by omega
      clear hρ1
      have hmk := fun W => run_make_row' (P := Try.prog) 23 3 (.int .i64 0) 8 Try.underlying23 Try.info3 rfl .i64 .i64 ps.length (by omega) (by omega) W
      obtain ⟨w5, rfl⟩ : ∃ w5 : World, w5 = wr := ⟨_, rfl⟩
      go_wp2_with fail
      clear hmk
      have hD := hbx.lt
      go_loopw [54] (fun i wr => ∃ k : Nat, k ≤ ps.length ∧ i = .int .i64 k ∧ Hid (∀ j, j < k → hops N ps root (ps.length + 1) j ≤ ps.length) ∧ wr.rowIs w5.heap.size 3 ps.length (fun j => .int .i64 (if j < k then (hops N ps root (ps.length + 1) j : Int) else 0)) ∧
          Box3 wr w.heap.size 31 (.slice (some ⟨b, off, none⟩) N.ends.length c) (.slice A2 N.ids.length c2) (.slice A3 N.inputs.length c3) ∧ Below w.heap.size w wr) (fun i _ => ps.length - (intOf i).toNat)
      case atStart => exact ⟨0, Nat.zero_le _, rfl, Lib.hid fun j hj => absurd hj (by omega), (World.rowIs_made w5 (.int .i64 0) ps.length 3).congr (fun i _ => by simp), hbx.alloc _, hb.alloc hs1 _⟩
      case round =>
        clear hbx hb
        obtain ⟨k, hk, rfl, HD, hrow, hbx, hb⟩ := hrel
        have hs2 := hb.size
        by_cases hlt : k < ps.length
        · obtain ⟨wo, rfl⟩ : ∃ wo : World, wo = wr := ⟨_, rfl⟩
          go_wp2_with fail
          go_loopg [12] (ps.length + 1) (fun gg ww wi => ∃ (m u : Nat), m ≤ ps.length ∧ ps.length + 1 - m ≤ gg ∧ ww = .int .i64 u ∧ u < N.ends.length ∧ Hid (hops N ps root (ps.length + 1) k = m + hops N ps root (ps.length + 1 - m) u) ∧
              wi.rowIs w5.heap.size 3 ps.length (fun j => .int .i64 (if j = k then (m : Int) else if j < k then (hops N ps root (ps.length + 1) j : Int) else 0)) ∧
              Box3 wi w.heap.size 31 (.slice (some ⟨b, off, none⟩) N.ends.length c) (.slice A2 N.ids.length c2) (.slice A3 N.inputs.length c3) ∧ Below w.heap.size w wi)
          case atStart =>
            refine ⟨0, k, Nat.zero_le _, by omega, rfl, by omega, Lib.hid (by simp), hrow.congr fun j hj => ?_, hbx, hb⟩
            by_cases e : j = k
            · subst e; simp
            · simp [e]
          case round =>
            clear hrow hbx hb
            obtain ⟨m, u, hm, hgk, rfl, hul, HH, hrow, hbx, hb⟩ := hrel
            have hs3 := hb.size
            by_cases hur : u = root
            · have hur' : ((u : Int) != (root : Int)) = false := by simp [hur]
              have HM : Hid (hops N ps root (ps.length + 1) k = m) := Lib.hid (by rw [HH.out, hur, hops_root]; rfl)
              clear hur HH
              go_wp2_with fail
              go_roundw
              case rel =>
                refine ⟨k + 1, by omega, by go_num, Lib.hid fun j hj => ?_, hrow.congr fun j hj => ?_, hbx, hb⟩
                · by_cases e : j = k
                  · subst e; rw [HM.out]; exact hm
                  · exact HD.out j (by omega)
                · by_cases e : j = k
                  · subst e; rw [if_pos rfl, if_pos (by omega), HM.out]
                  · rw [if_neg e]
                    by_cases e2 : j < k
                    · rw [if_pos e2, if_pos (by omega)]
                    · rw [if_neg e2, if_neg (by omega)]
              case measure => simp [intOf]; omega
            · have hur' : ((u : Int) != (root : Int)) = true := by simp; omega
              have HUR := Lib.hid hur
              clear hur
              have oc := hrow.cell hlt
              rw [if_pos rfl] at oc
              have of := hrow.frozen k
              by_cases hml : m < ps.length
              · have oc2 := (hrow.set k (.int .i64 ((m : Int) + 1))).cell hlt
                rw [if_pos rfl] at oc2
                obtain ⟨pi, hpi, hpl⟩ := par_port HL.out HB.out (v := u) (by omega) (by rw [HR.out]; have := HUR.out; omega)
                obtain ⟨b2, off2, c4, e1, e2, e3, e4, e5, e6, _⟩ := NW.out.port (t := u) (r := pi) hul hpl
                obtain ⟨hupl, hupe⟩ := up_lt (ps := ps) HG.out hul hpi hpl
                rw [hupe] at e6
                have hb' := hb.setCell (p := ⟨w5.heap.size, k, none⟩) (by show w.heap.size ≤ w5.heap.size; omega) (.int .i64 ((m : Int) + 1))
                have hbx' := hbx.far (p := ⟨w5.heap.size, k, none⟩) (by show w.heap.size ≠ w5.heap.size; omega) (.int .i64 ((m : Int) + 1))
                have g0 := hbx'.cells.1
                have g1 := (hb'.cell (p := ⟨b, off + u, none⟩) (by show b < _; omega)).trans e1
                have g2 := (hb'.cell (p := ⟨b2, off2 + pi * 2, none⟩) (by show b2 < _; omega)).trans e6
                have g3 := (hb'.cell (p := ⟨bp, offp + u, none⟩) (by show bp < _; omega)).trans (HCS.out u (by omega)).1
                rw [hpi] at g3
                have i1 : (u : Int) < N.ends.length := by omega
                have i2 : (u : Int) < ps.length := by omega
                have i3 : (pi : Int) < (nthL N.ends u).length := by omega
                clear e1 e6 hpi hupe
                go_wp2_with fail
                go_quiet (fail)
                go_wp2_with fail
                go_roundg (ps.length - m)
                case measure => omega
                case rel =>
                  refine ⟨m + 1, up N ps u, by omega, by omega, rfl, hupl, Lib.hid ?_, ?_, hbx', below_drewN hb' _⟩
                  · rw [HH.out, show ps.length + 1 - m = (ps.length - m) + 1 by omega, hops_up _ _ _ _ _ HUR.out, show ps.length + 1 - (m + 1) = ps.length - m by omega]
                    omega
                  · refine rowIs_drewN ((hrow.set k _).congr fun j hj => ?_) _
                    by_cases e : j = k
                    · subst e; rw [if_pos rfl, if_pos rfl]; go_num
                    · rw [if_neg e, if_neg e, if_neg e]
              · obtain rfl : m = ps.length := by omega
                have oc2 := (hrow.set k (.int .i64 ((ps.length : Int) + 1))).cell hlt
                rw [if_pos rfl] at oc2
                go_wp2_with fail
                go_ret3
                have hf := tdOk_far (N := N) hlt (by rw [HR.out, Int.toNat_natCast, HH.out, show ps.length + 1 - ps.length = 0 + 1 by omega, hops_up _ _ _ _ _ HUR.out]; omega)
                have e := td_no hf
                exact ⟨_, ret_ivb e.1.symm hf.symm, by rw [e.2]; exact IntS.nil _ _ _, hb.setCell (p := ⟨w5.heap.size, k, none⟩) (by show w.heap.size ≤ w5.heap.size; omega) _⟩
        · obtain rfl : k = ps.length := by omega
          go_wp2_with fail
          go_ret3
          have hy := tdOk_yes HL.out HB.out (by rw [HR.out]; omega) (by rw [HR.out, Int.toNat_natCast]; exact HD.out)
          refine ⟨.slice (some ⟨w5.heap.size, 0, none⟩) ps.length ps.length, ret_ivb (by unfold tdRoot; rw [hy, HR.out]; rfl) hy.symm, ?_, hb⟩
          have e : tdDepths N ps = tdAll N ps := by unfold tdDepths; rw [hy]; rfl
          rw [e]
          unfold IntS
          rw [tdAll_length]
          exact (Sl.of_row hrow (by omega) (by omega) (Nat.le_refl _) (by unfold maxLen; omega)).congr fun j hj => by rw [if_pos (by omega), nth_tdAll N ps (by omega), HR.out, Int.toNat_natCast]

end Go.Proofs.Ytgpbnanidjkliaa
