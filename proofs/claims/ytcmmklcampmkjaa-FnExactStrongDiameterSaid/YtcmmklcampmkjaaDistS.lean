/-
  Contracts of the reference's neNear and meFrom.
-/
import Derived.Test.YtcmmklcampmkjaaDistP
import Derived.Test.YtcmmklcampmkjaaRepeat
import Derived.Test.YtcmmklcampmkjaaExt
import Derived.Deep.RegionHeld3
namespace Go.Proofs.Ytcmmklcampmkjaa
open Go.ChangeShapes Go.WideShapes Go.ChangeAt Go.RowKit
set_option linter.unusedVariables false

set_option maxHeartbeats 1000000 in
set_option maxRecDepth 100000 in
theorem neNear_any (v : Value) (N : NetD) (u : Nat) (lo hi : Nat) (w : World) (h : Net w lo hi v N) (hhi : hi ≤ w.heap.size) (hu : u < N.ends.length) (hd : (nthL N.ends u).length ≤ 1048576) :
    Calls Try.prog 73 #[v, .int .i64 u] w fun e w' => ∃ r, e = .returned r ∧ IntS w' w.heap.size w'.heap.size r (nbs N u) ∧ Below w.heap.size w w' := by
  obtain ⟨A, c, A2, c2, A3, c3, rfl, hc1, hc2, _, _, hopen⟩ := h.parts
  obtain ⟨b, off, rfl, hb1, hb2, hN⟩ := hopen (by omega)
  obtain ⟨W0, HW0⟩ : ∃ W0, Hid (W0 = w.alloc (.cells #[.slice (some ⟨b, off, none⟩) N.ends.length c, .slice A2 N.ids.length c2, .slice A3 N.inputs.length c3] 34)) := ⟨_, Lib.hid rfl⟩
  have b0 : Box3 W0 w.heap.size 34 (.slice (some ⟨b, off, none⟩) N.ends.length c) (.slice A2 N.ids.length c2) (.slice A3 N.inputs.length c3) := by rw [HW0.out]; exact Box3.new w 34 _ _ _
  have hb0 : Below w.heap.size w W0 := by rw [HW0.out]; exact below_a1 _ _
  have hs0 : w.heap.size + 1 ≤ W0.heap.size := by rw [HW0.out]; simp
  obtain ⟨A4, c4, hu4, hd1, hd2, hcell⟩ := hN u hu
  have g1 := (hb0.cell (p := ⟨b, off + u, none⟩) (by show b < _; omega)).trans hu4
  have g0 := b0.cells.1
  have hul : (u : Int) < N.ends.length := by omega
  rw [HW0.out] at g1 g0
  clear h hopen hN hu4
  go_enter Try.func73, Try.ntmps73
  go_wp2
  rw [← HW0.out]
  clear HW0 g1 g0
  go_loopw [14, 5] (fun i ov wr => ∃ (k : Nat) (zs : List Int), k ≤ (nthL N.ends u).length ∧ i = .int .i64 k ∧ OwnI wr (w.heap.size + 1) 3 ov zs ∧ Hid (zs = (nbs N u).take k) ∧ zs.length ≤ k ∧ w.heap.size + 1 ≤ wr.heap.size ∧ Below w.heap.size w wr) (fun i _ _ => (nthL N.ends u).length - (intOf i).toNat)
  case atStart => exact ⟨0, [], Nat.zero_le _, rfl, OwnI.nil _ _ _, Lib.hid (by simp), Nat.zero_le _, hs0, hb0⟩
  case round =>
    clear b0 hb0 hs0
    obtain ⟨k, zs, hk, rfl, ho, HD, hzl, hs, hb⟩ := hrel
    by_cases hlt : k < (nthL N.ends u).length
    · obtain ⟨b2, off2, rfl, hb5, hb6, hcs⟩ := hcell (by omega)
      obtain ⟨x1, x2⟩ := hcs k hlt
      have e1 := (hb.cell (p := ⟨b2, off2 + k * 2, none⟩) (by show b2 < _; omega)).trans x1
      have e2 := (hb.cell (p := ⟨b2, off2 + k * 2 + 1, none⟩) (by show b2 < _; omega)).trans x2
      clear hcs x1 x2 hcell
      obtain ⟨p1, p2, HP⟩ : ∃ p1 p2, Hid (nthE (nthL N.ends u) k = (p1, p2)) := ⟨_, _, Lib.hid rfl⟩
      rw [HP.out] at e1 e2
      dsimp only at e1 e2
      go_wp2_with (at_builtin; refine append_int (s := .tmp 18) Try.underlying23 Try.info3 (by decide) (wr.alloc (.cells #[.int .i64 p1, .int .i64 p2] 60)) rfl _ rfl (Own.alloc ho _) p1 _ rfl (by simp [Act.eval, go_sem]) (by omega) (by simp; omega) ?_; intro v' w' ho' hg' hat')
      go_roundw
      case rel =>
        refine ⟨k + 1, zs ++ [p1], by omega, by go_num, ho', Lib.hid ?_, by simp; omega, ?_, ?_⟩
        · rw [List.take_succ_eq_append_getElem (by rw [nbs_length]; exact hlt), ← nth_eq, nth_nbs N u hlt, HP.out, HD.out]
        · have := hg'.size; simp at this; omega
        · exact (hb.alloc hb.size _).grown hg' (by have := hb.size; simp; omega) fun g hg => by have := (OwnI.lt ho g hg).1; omega
      case measure => simp [intOf]; omega
    · obtain rfl : k = (nthL N.ends u).length := by omega
      go_wp2
      go_ret
      refine ⟨_, rfl, ?_, hb⟩
      have e : nbs N u = zs := by rw [HD.out, List.take_of_length_le (by rw [nbs_length]; exact Nat.le_refl _)]
      rw [e]
      exact ho.ints.mono (by omega) (Nat.le_refl _)

theorem Box3.grown {w w' : World} {g : Nat} {t : TypeId} {a b c : Value} {row : Option Nat} (h : Box3 w g t a b c) (hg : w.grownBy w' row) (hr : ∀ k, row = some k → k ≠ g) : Box3 w' g t a b c := (hg.block g h.lt (fun e => hr g e.symm rfl)).trans h
theorem IntS.of_row {w : World} {b n : Nat} {t : TypeId} {zs : List Int} (h : w.rowIs b t n (fun j => .int .i64 (nth zs j))) (hn : zs.length = n) (hm : n ≤ maxLen) : IntS w b (b + 1) (.slice (some ⟨b, 0, none⟩) n n) zs := by
  subst hn
  refine ⟨_, _, rfl, Nat.le_refl _, hm, fun hpos => ⟨b, 0, rfl, Nat.le_refl _, by omega, fun j hj => ?_⟩⟩
  rw [Nat.zero_add]
  exact ⟨h.cell (by omega), h.frozen j⟩

set_option maxHeartbeats 4000000 in
set_option maxRecDepth 100000 in
theorem meFrom_any (v : Value) (N : NetD) (x : Nat) (lo hi : Nat) (w : World) (h : Net w lo hi v N) (hhi : hi ≤ w.heap.size) (hx : x < N.ends.length) (hn : N.ends.length ≤ 1048576) (hN : N.nodes) (hdeg : ∀ u, u < N.ends.length → (nthL N.ends u).length ≤ 1048576) :
    Calls Try.prog 54 #[v, .int .i64 x] w fun e w' => ∃ r, e = .returned r ∧ IntS w' w.heap.size w'.heap.size r (dist N x) ∧ Below w.heap.size w w' := by
  have HNET := Lib.hid h
  obtain ⟨A, c, A2, c2, A3, c3, rfl, hc1, hc2, _, _, _⟩ := h.parts
  obtain ⟨W0, HW0⟩ : ∃ W0, Hid (W0 = w.alloc (.cells #[.slice A N.ends.length c, .slice A2 N.ids.length c2, .slice A3 N.inputs.length c3] 34)) := ⟨_, Lib.hid rfl⟩
  have b0 : Box3 W0 w.heap.size 34 (.slice A N.ends.length c) (.slice A2 N.ids.length c2) (.slice A3 N.inputs.length c3) := by rw [HW0.out]; exact Box3.new w 34 _ _ _
  have hb0 : Below w.heap.size w W0 := by rw [HW0.out]; exact below_a1 _ _
  have hs0 : W0.heap.size = w.heap.size + 1 := by rw [HW0.out]; simp
  have hxl : (x : Int) < N.ends.length := by omega
  have HNN := Lib.hid hN
  have HDG := Lib.hid hdeg
  clear h hN hdeg
  have hmk := fun W => run_make_row' (P := Try.prog) 23 3 (.int .i64 0) 8 Try.underlying23 Try.info3 rfl .i64 .i64 N.ends.length (by omega) (by omega) W
  go_enter Try.func54, Try.ntmps54
  go_wp2_with fail
  rw [← HW0.out]
  clear HW0 hmk
  go_loopw [17] (fun i wr => ∃ k : Nat, k ≤ N.ends.length ∧ i = .int .i64 k ∧ wr.rowIs (w.heap.size + 1) 3 N.ends.length (fun j => .int .i64 (if j < k then -1 else 0)) ∧ Box3 wr w.heap.size 34 (.slice A N.ends.length c) (.slice A2 N.ids.length c2) (.slice A3 N.inputs.length c3) ∧ wr.heap.size = w.heap.size + 2 ∧ Below w.heap.size w wr) (fun i _ => N.ends.length - (intOf i).toNat)
  case atStart => exact ⟨0, Nat.zero_le _, rfl, (by rw [← hs0]; exact (World.rowIs_made W0 (.int .i64 0) N.ends.length 3).congr (fun i _ => by simp)), b0.alloc _, by simp [hs0], hb0.alloc (by omega) _⟩
  case round =>
    clear b0 hb0 hs0
    obtain ⟨k, hk, rfl, hrow, hbx, hsz, hb⟩ := hrel
    by_cases hlt : k < N.ends.length
    · have hoc := hrow.cell hlt
      have hof := hrow.frozen k
      go_wp2_with fail
      go_roundw
      case rel =>
        refine ⟨k + 1, by omega, by go_num, (hrow.set k (.int .i64 (-1))).congr fun j hj => ?_, hbx.far (by simp) _, by rw [size_setCell]; exact hsz, hb.setCell (by simp) _⟩
        by_cases e : j = k
        · subst e; simp
        · simp only [if_neg e]
          by_cases e2 : j < k
          · rw [if_pos e2, if_pos (by omega)]
          · rw [if_neg e2, if_neg (by omega)]
      case measure => simp [intOf]; omega
    obtain rfl : k = N.ends.length := by omega
    have hO : IntS wr (w.heap.size + 1) (w.heap.size + 1 + 1) (.slice (some ⟨w.heap.size + 1, 0, none⟩) N.ends.length N.ends.length) (List.replicate N.ends.length (-1)) :=
      IntS.of_row (hrow.congr fun j hj => by rw [if_pos hj, nth_replicate _ _ hj]) (by simp) (by unfold maxLen; omega)
    have hoc := hO.at0 (j := x) (by simpa using hx)
    rw [nth_replicate _ _ hx] at hoc
    obtain ⟨hoc1, hoc2⟩ := hoc
    obtain ⟨w5, rfl⟩ : ∃ w5 : World, w5 = wr := ⟨_, rfl⟩
    go_wp2_with fail
    have hO1 := (hO.set0 (j := x) (by simpa using hx) 0).alloc (by rw [size_setCell]; omega) (.cells #[.int .i64 x] 3)
    have hQ1 := OwnQ.one (base := w.heap.size + 2) (w5.setCell ⟨w.heap.size + 1, x, none⟩ (.int .i64 0)) x 3 (g := w.heap.size + 2) (by rw [size_setCell]; exact hsz) (by omega)
    have hbx1 := (hbx.far (p := ⟨w.heap.size + 1, x, none⟩) (by simp) (.int .i64 0)).alloc (.cells #[.int .i64 x] 3)
    have hb1 := (hb.setCell (p := ⟨w.heap.size + 1, x, none⟩) (by simp) (.int .i64 0)).alloc (by rw [size_setCell]; omega) (.cells #[.int .i64 x] 3)
    have hs1 : w.heap.size + 2 ≤ ((w5.setCell ⟨w.heap.size + 1, x, none⟩ (.int .i64 0)).alloc (.cells #[.int .i64 x] 3)).heap.size := by simp; omega
    clear hO hrow hoc1 hoc2 hbx hb
    go_loopw [8, 7] (fun i qv wr => ∃ (a : Nat) (st : BSt), i = .int .i64 a ∧ OwnQ wr (w.heap.size + 2) qv st.2 ∧ IntS wr (w.heap.size + 1) (w.heap.size + 2) (.slice (some ⟨w.heap.size + 1, 0, none⟩) N.ends.length N.ends.length) st.1 ∧ Hid (BTop N x a st) ∧
        a ≤ st.2.length ∧ st.2.length ≤ N.ends.length ∧ Box3 wr w.heap.size 34 (.slice A N.ends.length c) (.slice A2 N.ids.length c2) (.slice A3 N.inputs.length c3) ∧ w.heap.size + 2 ≤ wr.heap.size ∧ Below w.heap.size w wr) (fun i _ _ => N.ends.length - (intOf i).toNat)
    case atStart => exact ⟨0, bfs0 N x, rfl, hQ1, hO1, Lib.hid (BTop.start hx), Nat.zero_le _, (BInv.start hx).le, hbx1, hs1, hb1⟩
    case round =>
      clear hO1 hQ1 hbx1 hb1 hs1
      obtain ⟨a, st, rfl, hQ, hO, HT, hal, hln, hbx, hs, hb⟩ := hrel
      by_cases hlt : a < st.2.length
      case neg =>
        obtain rfl : a = st.2.length := by omega
        obtain ⟨g, off, cq, rfl, _⟩ := hQ
        go_wp2_with fail
        go_ret
        refine ⟨.slice (some ⟨w.heap.size + 1, 0, none⟩) N.ends.length N.ends.length, rfl, ?_, hb⟩
        rw [HT.out.stop]
        exact hO.mono (by omega) hs
      obtain ⟨u, hu1, hu2, hu3, hu4⟩ := HT.out.inv.node a hlt
      have HQ := Lib.hid hQ
      obtain ⟨g, off, cq, rfl, hq1, hq2, hq3, hq4, hq5, hq6⟩ := hQ
      have kw := hq5 a hlt
      rw [hu1] at kw
      obtain ⟨k0, k1, k2⟩ := hbx.cells
      have HU1 := Lib.hid hu1
      clear hu1 hq5 hq6
      go_wp2_with fail
      go_region_held3 (fun w' => w'.cell? ⟨w.heap.size, 0, none⟩ = some (.slice A N.ends.length c) ∧ w'.cell? ⟨w.heap.size, 1, none⟩ = some (.slice A2 N.ids.length c2) ∧ w'.cell? ⟨w.heap.size, 2, none⟩ = some (.slice A3 N.inputs.length c3) ∧ w'.cell? ⟨g, off + a, none⟩ = some (.int .i64 u))
        (first | exact ⟨k0, k1, k2, kw⟩ | exact ⟨l0, l1, l2, lw⟩)
        (first | (go_at_call 73; refine (neNear_any _ N u lo hi _ (HNET.out.below hb.drew hhi) (by show _ ≤ wr.heap.size; omega) hu2 (HDG.out u hu2)).mono ?_; rintro e w1 ⟨r, rfl, hr, hbr⟩; have hbr' : Below wr.heap.size wr w1 := (Below.refl _ _).drew.trans hbr; have l0 := (hbx.below hbr' hbx.lt).cells.1; have l1 := (hbx.below hbr' hbx.lt).cells.2.1; have l2 := (hbx.below hbr' hbx.lt).cells.2.2; have lw := (hbr'.cell (p := ⟨g, off + a, none⟩) hq4).trans kw; have HR := Lib.hid hr; obtain ⟨R, rc, rfl⟩ := hr.shape; clear hr hbr))
      rename_i hheld
      clear hheld l0 l1 l2 lw k0 k1 k2 kw
      have HQ1 := Lib.hid (HQ.out.below hbr' (Nat.le_refl _))
      have hO1 := hO.below hbr' (by omega)
      have hbx1 := hbx.below hbr' hbx.lt
      have hb1 := hb.trans (hbr'.mono hb.size)
      have hR1 := HR.out
      change IntS w1 wr.heap.size w1.heap.size _ _ at hR1
      have hs1 := hbr'.size
      obtain ⟨d, HD⟩ : ∃ d, Hid (nth st.1 u = d) := ⟨_, Lib.hid rfl⟩
      rw [HD.out] at hu3 hu4
      obtain ⟨sR, HSR⟩ : ∃ sR, sR = wr.heap.size := ⟨_, rfl⟩
      rw [← HSR] at hR1 hs1 hq4 hs
      clear HQ hO hbx hb hbr' HR HSR
      have hd1 := HDG.out u hu2
      have hnl := nbs_length N u
      have hnn : (nbs N u).length ≤ 1048576 := by omega
      have HNL := Lib.hid hnl
      clear hnl
      obtain ⟨sR1, HSR1⟩ : ∃ sR1, sR1 = w1.heap.size := ⟨_, rfl⟩
      rw [← HSR1] at hR1 hs1
      have hs2 : sR1 ≤ w1.heap.size := by omega
      clear HSR1
      go_wp2_with fail
      go_loopw [42, 7] (fun i qv wi => ∃ (m : Nat) (sk : BSt), m ≤ (nbs N u).length ∧ i = .int .i64 m ∧ OwnQ wi (w.heap.size + 2) qv sk.2 ∧ (∀ k, qv.ownBlock = some k → k < sR ∨ sR1 ≤ k) ∧ IntS wi (w.heap.size + 1) (w.heap.size + 2) (.slice (some ⟨w.heap.size + 1, 0, none⟩) N.ends.length N.ends.length) sk.1 ∧ Hid (BMid N a st u d m sk) ∧
          a < sk.2.length ∧ sk.2.length ≤ N.ends.length ∧ Box3 wi w.heap.size 34 (.slice A N.ends.length c) (.slice A2 N.ids.length c2) (.slice A3 N.inputs.length c3) ∧ IntS wi sR sR1 (.slice R (nbs N u).length rc) (nbs N u) ∧ sR1 ≤ wi.heap.size ∧ Below w.heap.size w wi) (fun i _ _ => (nbs N u).length - (intOf i).toNat)
      case atStart => exact ⟨0, st, Nat.zero_le _, rfl, HQ1.out, fun k hk => .inl (by have hk' : some g = some k := hk; injection hk' with hk'; omega), hO1, Lib.hid (BMid.start HT.out.inv hlt HU1.out HD.out), hlt, hln, hbx1, hR1, hs2, hb1⟩
      case round =>
        clear HQ1 hO1 hbx1 hb1 hR1 hs2
        obtain ⟨m, sk, hm, rfl, hQ, hfar, hO, HM, hal, hln, hbx, hR, hs2, hb⟩ := hrel
        have HQ := Lib.hid hQ
        obtain ⟨g, off, cq, rfl, hq1, hq2, hq3, hq4, hq5, _⟩ := hQ
        by_cases hml : m < (nbs N u).length
        case neg =>
          obtain rfl : m = (nbs N u).length := by omega
          rw [HNL.out] at HM
          go_wp2_with fail
          go_roundw
          case rel => exact ⟨a + 1, sk, by go_num, HQ.out, hO, Lib.hid (HT.out.next hlt HM.out HU1.out HD.out), hal, hln, hbx, by omega, hb⟩
          case measure => simp [intOf]; omega
        obtain ⟨_, _, er, hrc1, hrc2, hrcell⟩ := hR.form
        injection er with er1 _ er3
        subst er1 er3
        obtain ⟨bR, oR, rfl, hbR1, hbR2, hcR⟩ := hrcell (by omega)
        have rk := (hcR m hml).1
        have hml' : m < (nthL N.ends u).length := by rw [← HNL.out]; exact hml
        obtain ⟨t, ht, htl⟩ := HNN.out u hu2 m hml'
        rw [nth_nbs N u hml', ht] at rk
        have kw := hq5 a hal
        rw [HM.out.at_] at kw
        have hlen : sk.1.length = N.ends.length := HM.out.inv.len
        have ht1 := (hO.at0 (j := t) (by omega)).1
        have ht2 := (hO.at0 (j := t) (by omega)).2
        have hu1 := (hO.at0 (j := u) (by omega)).1
        rw [HM.out.here] at hu1
        obtain ⟨y, HY⟩ : ∃ y, Hid (nth sk.1 t = y) := ⟨_, Lib.hid rfl⟩
        rw [HY.out] at ht1
        have HTT := Lib.hid ht
        have hti : (t : Int) < N.ends.length := by omega
        have hui : (u : Int) < N.ends.length := by omega
        clear ht hcR hrcell hq5 hlen
        by_cases hy : y < 0
        case neg =>
          go_wp2_with fail
          go_roundw
          case rel =>
            refine ⟨m + 1, sk, by omega, by go_num, HQ.out, hfar, hO, Lib.hid ?_, hal, hln, hbx, hR, hs2, hb⟩
            have := HM.out.next hml' HTT.out htl
            rwa [see_pos (by rw [HY.out]; exact hy)] at this
          case measure => simp [intOf]; omega
        obtain ⟨wo, rfl⟩ : ∃ wo : World, wo = wr := ⟨_, rfl⟩
        have hnext : Hid (BMid N a st u d (m + 1) (sk.1.set t (d + 1), sk.2 ++ [(t : Int)])) := Lib.hid (by
          have := HM.out.next hml' HTT.out htl
          rwa [see_neg (by rw [HY.out]; exact hy)] at this)
        have hO2 := hO.set0 (j := t) (by rw [HM.out.inv.len]; exact htl) (d + 1)
        have HQ2 := Lib.hid (HQ.out.setCell (p := ⟨w.heap.size + 1, t, none⟩) (by simp) (.int .i64 (d + 1)))
        have hR2 := hR.setCell (p := ⟨w.heap.size + 1, t, none⟩) (by left; show w.heap.size + 1 < sR; omega) (.int .i64 (d + 1))
        have hbx2 := hbx.far (p := ⟨w.heap.size + 1, t, none⟩) (by simp) (.int .i64 (d + 1))
        have hb2 := hb.setCell (p := ⟨w.heap.size + 1, t, none⟩) (by simp) (.int .i64 (d + 1))
        go_wp2_with (at_builtin; refine append_q (s := .tmp 62) Try.underlying23 Try.info3 (by decide) (wo.setCell ⟨w.heap.size + 1, t, none⟩ (.int .i64 (d + 1))) rfl _ rfl HQ2.out t _ rfl (by simp [Act.eval, go_sem]) (by omega) ?_; intro v' w' hq' hg' hat')
        go_roundw
        case rel =>
          have hrow : ∀ k, (Value.slice (some ⟨g, off, none⟩) sk.2.length cq).ownBlock = some k → k = g := fun k hk => by have hk' : some g = some k := hk; injection hk' with hk'; exact hk'.symm
          have hsz2 : (wo.setCell ⟨w.heap.size + 1, t, none⟩ (.int .i64 (d + 1))).heap.size = wo.heap.size := size_setCell _ _ _
          have hgs := hg'.size
          rw [hsz2] at hgs hat'
          refine ⟨m + 1, (sk.1.set t (d + 1), sk.2 ++ [(t : Int)]), by omega, by go_num, hq', fun k hk => ?_, hO2.far hg' (by rw [hsz2]; omega) (fun k hk => by have := hrow k hk; omega), hnext, by simp; omega, hnext.out.inv.le, hbx2.grown hg' (fun k hk => by have := hrow k hk; omega), hR2.far hg' (by rw [hsz2]; omega) hfar, by omega, hb2.grown hg' (by rw [hsz2]; omega) fun k hk => by have := hrow k hk; omega⟩
          rcases hat' k hk with e | e
          · exact hfar k e
          · right; omega
        case measure => simp [intOf]; omega

end Go.Proofs.Ytcmmklcampmkjaa
