/-
  Several texts in one: DistS, Frame, QuadP, TrP, TrS. No condition on any program.
-/
import Derived.Test.YtcmmklcampmkjaaBcD
import Derived.Deep.RegionHeld3
import Derived.Test.YtcmmklcampmkjaaBcA

/- Contracts of the reference's neNear and meFrom. -/
namespace Go.Proofs.Ytcmmklcampmkjaa
open Go.ChangeShapes Go.WideShapes Go.ChangeAt Go.RowKit
set_option linter.unusedVariables false

set_option maxHeartbeats 1000000 in
set_option maxRecDepth 100000 in
theorem neNear_any (v : Value) (N : NetD) (u : Nat) (lo hi : Nat) (w : World) (h : Net w lo hi v N) (hhi : hi ≤ w.heap.size) (hu : u < N.ends.length) (hd : (nthL N.ends u).length ≤ 1048576) :
    Calls Try.prog 73 #[v, .int .i64 u] w fun e w' => ∃ r, e = .returned r ∧ IntS w' w.heap.size w'.heap.size r (nbs N u) ∧ Below w.heap.size w w' := by
  obtain ⟨A, c, A2, c2, A3, c3, rfl, hc1, hc2, _, _, hopen⟩ := h.parts
  obtain ⟨b, off, rfl, hb1, hb2, hN⟩ := hopen (by omega)
  obtain ⟨W0, HW0⟩ : ∃ W0, Hid (W0 = w.alloc (.cells #[.slice (some ⟨b, off, none⟩) N.ends.length c, .slice A2 N.ids.length c2, .slice A3 N.inputs.length c3] 34)) := ⟨_, Lib.hid rfl⟩
  have b0 : Box3 W0 w.heap.size 34 (.slice (some ⟨b, off, none⟩) N.ends.length c) (.slice A2 N.ids.length c2) (.slice A3 N.inputs.length c3) := by rw [HW0.out]; exact Box3.new w 34 _ _ _
  have hb0 : Below w.heap.size w W0 := by rw [HW0.out]; exact below_a1 _ _
  have hs0 : w.heap.size + 1 ≤ W0.heap.size := by rw [HW0.out]; simp
  obtain ⟨A4, c4, hu4, hd1, hd2, hcell⟩ := hN u hu
  have g1 := (hb0.cell (p := ⟨b, off + u, none⟩) (by show b < _; omega)).trans hu4
  have g0 := b0.cells.1
  have hul : (u : Int) < N.ends.length := by omega
  rw [HW0.out] at g1 g0
  clear h hopen hN hu4
  go_enter Try.func73, Try.ntmps73
  go_wp2
  rw [← HW0.out]
  clear HW0 g1 g0
  go_loopw [14, 5] (fun i ov wr => ∃ (k : Nat) (zs : List Int), k ≤ (nthL N.ends u).length ∧ i = .int .i64 k ∧ OwnI wr (w.heap.size + 1) 3 ov zs ∧ Hid (zs = (nbs N u).take k) ∧ zs.length ≤ k ∧ w.heap.size + 1 ≤ wr.heap.size ∧ Below w.heap.size w wr) (fun i _ _ => (nthL N.ends u).length - (intOf i).toNat)
  case atStart => exact ⟨0, [], Nat.zero_le _, rfl, OwnI.nil _ _ _, Lib.hid (by simp), Nat.zero_le _, hs0, hb0⟩
  case round =>
    clear b0 hb0 hs0
    obtain ⟨k, zs, hk, rfl, ho, HD, hzl, hs, hb⟩ := hrel
    by_cases hlt : k < (nthL N.ends u).length
    · obtain ⟨b2, off2, rfl, hb5, hb6, hcs⟩ := hcell (by omega)
      obtain ⟨x1, x2⟩ := hcs k hlt
      have e1 := (hb.cell (p := ⟨b2, off2 + k * 2, none⟩) (by show b2 < _; omega)).trans x1
      have e2 := (hb.cell (p := ⟨b2, off2 + k * 2 + 1, none⟩) (by show b2 < _; omega)).trans x2
      clear hcs x1 x2 hcell
      obtain ⟨p1, p2, HP⟩ : ∃ p1 p2, Hid (nthE (nthL N.ends u) k = (p1, p2)) := ⟨_, _, Lib.hid rfl⟩
      rw [HP.out] at e1 e2
      dsimp only at e1 e2
      go_wp2_with (at_builtin; refine append_int (s := .tmp 18) Try.underlying23 Try.info3 (by decide) (wr.alloc (.cells #[.int .i64 p1, .int .i64 p2] 60)) rfl _ rfl (Own.alloc ho _) p1 _ rfl (by simp [Act.eval, go_sem]) (by omega) (by simp; omega) ?_; intro v' w' ho' hg' hat')
      go_roundw
      case rel =>
        refine ⟨k + 1, zs ++ [p1], by omega, by go_num, ho', Lib.hid ?_, by simp; omega, ?_, ?_⟩
        · rw [List.take_succ_eq_append_getElem (by rw [nbs_length]; exact hlt), ← nth_eq, nth_nbs N u hlt, HP.out, HD.out]
        · have := hg'.size; simp at this; omega
        · exact (hb.alloc hb.size _).grown hg' (by have := hb.size; simp; omega) fun g hg => by have := (OwnI.lt ho g hg).1; omega
      case measure => simp [intOf]; omega
    · obtain rfl : k = (nthL N.ends u).length := by omega
      go_wp2
      go_ret
      refine ⟨_, rfl, ?_, hb⟩
      have e : nbs N u = zs := by rw [HD.out, List.take_of_length_le (by rw [nbs_length]; exact Nat.le_refl _)]
      rw [e]
      exact ho.ints.mono (by omega) (Nat.le_refl _)

theorem Box3.grown {w w' : World} {g : Nat} {t : TypeId} {a b c : Value} {row : Option Nat} (h : Box3 w g t a b c) (hg : w.grownBy w' row) (hr : ∀ k, row = some k → k ≠ g) : Box3 w' g t a b c := (hg.block g h.lt (fun e => hr g e.symm rfl)).trans h
theorem IntS.of_row {w : World} {b n : Nat} {t : TypeId} {zs : List Int} (h : w.rowIs b t n (fun j => .int .i64 (nth zs j))) (hn : zs.length = n) (hm : n ≤ maxLen) : IntS w b (b + 1) (.slice (some ⟨b, 0, none⟩) n n) zs := by
  subst hn
  refine ⟨_, _, rfl, Nat.le_refl _, hm, fun hpos => ⟨b, 0, rfl, Nat.le_refl _, by omega, fun j hj => ?_⟩⟩
  rw [Nat.zero_add]
  exact ⟨h.cell (by omega), h.frozen j⟩

set_option maxHeartbeats 4000000 in
set_option maxRecDepth 100000 in
theorem meFrom_any (v : Value) (N : NetD) (x : Nat) (lo hi : Nat) (w : World) (h : Net w lo hi v N) (hhi : hi ≤ w.heap.size) (hx : x < N.ends.length) (hn : N.ends.length ≤ 1048576) (hN : N.nodes) (hdeg : ∀ u, u < N.ends.length → (nthL N.ends u).length ≤ 1048576) :
    Calls Try.prog 54 #[v, .int .i64 x] w fun e w' => ∃ r, e = .returned r ∧ IntS w' w.heap.size w'.heap.size r (dist N x) ∧ Below w.heap.size w w' := by
  have HNET := Lib.hid h
  obtain ⟨A, c, A2, c2, A3, c3, rfl, hc1, hc2, _, _, _⟩ := h.parts
  obtain ⟨W0, HW0⟩ : ∃ W0, Hid (W0 = w.alloc (.cells #[.slice A N.ends.length c, .slice A2 N.ids.length c2, .slice A3 N.inputs.length c3] 34)) := ⟨_, Lib.hid rfl⟩
  have b0 : Box3 W0 w.heap.size 34 (.slice A N.ends.length c) (.slice A2 N.ids.length c2) (.slice A3 N.inputs.length c3) := by rw [HW0.out]; exact Box3.new w 34 _ _ _
  have hb0 : Below w.heap.size w W0 := by rw [HW0.out]; exact below_a1 _ _
  have hs0 : W0.heap.size = w.heap.size + 1 := by rw [HW0.out]; simp
  have hxl : (x : Int) < N.ends.length := by omega
  have HNN := Lib.hid hN
  have HDG := Lib.hid hdeg
  clear h hN hdeg
  have hmk := fun W => run_make_row' (P := Try.prog) 23 3 (.int .i64 0) 8 Try.underlying23 Try.info3 rfl .i64 .i64 N.ends.length (by omega) (by omega) W
  go_enter Try.func54, Try.ntmps54
  go_wp2_with fail
  rw [← HW0.out]
  clear HW0 hmk
  go_loopw [17] (fun i wr => ∃ k : Nat, k ≤ N.ends.length ∧ i = .int .i64 k ∧ wr.rowIs (w.heap.size + 1) 3 N.ends.length (fun j => .int .i64 (if j < k then -1 else 0)) ∧ Box3 wr w.heap.size 34 (.slice A N.ends.length c) (.slice A2 N.ids.length c2) (.slice A3 N.inputs.length c3) ∧ wr.heap.size = w.heap.size + 2 ∧ Below w.heap.size w wr) (fun i _ => N.ends.length - (intOf i).toNat)
  case atStart => exact ⟨0, Nat.zero_le _, rfl, (by rw [← hs0]; exact (World.rowIs_made W0 (.int .i64 0) N.ends.length 3).congr (fun i _ => by simp)), b0.alloc _, by simp [hs0], hb0.alloc (by omega) _⟩
  case round =>
    clear b0 hb0 hs0
    obtain ⟨k, hk, rfl, hrow, hbx, hsz, hb⟩ := hrel
    by_cases hlt : k < N.ends.length
    · have hoc := hrow.cell hlt
      have hof := hrow.frozen k
      go_wp2_with fail
      go_roundw
      case rel =>
        refine ⟨k + 1, by omega, by go_num, (hrow.set k (.int .i64 (-1))).congr fun j hj => ?_, hbx.far (by simp) _, by rw [size_setCell]; exact hsz, hb.setCell (by simp) _⟩
        by_cases e : j = k
        · subst e; simp
        · simp only [if_neg e]
          by_cases e2 : j < k
          · rw [if_pos e2, if_pos (by omega)]
          · rw [if_neg e2, if_neg (by omega)]
      case measure => simp [intOf]; omega
    obtain rfl : k = N.ends.length := by omega
    have hO : IntS wr (w.heap.size + 1) (w.heap.size + 1 + 1) (.slice (some ⟨w.heap.size + 1, 0, none⟩) N.ends.length N.ends.length) (List.replicate N.ends.length (-1)) :=
      IntS.of_row (hrow.congr fun j hj => by rw [if_pos hj, nth_replicate _ _ hj]) (by simp) (by unfold maxLen; omega)
    have hoc := hO.at0 (j := x) (by simpa using hx)
    rw [nth_replicate _ _ hx] at hoc
    obtain ⟨hoc1, hoc2⟩ := hoc
    obtain ⟨w5, rfl⟩ : ∃ w5 : World, w5 = wr := ⟨_, rfl⟩
    go_wp2_with fail
    have hO1 := (hO.set0 (j := x) (by simpa using hx) 0).alloc (by rw [size_setCell]; omega) (.cells #[.int .i64 x] 3)
    have hQ1 := OwnQ.one (base := w.heap.size + 2) (w5.setCell ⟨w.heap.size + 1, x, none⟩ (.int .i64 0)) x 3 (g := w.heap.size + 2) (by rw [size_setCell]; exact hsz) (by omega)
    have hbx1 := (hbx.far (p := ⟨w.heap.size + 1, x, none⟩) (by simp) (.int .i64 0)).alloc (.cells #[.int .i64 x] 3)
    have hb1 := (hb.setCell (p := ⟨w.heap.size + 1, x, none⟩) (by simp) (.int .i64 0)).alloc (by rw [size_setCell]; omega) (.cells #[.int .i64 x] 3)
    have hs1 : w.heap.size + 2 ≤ ((w5.setCell ⟨w.heap.size + 1, x, none⟩ (.int .i64 0)).alloc (.cells #[.int .i64 x] 3)).heap.size := by simp; omega
    clear hO hrow hoc1 hoc2 hbx hb
    go_loopw [8, 7] (fun i qv wr => ∃ (a : Nat) (st : BSt), i = .int .i64 a ∧ OwnQ wr (w.heap.size + 2) qv st.2 ∧ IntS wr (w.heap.size + 1) (w.heap.size + 2) (.slice (some ⟨w.heap.size + 1, 0, none⟩) N.ends.length N.ends.length) st.1 ∧ Hid (BTop N x a st) ∧
        a ≤ st.2.length ∧ st.2.length ≤ N.ends.length ∧ Box3 wr w.heap.size 34 (.slice A N.ends.length c) (.slice A2 N.ids.length c2) (.slice A3 N.inputs.length c3) ∧ w.heap.size + 2 ≤ wr.heap.size ∧ Below w.heap.size w wr) (fun i _ _ => N.ends.length - (intOf i).toNat)
    case atStart => exact ⟨0, bfs0 N x, rfl, hQ1, hO1, Lib.hid (BTop.start hx), Nat.zero_le _, (BInv.start hx).le, hbx1, hs1, hb1⟩
    case round =>
      clear hO1 hQ1 hbx1 hb1 hs1
      obtain ⟨a, st, rfl, hQ, hO, HT, hal, hln, hbx, hs, hb⟩ := hrel
      by_cases hlt : a < st.2.length
      case neg =>
        obtain rfl : a = st.2.length := by omega
        obtain ⟨g, off, cq, rfl, _⟩ := hQ
        go_wp2_with fail
        go_ret
        refine ⟨.slice (some ⟨w.heap.size + 1, 0, none⟩) N.ends.length N.ends.length, rfl, ?_, hb⟩
        rw [HT.out.stop]
        exact hO.mono (by omega) hs
      obtain ⟨u, hu1, hu2, hu3, hu4⟩ := HT.out.inv.node a hlt
      have HQ := Lib.hid hQ
      obtain ⟨g, off, cq, rfl, hq1, hq2, hq3, hq4, hq5, hq6⟩ := hQ
      have kw := hq5 a hlt
      rw [hu1] at kw
      obtain ⟨k0, k1, k2⟩ := hbx.cells
      have HU1 := Lib.hid hu1
      clear hu1 hq5 hq6
      go_wp2_with fail
      go_region_held3 (fun w' => w'.cell? ⟨w.heap.size, 0, none⟩ = some (.slice A N.ends.length c) ∧ w'.cell? ⟨w.heap.size, 1, none⟩ = some (.slice A2 N.ids.length c2) ∧ w'.cell? ⟨w.heap.size, 2, none⟩ = some (.slice A3 N.inputs.length c3) ∧ w'.cell? ⟨g, off + a, none⟩ = some (.int .i64 u))
        (first | exact ⟨k0, k1, k2, kw⟩ | exact ⟨l0, l1, l2, lw⟩)
        (first | (go_at_call 73; refine (neNear_any _ N u lo hi _ (HNET.out.below hb.drew hhi) (by show _ ≤ wr.heap.size; omega) hu2 (HDG.out u hu2)).mono ?_; rintro e w1 ⟨r, rfl, hr, hbr⟩; have hbr' : Below wr.heap.size wr w1 := (Below.refl _ _).drew.trans hbr; have l0 := (hbx.below hbr' hbx.lt).cells.1; have l1 := (hbx.below hbr' hbx.lt).cells.2.1; have l2 := (hbx.below hbr' hbx.lt).cells.2.2; have lw := (hbr'.cell (p := ⟨g, off + a, none⟩) hq4).trans kw; have HR := Lib.hid hr; obtain ⟨R, rc, rfl⟩ := hr.shape; clear hr hbr))
      rename_i hheld
      clear hheld l0 l1 l2 lw k0 k1 k2 kw
      have HQ1 := Lib.hid (HQ.out.below hbr' (Nat.le_refl _))
      have hO1 := hO.below hbr' (by omega)
      have hbx1 := hbx.below hbr' hbx.lt
      have hb1 := hb.trans (hbr'.mono hb.size)
      have hR1 := HR.out
      change IntS w1 wr.heap.size w1.heap.size _ _ at hR1
      have hs1 := hbr'.size
      obtain ⟨d, HD⟩ : ∃ d, Hid (nth st.1 u = d) := ⟨_, Lib.hid rfl⟩
      rw [HD.out] at hu3 hu4
      obtain ⟨sR, HSR⟩ : ∃ sR, sR = wr.heap.size := ⟨_, rfl⟩
      rw [← HSR] at hR1 hs1 hq4 hs
      clear HQ hO hbx hb hbr' HR HSR
      have hd1 := HDG.out u hu2
      have hnl := nbs_length N u
      have hnn : (nbs N u).length ≤ 1048576 := by omega
      have HNL := Lib.hid hnl
      clear hnl
      obtain ⟨sR1, HSR1⟩ : ∃ sR1, sR1 = w1.heap.size := ⟨_, rfl⟩
      rw [← HSR1] at hR1 hs1
      have hs2 : sR1 ≤ w1.heap.size := by omega
      clear HSR1
      go_wp2_with fail
      go_loopw [42, 7] (fun i qv wi => ∃ (m : Nat) (sk : BSt), m ≤ (nbs N u).length ∧ i = .int .i64 m ∧ OwnQ wi (w.heap.size + 2) qv sk.2 ∧ (∀ k, qv.ownBlock = some k → k < sR ∨ sR1 ≤ k) ∧ IntS wi (w.heap.size + 1) (w.heap.size + 2) (.slice (some ⟨w.heap.size + 1, 0, none⟩) N.ends.length N.ends.length) sk.1 ∧ Hid (BMid N a st u d m sk) ∧
          a < sk.2.length ∧ sk.2.length ≤ N.ends.length ∧ Box3 wi w.heap.size 34 (.slice A N.ends.length c) (.slice A2 N.ids.length c2) (.slice A3 N.inputs.length c3) ∧ IntS wi sR sR1 (.slice R (nbs N u).length rc) (nbs N u) ∧ sR1 ≤ wi.heap.size ∧ Below w.heap.size w wi) (fun i _ _ => (nbs N u).length - (intOf i).toNat)
      case atStart => exact ⟨0, st, Nat.zero_le _, rfl, HQ1.out, fun k hk => .inl (by have hk' : some g = some k := hk; injection hk' with hk'; omega), hO1, Lib.hid (BMid.start HT.out.inv hlt HU1.out HD.out), hlt, hln, hbx1, hR1, hs2, hb1⟩
      case round =>
        clear HQ1 hO1 hbx1 hb1 hR1 hs2
        obtain ⟨m, sk, hm, rfl, hQ, hfar, hO, HM, hal, hln, hbx, hR, hs2, hb⟩ := hrel
        have HQ := Lib.hid hQ
        obtain ⟨g, off, cq, rfl, hq1, hq2, hq3, hq4, hq5, _⟩ := hQ
        by_cases hml : m < (nbs N u).length
        case neg =>
          obtain rfl : m = (nbs N u).length := by omega
          rw [HNL.out] at HM
          go_wp2_with fail
          go_roundw
          case rel => exact ⟨a + 1, sk, by go_num, HQ.out, hO, Lib.hid (HT.out.next hlt HM.out HU1.out HD.out), hal, hln, hbx, by omega, hb⟩
          case measure => simp [intOf]; omega
        obtain ⟨_, _, er, hrc1, hrc2, hrcell⟩ := hR.form
        injection er with er1 _ er3
        subst er1 er3
        obtain ⟨bR, oR, rfl, hbR1, hbR2, hcR⟩ := hrcell (by omega)
        have rk := (hcR m hml).1
        have hml' : m < (nthL N.ends u).length := by rw [← HNL.out]; exact hml
        obtain ⟨t, ht, htl⟩ := HNN.out u hu2 m hml'
        rw [nth_nbs N u hml', ht] at rk
        have kw := hq5 a hal
        rw [HM.out.at_] at kw
        have hlen : sk.1.length = N.ends.length := HM.out.inv.len
        have ht1 := (hO.at0 (j := t) (by omega)).1
        have ht2 := (hO.at0 (j := t) (by omega)).2
        have hu1 := (hO.at0 (j := u) (by omega)).1
        rw [HM.out.here] at hu1
        obtain ⟨y, HY⟩ : ∃ y, Hid (nth sk.1 t = y) := ⟨_, Lib.hid rfl⟩
        rw [HY.out] at ht1
        have HTT := Lib.hid ht
        have hti : (t : Int) < N.ends.length := by omega
        have hui : (u : Int) < N.ends.length := by omega
        clear ht hcR hrcell hq5 hlen
        by_cases hy : y < 0
        case neg =>
          go_wp2_with fail
          go_roundw
          case rel =>
            refine ⟨m + 1, sk, by omega, by go_num, HQ.out, hfar, hO, Lib.hid ?_, hal, hln, hbx, hR, hs2, hb⟩
            have := HM.out.next hml' HTT.out htl
            rwa [see_pos (by rw [HY.out]; exact hy)] at this
          case measure => simp [intOf]; omega
        obtain ⟨wo, rfl⟩ : ∃ wo : World, wo = wr := ⟨_, rfl⟩
        have hnext : Hid (BMid N a st u d (m + 1) (sk.1.set t (d + 1), sk.2 ++ [(t : Int)])) := Lib.hid (by
          have := HM.out.next hml' HTT.out htl
          rwa [see_neg (by rw [HY.out]; exact hy)] at this)
        have hO2 := hO.set0 (j := t) (by rw [HM.out.inv.len]; exact htl) (d + 1)
        have HQ2 := Lib.hid (HQ.out.setCell (p := ⟨w.heap.size + 1, t, none⟩) (by simp) (.int .i64 (d + 1)))
        have hR2 := hR.setCell (p := ⟨w.heap.size + 1, t, none⟩) (by left; show w.heap.size + 1 < sR; omega) (.int .i64 (d + 1))
        have hbx2 := hbx.far (p := ⟨w.heap.size + 1, t, none⟩) (by simp) (.int .i64 (d + 1))
        have hb2 := hb.setCell (p := ⟨w.heap.size + 1, t, none⟩) (by simp) (.int .i64 (d + 1))
        go_wp2_with (at_builtin; refine append_q (s := .tmp 62) Try.underlying23 Try.info3 (by decide) (wo.setCell ⟨w.heap.size + 1, t, none⟩ (.int .i64 (d + 1))) rfl _ rfl HQ2.out t _ rfl (by simp [Act.eval, go_sem]) (by omega) ?_; intro v' w' hq' hg' hat')
        go_roundw
        case rel =>
          have hrow : ∀ k, (Value.slice (some ⟨g, off, none⟩) sk.2.length cq).ownBlock = some k → k = g := fun k hk => by have hk' : some g = some k := hk; injection hk' with hk'; exact hk'.symm
          have hsz2 : (wo.setCell ⟨w.heap.size + 1, t, none⟩ (.int .i64 (d + 1))).heap.size = wo.heap.size := size_setCell _ _ _
          have hgs := hg'.size
          rw [hsz2] at hgs hat'
          refine ⟨m + 1, (sk.1.set t (d + 1), sk.2 ++ [(t : Int)]), by omega, by go_num, hq', fun k hk => ?_, hO2.far hg' (by rw [hsz2]; omega) (fun k hk => by have := hrow k hk; omega), hnext, by simp; omega, hnext.out.inv.le, hbx2.grown hg' (fun k hk => by have := hrow k hk; omega), hR2.far hg' (by rw [hsz2]; omega) hfar, by omega, hb2.grown hg' (by rw [hsz2]; omega) fun k hk => by have := hrow k hk; omega⟩
          rcases hat' k hk with e | e
          · exact hfar k e
          · right; omega
        case measure => simp [intOf]; omega

end Go.Proofs.Ytcmmklcampmkjaa

/- Frames: one anchor world, at which what is read stays known; the world of the walk differs from it in a range of blocks that are written, and in new blocks. No condition on any program. -/
namespace Go.Proofs.Ytcmmklcampmkjaa
open Go.RowKit

theorem nameC {P : Program} {c : Code} {Q : Exit → Act → World → Prop} {a : Act} {w : World} (h : ∀ W, Hid (W = w) → c.wp P Q a W) : c.wp P Q a w := h w (Lib.hid rfl)
section
variable {w w' : World}
theorem grown_below (h : Below w.heap.size w w') : w.grownBy w' none := ⟨h.os, h.tape, h.output, h.size, fun k hk _ => h.block k hk⟩
theorem grown_alloc (w : World) (o : Obj) : w.grownBy (w.alloc o) none := ⟨rfl, rfl, rfl, by simp, fun k hk _ => Below.heap_alloc _ _ _ hk⟩
theorem grown_set (w : World) (p : Addr) (u : Value) : w.grownBy (w.setCell p u) (some p.block) := grownBy_setCell (World.grownBy.refl _ _) rfl u
theorem grown_drew (w : World) : w.grownBy w.drew none := ⟨rfl, rfl, rfl, Nat.le_refl _, fun _ _ _ => rfl⟩
theorem grown_to_below (h : w.grownBy w' none) : Below w.heap.size w w' := ⟨h.os, h.tape, h.output, h.size, fun k hk => h.block k hk (by simp)⟩
theorem no_row (lo hi : Nat) : ∀ g : Nat, (none : Option Nat) = some g → g < lo ∨ hi ≤ g := fun _ h => by cases h
end

theorem Turned.grown {lo hi : Nat} {A W W' : World} {row : Option Nat} (h : Turned lo hi A W) (hg : W.grownBy W' row) (hr : ∀ g, row = some g → (lo ≤ g ∧ g < hi) ∨ A.heap.size ≤ g) : Turned lo hi A W' :=
  ⟨hg.os.trans h.os, hg.tape.trans h.tape, hg.output.trans h.output, Nat.le_trans h.size hg.size, fun k hk ho => (hg.block k (Nat.lt_of_lt_of_le hk h.size) (fun e => by have := hr k e.symm; omega)).trans (h.block k hk ho)⟩
theorem Turned.still {lo hi : Nat} {A W W' : World} (h : Turned lo hi A W) (hg : W.grownBy W' none) : Turned lo hi A W' := h.grown hg (fun g e => by cases e)
theorem Turned.below_of {B lo hi : Nat} {w A W : World} (h : Turned lo hi A W) (hb : Below B w A) (h1 : B ≤ lo) (h2 : B ≤ A.heap.size) : Below B w W :=
  ⟨h.os.trans hb.os, h.tape.trans hb.tape, h.output.trans hb.output, Nat.le_trans hb.size h.size, fun k hk => (h.block k (by omega) (by omega)).trans (hb.block k hk)⟩
theorem Turned.cell {lo hi : Nat} {A W : World} (h : Turned lo hi A W) {b o : Nat} (hl : b < A.heap.size) (hg : b < lo ∨ hi ≤ b) : W.cell? ⟨b, o, none⟩ = A.cell? ⟨b, o, none⟩ := World.cell?_of_block (a := ⟨b, o, none⟩) (h.block b hl hg)
theorem Turned.frozen {lo hi : Nat} {A W : World} (h : Turned lo hi A W) {b o : Nat} (hl : b < A.heap.size) (hg : b < lo ∨ hi ≤ b) : W.frozen? ⟨b, o, none⟩ = A.frozen? ⟨b, o, none⟩ := World.frozen?_of_block (a := ⟨b, o, none⟩) (h.block b hl hg)

section
variable {w w' : World} {lo hi base : Nat} {v : Value} {row : Option Nat}
theorem ISS.far {xss : List (List Int)} (h : IntSS w lo hi v xss) (hg : w.grownBy w' row) (hB : hi ≤ w.heap.size) (hr : ∀ g, row = some g → g < lo ∨ hi ≤ g) : IntSS w' lo hi v xss :=
  SS.keep (fun h => IntS.far h hg hB hr) h fun k h1 h2 => hg.block k (by omega) (fun e => by have := hr k e.symm; omega)
theorem OwnI.far {e : TypeId} {zs : List Int} (h : OwnI w base e v zs) (hg : w.grownBy w' row) (hr : ∀ g, row = some g → g < base ∨ v.ownBlock ≠ some g) : OwnI w' base e v zs :=
  h.kept hg (by
    rcases h.block with e1 | ⟨g, e1, h1, h2⟩
    · exact .inl e1
    · right; intro e2; rw [e1] at e2
      rcases hr g e2.symm with h3 | h3
      · omega
      · exact h3 e1)
theorem OwnI.still {e : TypeId} {zs : List Int} (h : OwnI w base e v zs) (hg : w.grownBy w' none) : OwnI w' base e v zs := h.far hg (fun g e => by cases e)
theorem IntS.still {zs : List Int} (h : IntS w lo hi v zs) (hg : w.grownBy w' none) (hB : hi ≤ w.heap.size) : IntS w' lo hi v zs := h.far hg hB (no_row _ _)
theorem ISS.still {xss : List (List Int)} (h : IntSS w lo hi v xss) (hg : w.grownBy w' none) (hB : hi ≤ w.heap.size) : IntSS w' lo hi v xss := ISS.far h hg hB (no_row _ _)
theorem Box3.still {g : Nat} {t : TypeId} {a b c : Value} (h : Box3 w g t a b c) (hg : w.grownBy w' none) : Box3 w' g t a b c := h.grown hg (fun k e => by cases e)
end

theorem rangeAll_false {n k : Nat} {p : Nat → Bool} (hk : k < n) (h : p k = false) : (List.range n).all p = false := by
  rw [Bool.eq_false_iff]; intro ha; rw [List.all_eq_true] at ha
  have := ha k (List.mem_range.2 hk); rw [h] at this; cases this
theorem rangeAll_true {n : Nat} {p : Nat → Bool} (h : ∀ k, k < n → p k = true) : (List.range n).all p = true := by
  rw [List.all_eq_true]; intro k hk; exact h k (List.mem_range.1 hk)
theorem rangeAll_at {n k : Nat} {p : Nat → Bool} (h : (List.range n).all p = true) (hk : k < n) : p k = true := by
  rw [List.all_eq_true] at h; exact h k (List.mem_range.2 hk)

/-- a block known whole -/
def BoxN (w : World) (g : Nat) (cs : Array Value) (t : TypeId) : Prop := w.heap[g]? = some (.cells cs t (0, 0))
section
variable {w w' A W : World} {g lo hi : Nat} {cs : Array Value} {t : TypeId} {row : Option Nat}
theorem BoxN.lt (h : BoxN w g cs t) : g < w.heap.size := (Array.getElem?_eq_some_iff.1 h).1
theorem BoxN.cell (h : BoxN w g cs t) (j : Nat) (hj : j < cs.size) : w.cell? ⟨g, j, none⟩ = some cs[j] := by
  rw [cell_of_row w g _ _ t (0, 0) h]; simp [hj]
theorem BoxN.frozen (h : BoxN w g cs t) (i : Nat) : w.frozen? ⟨g, i, none⟩ = false := by
  have h' : w.heap[g]? = some (.cells cs t (0, 0)) := h
  simp [World.frozen?, h']
theorem BoxN.far (h : BoxN w g cs t) (hg : w.grownBy w' row) (hr : ∀ k, row = some k → k ≠ g) : BoxN w' g cs t := (hg.block g h.lt (fun e => hr g e.symm rfl)).trans h
theorem BoxN.still (h : BoxN w g cs t) (hg : w.grownBy w' none) : BoxN w' g cs t := h.far hg (fun k e => by cases e)
theorem BoxN.below {B : Nat} (h : BoxN w g cs t) (hb : Below B w w') (hg : g < B) : BoxN w' g cs t := (hb.block g hg).trans h
theorem BoxN.new (w : World) (cs : Array Value) (t : TypeId) : BoxN (w.alloc (.cells cs t)) w.heap.size cs t := heap_alloc_new w _
theorem BoxN.new' (w : World) (cs : Array Value) (t : TypeId) {g : Nat} (hg : w.heap.size = g) : BoxN (w.alloc (.cells cs t)) g cs t := by subst hg; exact heap_alloc_new w _
theorem BoxN.set (h : BoxN w g cs t) (j : Nat) (u : Value) : BoxN (w.setCell ⟨g, j, none⟩ u) g (cs.setIfInBounds j u) t := by
  have h' : w.heap[g]? = some (.cells cs t (0, 0)) := h
  simp [BoxN, World.setCell, Array.getElem?_modify, h']
theorem Turned.boxN (h : Turned lo hi A W) (hb : BoxN A g cs t) (hg : g < lo ∨ hi ≤ g) : BoxN W g cs t := (h.block g hb.lt hg).trans hb
end
section
variable {w w' : World} {lo hi l2 h2 : Nat} {v : Value} {row : Option Nat}
theorem IntS.dims {zs : List Int} (h : IntS w lo hi v zs) : ∃ A c, v = .slice A zs.length c ∧ zs.length ≤ c ∧ c ≤ 9223372036854775807 := by
  obtain ⟨A, c, e, h1, h2, _⟩ := h; unfold maxLen at h2; exact ⟨A, c, e, h1, h2⟩
theorem SS.dims {α : Type} {R : World → Nat → Nat → Value → List α → Prop} {xss : List (List α)} (h : SS R w lo hi v xss) : ∃ A c, v = .slice A xss.length c ∧ xss.length ≤ c ∧ c ≤ 9223372036854775807 := by
  obtain ⟨_, ⟨A, c, e, h1, h2, _⟩, _⟩ := h; unfold maxLen at h2; exact ⟨A, c, e, h1, h2⟩
theorem EndS.dims {es : List (Int × Int)} (h : EndS w lo hi v es) : ∃ A c, v = .slice A es.length c ∧ es.length ≤ c ∧ c ≤ 9223372036854775807 := by
  obtain ⟨A, c, e, h1, h2, _⟩ := h; unfold maxLen at h2; exact ⟨A, c, e, h1, h2⟩
/-- one cell of a row of numbers -/
theorem IntS.opened {A : Option Addr} {n c : Nat} {zs : List Int} (h : IntS w lo hi (.slice A n c) zs) {j : Nat} (hj : j < zs.length) : ∃ b off, A = some ⟨b, off, none⟩ ∧ lo ≤ b ∧ b < hi ∧ w.cell? ⟨b, off + j, none⟩ = some (.int .i64 (nth zs j)) ∧ w.frozen? ⟨b, off + j, none⟩ = false := by
  obtain ⟨A', c', e, h1, h2, h3⟩ := h.form
  injection e with e1 e2 e3
  subst e1
  obtain ⟨b, off, e4, h4, h5, h6⟩ := h3 (by omega)
  exact ⟨b, off, e4, h4, h5, h6 j hj⟩
/-- one row of a slice of slices -/
theorem SS.opened {α : Type} {R : World → Nat → Nat → Value → List α → Prop} {A : Option Addr} {n c : Nat} {xss : List (List α)} (h : SS R w lo hi (.slice A n c) xss) {j : Nat} (hj : j < xss.length) : ∃ b off u, A = some ⟨b, off, none⟩ ∧ lo ≤ b ∧ b < hi ∧ w.cell? ⟨b, off + j, none⟩ = some u ∧ R w lo hi u (nthL xss j) := by
  obtain ⟨A', c', e, h1, h2, h3⟩ := h.form
  injection e with e1 e2 e3
  subst e1
  obtain ⟨b, off, e4, h4, h5, h6⟩ := h3 (by omega)
  obtain ⟨u, h7, h8⟩ := h6 j hj
  exact ⟨b, off, u, e4, h4, h5, h7, h8⟩
theorem SS.openedIn {α : Type} {R : World → Nat → Nat → Value → List α → Prop} {b off n c : Nat} {xss : List (List α)} (h : SS R w lo hi (.slice (some ⟨b, off, none⟩) n c) xss) {j : Nat} (hj : j < xss.length) : ∃ u, b < hi ∧ w.cell? ⟨b, off + j, none⟩ = some u ∧ R w lo hi u (nthL xss j) := by
  obtain ⟨b', off', u, e, h4, h5, h7, h8⟩ := h.opened hj
  injection e with e
  injection e with e1 e2
  subst e1 e2
  exact ⟨u, h5, h7, h8⟩
theorem EndS.opened {A : Option Addr} {n c : Nat} {es : List (Int × Int)} (h : EndS w lo hi (.slice A n c) es) {j : Nat} (hj : j < es.length) : ∃ b off, A = some ⟨b, off, none⟩ ∧ lo ≤ b ∧ b < hi ∧ w.cell? ⟨b, off + j * 2, none⟩ = some (.int .i64 (nthE es j).1) ∧ w.cell? ⟨b, off + j * 2 + 1, none⟩ = some (.int .i64 (nthE es j).2) := by
  obtain ⟨A', c', e, h1, h2, h3⟩ := h.form
  injection e with e1 e2 e3
  subst e1
  obtain ⟨b, off, e4, h4, h5, h6⟩ := h3 (by omega)
  exact ⟨b, off, e4, h4, h5, h6 j hj⟩
/-- a row of a network's ends, opened at a node -/
theorem Net.rowAt {A : Option Addr} {n c : Nat} {v2 v3 : Value} {N : NetD} (h : Net w lo hi (.agg #[.slice A n c, v2, v3]) N) {u : Nat} (hu : u < N.ends.length) :
    ∃ b off A4 c4, A = some ⟨b, off, none⟩ ∧ b < hi ∧ w.cell? ⟨b, off + u, none⟩ = some (.slice A4 (nthL N.ends u).length c4) ∧ (nthL N.ends u).length ≤ c4 ∧ c4 ≤ 9223372036854775807 ∧ EndS w lo hi (.slice A4 (nthL N.ends u).length c4) (nthL N.ends u) := by
  obtain ⟨ve, vi, vn, e, h1, _, _⟩ := h
  simp only [Value.agg.injEq, Array.mk.injEq, List.cons.injEq, and_true] at e
  obtain ⟨rfl, _, _⟩ := e
  obtain ⟨b, off, u', e4, h4, h5, h7, h8⟩ := h1.opened hu
  obtain ⟨A4, c4, rfl, h9, h10⟩ := h8.dims
  exact ⟨b, off, A4, c4, e4, h5, h7, h9, h10, h8⟩
theorem OwnSS.still {base top : Nat} {e : TypeId} {xss : List (List Int)} (h : OwnSS w base top e v xss) (hg : w.grownBy w' none) : OwnSS w' base top e v xss := h.below (grown_to_below hg)
theorem OwnQ.still {base : Nat} {zs : List Int} (h : OwnQ w base v zs) (hg : w.grownBy w' none) : OwnQ w' base v zs := h.below (grown_to_below hg) (Nat.le_refl _)
theorem Net.rowIn {b off n c : Nat} {v2 v3 : Value} {N : NetD} (h : Net w lo hi (.agg #[.slice (some ⟨b, off, none⟩) n c, v2, v3]) N) {u : Nat} (hu : u < N.ends.length) :
    ∃ A4 c4, b < hi ∧ w.cell? ⟨b, off + u, none⟩ = some (.slice A4 (nthL N.ends u).length c4) ∧ (nthL N.ends u).length ≤ c4 ∧ c4 ≤ 9223372036854775807 ∧ EndS w lo hi (.slice A4 (nthL N.ends u).length c4) (nthL N.ends u) := by
  obtain ⟨b', off', A4, c4, e, h1, h2, h3, h4, h5⟩ := h.rowAt hu
  injection e with e
  injection e with e1 e2
  subst e1 e2
  exact ⟨A4, c4, h1, h2, h3, h4, h5⟩
theorem EndS.far {es : List (Int × Int)} (h : EndS w lo hi v es) (hg : w.grownBy w' row) (hB : hi ≤ w.heap.size) (hr : ∀ g, row = some g → g < lo ∨ hi ≤ g) : EndS w' lo hi v es :=
  EndS.keep h fun k h1 h2 => hg.block k (by omega) (fun e => by have := hr k e.symm; omega)
end

end Go.Proofs.Ytcmmklcampmkjaa

/- Rows of four numbers: slices of edges in memory; the edges of a network as a list; plain laws on them. -/
namespace Go.Proofs.Ytcmmklcampmkjaa
open Go.RowKit
set_option linter.unusedVariables false

/-- an edge: node and port, node and port -/
structure Quad where
  v : Int
  i : Int
  w : Int
  j : Int
def nthQ (l : List Quad) (k : Nat) : Quad := l.getD k ⟨0, 0, 0, 0⟩
def Quad.cells (q : Quad) : List Value := [.int .i64 q.v, .int .i64 q.i, .int .i64 q.w, .int .i64 q.j]
def Quad.ints (q : Quad) : List Int := [q.v, q.i, q.w, q.j]
def flatQ (l : List Quad) : List Value := l.flatMap Quad.cells
def quadCell (l : List Quad) (j : Nat) : Value := (nthQ l (j / 4)).cells.getD (j % 4) undef
/-- v reads as the list of edges qs -/
def QuadS (w : World) (lo hi : Nat) (v : Value) (qs : List Quad) : Prop := Sl w lo hi 4 v qs.length (quadCell qs)
/-- a row of edges that the call owns -/
def OwnQd (w : World) (base : Nat) (e : TypeId) (v : Value) (qs : List Quad) : Prop := w.ownsRow base e 4 v qs.length (flatQ qs)
section
variable {w w' : World} {lo hi lo' hi' base B l2 h2 : Nat} {v : Value} {qs : List Quad} {e : TypeId} {row : Option Nat}
theorem QuadS.dims (h : QuadS w lo hi v qs) : ∃ A c, v = .slice A qs.length c ∧ qs.length ≤ c ∧ c ≤ 9223372036854775807 := by
  obtain ⟨A, c, e, h1, h2, _⟩ := h; unfold maxLen at h2; exact ⟨A, c, e, h1, h2⟩
theorem QuadS.below (h : QuadS w lo hi v qs) (hb : Below B w w') (hB : hi ≤ B) : QuadS w' lo hi v qs := Sl.below h hb hB
theorem QuadS.turned (h : QuadS w lo hi v qs) (hb : Turned l2 h2 w w') (hB : hi ≤ w.heap.size) (hd : hi ≤ l2 ∨ h2 ≤ lo) : QuadS w' lo hi v qs := Sl.turned h hb hB hd
theorem QuadS.mono (h : QuadS w lo hi v qs) (h1 : lo' ≤ lo) (h2 : hi ≤ hi') : QuadS w lo' hi' v qs := Sl.mono h h1 h2
theorem QuadS.far (h : QuadS w lo hi v qs) (hg : w.grownBy w' row) (hB : hi ≤ w.heap.size) (hr : ∀ g, row = some g → g < lo ∨ hi ≤ g) : QuadS w' lo hi v qs :=
  Sl.keep h fun k h1 h2 => hg.block k (by omega) (fun e => by have := hr k e.symm; omega)
theorem QuadS.still (h : QuadS w lo hi v qs) (hg : w.grownBy w' none) (hB : hi ≤ w.heap.size) : QuadS w' lo hi v qs := h.far hg hB (no_row _ _)
theorem QuadS.opened {A : Option Addr} {n c : Nat} (h : QuadS w lo hi (.slice A n c) qs) {k : Nat} (hk : k < qs.length) : ∃ b off, A = some ⟨b, off, none⟩ ∧ lo ≤ b ∧ b < hi ∧
    w.cell? ⟨b, off + k * 4, none⟩ = some (.int .i64 (nthQ qs k).v) ∧ w.cell? ⟨b, off + k * 4 + 1, none⟩ = some (.int .i64 (nthQ qs k).i) ∧ w.cell? ⟨b, off + k * 4 + 2, none⟩ = some (.int .i64 (nthQ qs k).w) ∧ w.cell? ⟨b, off + k * 4 + 3, none⟩ = some (.int .i64 (nthQ qs k).j) := by
  obtain ⟨A', c', e, h1, h2, h3⟩ := h
  injection e with e1 e2 e3
  subst e1
  obtain ⟨b, off, e4, h4, h5, h6⟩ := h3 (by omega)
  have g : ∀ r, r < 4 → w.cell? ⟨b, off + k * 4 + r, none⟩ = some ((nthQ qs k).cells.getD r undef) := fun r hr => by
    have := (h6 (k * 4 + r) (by omega)).1
    unfold quadCell at this
    rw [show (k * 4 + r) / 4 = k by omega, show (k * 4 + r) % 4 = r by omega, ← Nat.add_assoc] at this
    exact this
  exact ⟨b, off, e4, h4, h5, g 0 (by omega), g 1 (by omega), g 2 (by omega), g 3 (by omega)⟩
theorem OwnQd.nil (w : World) (base : Nat) (e : TypeId) : OwnQd w base e (.slice none 0 0) [] := World.ownsRow_nil w base e 4
theorem OwnQd.lt (h : OwnQd w base e v qs) : ∀ k, v.ownBlock = some k → base ≤ k ∧ k < w.heap.size := World.ownsRow.lt h
theorem OwnQd.alloc (h : OwnQd w base e v qs) (o : Obj) : OwnQd (w.alloc o) base e v qs := World.ownsRow.alloc h o
theorem OwnQd.kept {row : Option Nat} (h : OwnQd w base e v qs) (hg : w.grownBy w' row) (hne : v.ownBlock = none ∨ v.ownBlock ≠ row) : OwnQd w' base e v qs := World.ownsRow.kept h hg hne
theorem OwnQd.still (h : OwnQd w base e v qs) (hg : w.grownBy w' none) : OwnQd w' base e v qs := h.kept hg (by
  cases hv : v.ownBlock with
  | none => exact .inl rfl
  | some g => right; simp)
end

/-- append onto a row of the call's own, the new elements' cells known -/
theorem append_row {P : Program} {ops : Array Oper} {rest : List Oper} {o : Oper} {a : Act} {Q : Exit → Act → World → Prop} {t e : TypeId} {z : Value} {sz bytes : Nat}
    (ht : P.underlying t = some (.slice e)) (hinfo : (P.info? e).map (fun i => (i.zero, i.size, i.bytes)) = some (some z, sz, bytes)) (hz1 : z.cells.size = sz) (hsz : 0 < sz) (hby : bytes ≤ 64)
    (w : World) (hgd : o.guard = none) {s : Operand} (x : Operand) (ho : o.op = .call { callee := .builtin .append, args := #[s, x], argTypes := #[t, t] })
    {base : Nat} {v : Value} {n : Nat} {xs : List Value} (hown : w.ownsRow base e sz v n xs) (hs : a.eval s = v) {ad : Addr} {m c : Nat} (news : List Value) (hx : a.eval x = .slice (some ad) m c)
    (hl : news.length = m * sz) (hnews : ∀ j u, news[j]? = some u → w.cell? (ad.add j) = some u) (h1 : ∀ u ∈ news, u.oneCell' = true)
    (hlen : n + m ≤ 1099511627776) (hbase : base ≤ w.heap.size)
    (h : ∀ v' w', w'.ownsRow base e sz v' (n + m) (xs ++ news) → w.grownBy w' v.ownBlock → (v'.ownBlock = v.ownBlock ∨ v'.ownBlock = some w.heap.size) → wpList P ops Q rest (a.put o.dst v') w') :
    wpList P ops Q (o :: rest) a w := by
  obtain ⟨i, hi, hzz⟩ := Option.map_eq_some_iff.1 hinfo
  simp only [Prod.mk.injEq] at hzz
  obtain ⟨hz, hsz2, hb⟩ := hzz
  refine wpList_append_own_at w hgd s x t ho base e i z sz bytes ht hi hz hsz2 hb hz1 hsz v n xs hs hown ad m c news hx hl hnews h1 (by unfold maxLen; omega) ?_ hbase ?_
  · have : (n + m) * bytes ≤ 1099511627776 * 64 := Nat.mul_le_mul hlen hby
    omega
  · intro v' w' a1 a2 _ a4
    exact h v' w' a1 a2 a4
end Go.Proofs.Ytcmmklcampmkjaa

/- Plain: the trails of a network: from port to port over an edge and on to the port's partner; they end or close; they are marked and gathered in two passes. No condition on any program. -/
namespace Go.Proofs.Ytcmmklcampmkjaa
set_option linter.unusedVariables false

abbrev Po := Nat × Nat
def okP (N : NetD) (p : Po) : Prop := p.1 < N.ends.length ∧ p.2 < degAt N p.1
def fl (i : Nat) : Nat := if i % 2 = 0 then i + 1 else i - 1
theorem fl_fl (i : Nat) : fl (fl i) = i := by unfold fl; split <;> split <;> omega
/-- the other end of a port's edge -/
def ep (N : NetD) (p : Po) : Po := ((endAt N p.1 p.2).1.toNat, (endAt N p.1 p.2).2.toNat)
def pairedB (N : NetD) (p : Po) : Bool := decide (fl p.2 < degAt N p.1)
def pi (p : Po) : Po := (p.1, fl p.2)
theorem pi_pi (p : Po) : pi (pi p) = p := by unfold pi; rw [fl_fl]
/-- the next port of a trail -/
def nx (N : NetD) (p : Po) : Option Po := if pairedB N (ep N p) = true then some (pi (ep N p)) else none
section
variable {N : NetD}
theorem ep_ok (hg : N.good = true) {p : Po} (hp : okP N p) : okP N (ep N p) ∧ ep N (ep N p) = p := by
  obtain ⟨t, r, e, h1, h2, h3⟩ := good_end hg hp.1 hp.2
  have e1 : ep N p = (t, r) := by unfold ep endAt; rw [e]; simp
  rw [e1]
  refine ⟨⟨h1, h2⟩, ?_⟩
  unfold ep endAt
  rw [h3]; simp
theorem pi_ok {p : Po} (hp : okP N p) (h : pairedB N p = true) : okP N (pi p) ∧ pairedB N (pi p) = true := by
  unfold pairedB at *
  rw [decide_eq_true_eq] at *
  refine ⟨⟨hp.1, h⟩, ?_⟩
  unfold pi
  dsimp only
  rw [fl_fl]
  exact hp.2
theorem nx_yes {p : Po} (h : pairedB N (ep N p) = true) : nx N p = some (pi (ep N p)) := by unfold nx; rw [if_pos h]
theorem nx_inv {p q : Po} (h : nx N p = some q) : pairedB N (ep N p) = true ∧ pi (ep N p) = q := by
  unfold nx at h
  split at h
  next h1 => injection h with h; exact ⟨h1, h⟩
  next => cases h
theorem nx_ok (hg : N.good = true) {p q : Po} (hp : okP N p) (h : nx N p = some q) : okP N q := by
  obtain ⟨h1, rfl⟩ := nx_inv h
  exact (pi_ok (ep_ok hg hp).1 h1).1
theorem nx_back (hg : N.good = true) {p q : Po} (hp : okP N p) (h : nx N p = some q) : pairedB N q = true ∧ pi q = ep N p ∧ ep N (pi q) = p := by
  obtain ⟨h1, rfl⟩ := nx_inv h
  refine ⟨(pi_ok (ep_ok hg hp).1 h1).2, pi_pi _, ?_⟩
  rw [pi_pi]
  exact (ep_ok hg hp).2
theorem nx_inj (hg : N.good = true) {p p' q : Po} (hp : okP N p) (hp' : okP N p') (h : nx N p = some q) (h' : nx N p' = some q) : p = p' := by
  rw [← (nx_back hg hp h).2.2, ← (nx_back hg hp' h').2.2]
end

def nthP (l : List Po) (i : Nat) : Po := l.getD i (0, 0)
theorem nthP_eq {l : List Po} {i : Nat} (h : i < l.length) : nthP l i = l[i] := by simp [nthP, h]
theorem nthP_mem {l : List Po} {i : Nat} (h : i < l.length) : nthP l i ∈ l := by rw [nthP_eq h]; exact List.getElem_mem h
theorem nthP_left {a b : List Po} {i : Nat} (h : i < a.length) : nthP (a ++ b) i = nthP a i := by simp [nthP, List.getElem?_append_left h]
theorem nthP_at (a : List Po) (x : Po) : nthP (a ++ [x]) a.length = x := by simp [nthP]
theorem mem_nthP {l : List Po} {x : Po} (h : x ∈ l) : ∃ i, i < l.length ∧ nthP l i = x := by
  obtain ⟨i, hi, e⟩ := List.mem_iff_getElem.1 h
  exact ⟨i, hi, by rw [nthP_eq hi]; exact e⟩
theorem nthP_inj {l : List Po} (h : l.Nodup) {i j : Nat} (hi : i < l.length) (hj : j < l.length) (e : nthP l i = nthP l j) : i = j := by
  rw [nthP_eq hi, nthP_eq hj] at e
  rcases Nat.lt_trichotomy i j with h1 | h1 | h1
  · exact absurd e (List.pairwise_iff_getElem.1 h i j hi hj h1)
  · exact h1
  · exact absurd e.symm (List.pairwise_iff_getElem.1 h j i hj hi h1)
theorem ext_nthP {a b : List Po} (hl : a.length = b.length) (h : ∀ i, i < a.length → nthP a i = nthP b i) : a = b := by
  apply List.ext_getElem hl
  intro i h1 h2
  have := h i h1
  rwa [nthP_eq h1, nthP_eq h2] at this
theorem subLen {α : Type} [DecidableEq α] : ∀ (l m : List α), l.Nodup → (∀ x ∈ l, x ∈ m) → l.length ≤ m.length
  | [], _, _, _ => Nat.zero_le _
  | x :: l, m, hn, h => by
    have hx := h x (List.mem_cons_self ..)
    have hn2 := List.nodup_cons.1 hn
    have := subLen l (m.erase x) hn2.2 (fun y hy => (List.mem_erase_of_ne (fun e => hn2.1 (by rw [← e]; exact hy))).2 (h y (List.mem_cons_of_mem _ hy)))
    rw [List.length_erase_of_mem hx] at this
    have : 0 < m.length := List.length_pos_of_mem hx
    simp only [List.length_cons]
    omega

/-- a stretch of a trail -/
structure Ch (N : NetD) (s : Po) (l : List Po) : Prop where
  pos : 0 < l.length
  head : nthP l 0 = s
  ok : ∀ p ∈ l, okP N p
  link : ∀ i, i + 1 < l.length → nx N (nthP l i) = some (nthP l (i + 1))
  nd : l.Nodup
def lastP (l : List Po) : Po := nthP l (l.length - 1)
section
variable {N : NetD} {s : Po}
theorem Ch.one (h : okP N s) : Ch N s [s] :=
  ⟨by simp, rfl, fun p hp => by rw [List.mem_singleton.1 hp]; exact h, fun i hi => absurd hi (by simp), by simp⟩
theorem Ch.last {l : List Po} (h : Ch N s l) : okP N (lastP l) := h.ok _ (nthP_mem (by have := h.pos; omega))
theorem Ch.step (hg : N.good = true) {l : List Po} (h : Ch N s l) {q : Po} (hq : nx N (lastP l) = some q) (hs : q ≠ s) : Ch N s (l ++ [q]) := by
  have hp := h.pos
  refine ⟨by simp, by rw [nthP_left hp]; exact h.head, fun p hm => ?_, fun i hi => ?_, ?_⟩
  · rcases List.mem_append.1 hm with hm | hm
    · exact h.ok p hm
    · rw [List.mem_singleton.1 hm]; exact nx_ok hg h.last hq
  · simp only [List.length_append, List.length_cons, List.length_nil] at hi
    by_cases e : i + 1 < l.length
    · rw [nthP_left e, nthP_left (by omega)]; exact h.link i e
    · obtain rfl : i = l.length - 1 := by omega
      rw [nthP_left (by omega), show l.length - 1 + 1 = l.length by omega, nthP_at]
      exact hq
  · refine List.nodup_append.2 ⟨h.nd, by simp, fun a ha b hb e => ?_⟩
    rw [List.mem_singleton.1 hb] at e
    subst e
    obtain ⟨j, hj, e⟩ := mem_nthP ha
    match j, hj, e with
    | 0, _, e => exact hs (by rw [← e]; exact h.head)
    | j + 1, hj, e =>
      have h1 := h.link j hj
      rw [e] at h1
      have h2 := nx_inj hg (h.ok _ (nthP_mem (by omega))) h.last h1 hq
      have := nthP_inj h.nd (by omega) (by omega) h2
      omega
theorem Ch.len (hg : N.good = true) {l : List Po} (h : Ch N s l) : l.length ≤ 240 := by
  have h1 := subLen l grid h.nd (fun p hp => by
    obtain ⟨a, b⟩ := h.ok p hp
    have := (good_n hg).2
    have := good_deg hg a
    unfold degAt at b
    exact mem_grid (by omega) (by omega))
  rwa [grid_len] at h1
end

/-- l is the whole trail that begins at s; c: it is closed -/
def TrO (N : NetD) (s : Po) (l : List Po) (c : Bool) : Prop := Ch N s l ∧ nx N (lastP l) = if c = true then some s else none
section
variable {N : NetD} {s : Po}
theorem TrO.le {l l' : List Po} {c c' : Bool} (h : TrO N s l c) (h' : TrO N s l' c') : l'.length ≤ l.length ∧ ∀ i, i < l'.length → nthP l i = nthP l' i := by
  have hp := h.1.pos
  have key : ∀ i, i < l.length → i < l'.length → nthP l i = nthP l' i := by
    intro i
    induction i with
    | zero => intro _ _; rw [h.1.head, h'.1.head]
    | succ i ih =>
      intro h1 h2
      have e1 := h.1.link i h1
      have e2 := h'.1.link i h2
      rw [ih (by omega) (by omega), e2] at e1
      injection e1 with e1
      exact e1.symm
  have hle : l'.length ≤ l.length := by
    rcases Nat.lt_or_ge l.length l'.length with h1 | h1
    · exfalso
      have e1 := h'.1.link (l.length - 1) (by omega)
      rw [← key (l.length - 1) (by omega) (by omega)] at e1
      have e2 := h.2
      unfold lastP at e2
      rw [e1] at e2
      split at e2
      · injection e2 with e2
        rw [show l.length - 1 + 1 = l.length by omega] at e2
        have := nthP_inj h'.1.nd (i := l.length) (j := 0) h1 (by omega) (by rw [e2, h'.1.head])
        omega
      · cases e2
    · exact h1
  exact ⟨hle, fun i hi => key i (by omega) hi⟩
theorem TrO.uniq {l l' : List Po} {c c' : Bool} (h : TrO N s l c) (h' : TrO N s l' c') : l = l' ∧ c = c' := by
  have h1 := h.le h'
  have h2 := h'.le h
  obtain rfl : l = l' := ext_nthP (by omega) (fun i hi => h1.2 i (by omega))
  refine ⟨rfl, ?_⟩
  have e := h.2.symm.trans h'.2
  cases c <;> cases c' <;> simp at e <;> rfl
theorem TrO.ex (hg : N.good = true) (hs : okP N s) : ∃ l c, TrO N s l c := by
  suffices h : ∀ (k : Nat) (l : List Po), Ch N s l → 241 - l.length ≤ k → ∃ l c, TrO N s l c from h 241 [s] (Ch.one hs) (by simp)
  intro k
  induction k with
  | zero => intro l hl hk; have := hl.len hg; omega
  | succ k ih =>
    intro l hl hk
    cases hn : nx N (lastP l) with
    | none => exact ⟨l, false, hl, by rw [hn]; rfl⟩
    | some q =>
      by_cases e : q = s
      · exact ⟨l, true, hl, by rw [hn, e]; rfl⟩
      · exact ih _ (hl.step hg hn e) (by have := hl.len hg; simp; omega)
end
open Classical in
/-- the trail from s -/
noncomputable def trl (N : NetD) (s : Po) : List Po := if h : ∃ l c, TrO N s l c then h.choose else []
open Classical in
noncomputable def trc (N : NetD) (s : Po) : Bool := decide (∃ l, TrO N s l true)
section
variable {N : NetD} {s : Po}
theorem TrO.eq {l : List Po} {c : Bool} (h : TrO N s l c) : trl N s = l ∧ trc N s = c := by
  constructor
  · unfold trl
    have hx : ∃ l c, TrO N s l c := ⟨l, c, h⟩
    rw [dif_pos hx]
    obtain ⟨c', h'⟩ := hx.choose_spec
    exact (h'.uniq h).1
  · unfold trc
    cases c with
    | true => simp only [decide_eq_true_eq]; exact ⟨l, h⟩
    | false => simp only [decide_eq_false_iff_not]; exact fun ⟨l', h'⟩ => by have := (h'.uniq h).2; cases this
theorem trl_is (hg : N.good = true) (hs : okP N s) : TrO N s (trl N s) (trc N s) := by
  obtain ⟨l, c, h⟩ := TrO.ex hg hs
  rw [h.eq.1, h.eq.2]
  exact h
end

/-! ### marks -/
def markE (N : NetD) (U : Int → Int → Bool) (p : Po) : Int → Int → Bool := setU (setU U p.1 p.2) (ep N p).1 (ep N p).2
def markL (N : NetD) (U : Int → Int → Bool) (l : List Po) : Int → Int → Bool := l.foldl (markE N) U
def at_ (U : Int → Int → Bool) (p : Po) : Bool := U p.1 p.2
theorem at_setU (U : Int → Int → Bool) (q p : Po) : at_ (setU U q.1 q.2) p = (decide (p = q) || at_ U p) := by
  unfold at_ setU
  congr 1
  rw [Bool.eq_iff_iff]
  simp
  constructor
  · rintro ⟨h1, h2⟩; exact Prod.ext (by omega) (by omega)
  · rintro rfl; exact ⟨rfl, rfl⟩
theorem at_markE (N : NetD) (U : Int → Int → Bool) (q p : Po) : at_ (markE N U q) p = true ↔ at_ U p = true ∨ p = q ∨ p = ep N q := by
  unfold markE
  rw [at_setU _ (ep N q), at_setU _ q]
  simp only [Bool.or_eq_true, decide_eq_true_eq]
  constructor
  · rintro (h | h | h)
    · exact .inr (.inr h)
    · exact .inr (.inl h)
    · exact .inl h
  · rintro (h | h | h)
    · exact .inr (.inr h)
    · exact .inr (.inl h)
    · exact .inl h
theorem at_markL (N : NetD) (p : Po) : ∀ (l : List Po) (U : Int → Int → Bool), at_ (markL N U l) p = true ↔ at_ U p = true ∨ ∃ q ∈ l, p = q ∨ p = ep N q
  | [], U => by simp [markL]
  | x :: l, U => by
    show at_ (markL N (markE N U x) l) p = true ↔ _
    rw [at_markL N p l, at_markE]
    simp only [List.mem_cons, exists_eq_or_imp, or_assoc]
/-- marked ports come with their edges' other ends and with their partners -/
def Cl (N : NetD) (U : Int → Int → Bool) : Prop := ∀ p, okP N p → at_ U p = true → at_ U (ep N p) = true ∧ (pairedB N p = true → at_ U (pi p) = true)
def NoOp (N : NetD) (U : Int → Int → Bool) : Prop := ∀ p, okP N p → pairedB N p = false → at_ U p = true
section
variable {N : NetD}
theorem Cl.mark (hg : N.good = true) {U : Int → Int → Bool} (h : Cl N U) {s : Po} {l : List Po} {c : Bool} (ht : TrO N s l c) (hs : c = true ∨ pairedB N s = false) : Cl N (markL N U l) := by
  intro p hp hU
  have hpos := ht.1.pos
  have M : ∀ {x : Po}, at_ (markL N U l) x = true ↔ at_ U x = true ∨ ∃ q ∈ l, x = q ∨ x = ep N q := fun {x} => at_markL N x l U
  rcases M.1 hU with h1 | ⟨q, hq, h1⟩
  · obtain ⟨a, b⟩ := h p hp h1
    exact ⟨M.2 (.inl a), fun hpb => M.2 (.inl (b hpb))⟩
  · have hqo := ht.1.ok q hq
    obtain ⟨i, hi, hqi⟩ := mem_nthP hq
    rcases h1 with rfl | rfl
    · refine ⟨M.2 (.inr ⟨p, hq, .inr rfl⟩), fun hpb => ?_⟩
      match i, hi, hqi with
      | 0, hi, hqi =>
        rw [ht.1.head] at hqi
        subst hqi
        rcases hs with rfl | hs
        · have := ht.2
          rw [if_pos rfl] at this
          rw [(nx_back hg ht.1.last this).2.1]
          exact M.2 (.inr ⟨lastP l, nthP_mem (by omega), .inr rfl⟩)
        · rw [hpb] at hs; cases hs
      | i + 1, hi, hqi =>
        have h2 := ht.1.link i hi
        rw [hqi] at h2
        have hio := ht.1.ok _ (nthP_mem (l := l) (i := i) (by omega))
        rw [(nx_back hg hio h2).2.1]
        exact M.2 (.inr ⟨nthP l i, nthP_mem (by omega), .inr rfl⟩)
    · refine ⟨by rw [(ep_ok hg hqo).2]; exact M.2 (.inr ⟨q, hq, .inl rfl⟩), fun hpb => ?_⟩
      have h2 := nx_yes hpb
      by_cases e : i + 1 < l.length
      · have h3 := ht.1.link i e
        rw [hqi, h2] at h3
        injection h3 with h3
        rw [h3]
        exact M.2 (.inr ⟨_, nthP_mem e, .inl rfl⟩)
      · obtain rfl : i = l.length - 1 := by omega
        have h3 := ht.2
        rw [show lastP l = q from hqi, h2] at h3
        split at h3
        · injection h3 with h3
          rw [h3, ← ht.1.head]
          exact M.2 (.inr ⟨_, nthP_mem hpos, .inl rfl⟩)
        · cases h3
/-- what is left unmarked behind the first pass lies on closed trails -/
theorem Cl.closed (hg : N.good = true) {U : Int → Int → Bool} (h : Cl N U) (hn : NoOp N U) {s : Po} (hs : okP N s) (hU : at_ U s = false) : pairedB N s = true ∧ trc N s = true := by
  have hp : pairedB N s = true := by
    cases hc : pairedB N s with
    | true => rfl
    | false => rw [hn s hs hc] at hU; cases hU
  refine ⟨hp, ?_⟩
  cases hc : trc N s with
  | true => rfl
  | false =>
    exfalso
    have ht := trl_is hg hs
    rw [hc] at ht
    generalize trl N s = l at ht
    have hpos := ht.1.pos
    have hlo := ht.1.last
    have h1 : pairedB N (ep N (lastP l)) = false := by
      cases hx : pairedB N (ep N (lastP l)) with
      | false => rfl
      | true => have := ht.2; rw [nx_yes hx] at this; cases this
    have h2 := hn _ (ep_ok hg hlo).1 h1
    have h3 := (h _ (ep_ok hg hlo).1 h2).1
    rw [(ep_ok hg hlo).2] at h3
    have back : ∀ k, k < l.length → at_ U (nthP l (l.length - 1 - k)) = true := by
      intro k
      induction k with
      | zero => intro _; exact h3
      | succ k ih =>
        intro hk
        have a := ih (by omega)
        have hlk := ht.1.link (l.length - 1 - (k + 1)) (by omega)
        rw [show l.length - 1 - (k + 1) + 1 = l.length - 1 - k by omega] at hlk
        have hko := ht.1.ok _ (nthP_mem (l := l) (i := l.length - 1 - (k + 1)) (by omega))
        obtain ⟨b1, b2, b3⟩ := nx_back hg hko hlk
        have hqo := ht.1.ok _ (nthP_mem (l := l) (i := l.length - 1 - k) (by omega))
        have c1 := (h _ hqo a).2 b1
        have c2 := (h _ (pi_ok hqo b1).1 c1).1
        rw [b3] at c2
        exact c2
    have := back (l.length - 1) (by omega)
    rw [Nat.sub_self, ht.1.head, hU] at this
    cases this
end

/-! ### the two passes -/
structure TSt where
  seen : Int → Int → Bool
  out : List (List Po)
noncomputable def addT (N : NetD) (σ : TSt) (p : Po) : TSt := ⟨markL N σ.seen (trl N p), σ.out ++ [trl N p]⟩
/-- second: the pass that takes what is left -/
def skipB (N : NetD) (second : Bool) (σ : TSt) (p : Po) : Bool := at_ σ.seen p || (!second && pairedB N p)
noncomputable def stepT (N : NetD) (second : Bool) (v m : Nat) (σ : TSt) : TSt := if skipB N second σ (v, m) = true then σ else addT N σ (v, m)
noncomputable def rowT (N : NetD) (second : Bool) (v : Nat) : Nat → TSt → TSt
  | 0, σ => σ
  | m + 1, σ => stepT N second v m (rowT N second v m σ)
noncomputable def passT (N : NetD) (second : Bool) : Nat → TSt → TSt
  | 0, σ => σ
  | k + 1, σ => rowT N second k (degAt N k) (passT N second k σ)
def t0 : TSt := ⟨fun _ _ => false, []⟩
def headP (l : List Po) : Po := nthP l 0
/-- what holds all along -/
structure TInv (N : NetD) (σ : TSt) : Prop where
  cl : Cl N σ.seen
  mem : ∀ l ∈ σ.out, ∃ s c, okP N s ∧ TrO N s l c
  nd : (σ.out.map headP).Nodup
  hs : ∀ l ∈ σ.out, at_ σ.seen (headP l) = true
section
variable {N : NetD}
theorem TInv.zero (N : NetD) : TInv N t0 := ⟨fun p _ h => (by cases h), fun l hl => (by cases hl), (by simp [t0]), fun l hl => (by cases hl)⟩
theorem seen_mono {σ : TSt} {p q : Po} (h : at_ σ.seen q = true) : at_ (addT N σ p).seen q = true := (at_markL N q _ _).2 (.inl h)
theorem TInv.add (hg : N.good = true) {σ : TSt} (h : TInv N σ) {p : Po} (hp : okP N p) (hU : at_ σ.seen p = false) (hc : trc N p = true ∨ pairedB N p = false) : TInv N (addT N σ p) := by
  have ht := trl_is hg hp
  have hh : headP (trl N p) = p := ht.1.head
  refine ⟨h.cl.mark hg ht hc, fun l hl => ?_, ?_, fun l hl => ?_⟩
  · rcases List.mem_append.1 hl with hl | hl
    · exact h.mem l hl
    · rw [List.mem_singleton.1 hl]; exact ⟨p, _, hp, ht⟩
  · show ((σ.out ++ [trl N p]).map headP).Nodup
    rw [List.map_append]
    refine List.nodup_append.2 ⟨h.nd, by simp, fun a ha b hb e => ?_⟩
    simp only [List.map_cons, List.map_nil, List.mem_singleton] at hb
    obtain ⟨l, hl, rfl⟩ := List.mem_map.1 ha
    have := h.hs l hl
    rw [e, hb, hh, hU] at this
    cases this
  · rcases List.mem_append.1 hl with hl | hl
    · exact seen_mono (h.hs l hl)
    · rw [List.mem_singleton.1 hl, hh]
      exact (at_markL N p _ _).2 (.inr ⟨p, by have := nthP_mem ht.1.pos; rw [ht.1.head] at this; exact this, .inl rfl⟩)
/-- the state behind the first pass -/
noncomputable def t1 (N : NetD) : TSt := passT N false N.ends.length t0
structure TInv2 (N : NetD) (σ : TSt) : Prop where
  inv : TInv N σ
  no : NoOp N σ.seen
theorem TInv2.left (hg : N.good = true) {σ : TSt} (h : TInv2 N σ) {p : Po} (hp : okP N p) (hU : at_ σ.seen p = false) : pairedB N p = true ∧ trc N p = true := h.inv.cl.closed hg h.no hp hU
theorem TInv.len (hg : N.good = true) {σ : TSt} (h : TInv N σ) : σ.out.length ≤ 240 := by
  have h1 := subLen (σ.out.map headP) grid h.nd (fun p hp => by
    obtain ⟨l, hl, rfl⟩ := List.mem_map.1 hp
    obtain ⟨s, c, hs, ht⟩ := h.mem l hl
    have e : headP l = s := ht.1.head
    rw [e]
    have := (good_n hg).2
    have := good_deg hg hs.1
    have h1 := hs.1
    have := hs.2
    unfold degAt at this
    exact mem_grid (by omega) (by omega))
  rwa [grid_len, List.length_map] at h1
/-- the trails, in the order in which they are found -/
noncomputable def found (N : NetD) : List (List Po) := (passT N true N.ends.length (t1 N)).out
end

end Go.Proofs.Ytcmmklcampmkjaa

/- Plain: trails that begin at different ports, sorted by where they begin: an insertion sort's result is the one sorted permutation. No condition on any program. -/
namespace Go.Proofs.Ytcmmklcampmkjaa
set_option linter.unusedVariables false

section
variable {N : NetD}
end

/-- ends as numbers -/
def castP (p : Po) : Int × Int := ((p.1 : Int), (p.2 : Int))
def castL (l : List Po) : List (Int × Int) := l.map castP
theorem castL_length (l : List Po) : (castL l).length = l.length := by simp [castL]
theorem nthE_castL {l : List Po} {i : Nat} (h : i < l.length) : nthE (castL l) i = (((nthP l i).1 : Int), ((nthP l i).2 : Int)) := by
  simp [nthE, castL, castP, nthP, h]
theorem castL_snoc (l : List Po) (p : Po) : castL (l ++ [p]) = castL l ++ [castP p] := by simp [castL]

end Go.Proofs.Ytcmmklcampmkjaa
