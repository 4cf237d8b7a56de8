/-
  Contracts of the program's distancesFrom and allDistances.
-/
import Derived.Test.YtcmmklcampmkjaaDistS
namespace Go.Proofs.Ytcmmklcampmkjaa
open Go.ChangeShapes Go.WideShapes Go.ChangeAt Go.RowKit
set_option linter.unusedVariables false

theorem tail_one {w : World} {base n c : Nat} {A B : Option Addr} {zs : List Int} (h : OwnQ w base (.slice (if c = 1 then A else B) n (c - 1)) zs) (e : c = 1) : OwnQ w base (.slice A n 0) zs := by
  subst e; exact h
theorem tail_more {w : World} {base n c : Nat} {A B : Option Addr} {zs : List Int} (h : OwnQ w base (.slice (if c = 1 then A else B) n (c - 1)) zs) (e : ¬ c = 1) : OwnQ w base (.slice B n (c - 1)) zs := by
  rwa [if_neg e] at h

set_option maxHeartbeats 4000000 in
set_option maxRecDepth 100000 in
theorem distancesFrom_any (v : Value) (N : NetD) (x : Nat) (lo hi : Nat) (w : World) (h : Net w lo hi v N) (hhi : hi ≤ w.heap.size) (hx : x < N.ends.length) (hn : N.ends.length ≤ 1048576) (hN : N.nodes) (hdeg : ∀ u, u < N.ends.length → (nthL N.ends u).length ≤ 1048576) :
    Calls Try.prog 59 #[v, .int .i64 x] w fun e w' => ∃ r, e = .returned r ∧ IntS w' w.heap.size w'.heap.size r (dist N x) ∧ Below w.heap.size w w' := by
  have HNET := Lib.hid h
  obtain ⟨A, c, A2, c2, A3, c3, rfl, hc1, hc2, _, _, hopen⟩ := h.parts
  obtain ⟨b, off, rfl, hb1, hb2, hNO⟩ := hopen (by omega)
  have NW := Lib.hid hNO
  have hxl : (x : Int) < N.ends.length := by omega
  have HNN := Lib.hid hN
  have HDG := Lib.hid hdeg
  have b0 := (Box3.new w 34 (.slice (some ⟨b, off, none⟩) N.ends.length c) (.slice A2 N.ids.length c2) (.slice A3 N.inputs.length c3)).alloc (.cells #[.int .i64 (-1)] 3)
  have hb0 := below_a2' w (.cells #[.slice (some ⟨b, off, none⟩) N.ends.length c, .slice A2 N.ids.length c2, .slice A3 N.inputs.length c3] 34) (.cells #[.int .i64 (-1)] 3)
  clear h hN hdeg hopen hNO
  go_enter Try.func59, Try.ntmps59
  go_wp2_with fail
  refine (repeat1_any _ (-1) N.ends.length (w.heap.size + 1) (w.heap.size + 1 + 1) _ (IntS.one _ _ _ (by simp)) (by simp) hn).mono ?_
  rintro e w1 ⟨r, rfl, hr, hbr⟩
  have hsh := hr.form
  rw [List.length_replicate] at hsh
  obtain ⟨O, co, rfl, hco1, hco2, hocell⟩ := hsh
  obtain ⟨bo, oo, rfl, ho1, ho2, _⟩ := hocell (by omega)
  have hsz1 := hbr.size
  have hbx := b0.below hbr (by simp; omega)
  have hb := hb0.trans (hbr.mono (by simp; omega))
  rw [show ((w.alloc (.cells #[.slice (some ⟨b, off, none⟩) N.ends.length c, .slice A2 N.ids.length c2, .slice A3 N.inputs.length c3] 34)).alloc (.cells #[.int .i64 (-1)] 3)).heap.size = w.heap.size + 2 by simp] at hr ho1 hsz1
  clear b0 hb0 hbr hocell
  have hoc := hr.at_ (j := x) (by simpa using hx)
  rw [nth_replicate _ _ hx] at hoc
  obtain ⟨hoc1, hoc2⟩ := hoc
  obtain ⟨sO, HSO⟩ : ∃ sO, sO = w1.heap.size := ⟨_, rfl⟩
  have hO1 := (hr.set (j := x) (by simpa using hx) 0).alloc (by rw [size_setCell]; omega) (.cells #[.int .i64 x] 3)
  have hQ1 := OwnQ.one (base := sO) (w1.setCell ⟨bo, oo + x, none⟩ (.int .i64 0)) x 3 (g := w1.heap.size) (by rw [size_setCell]) (by omega)
  have hbx1 := (hbx.far (p := ⟨bo, oo + x, none⟩) (by show w.heap.size ≠ bo; omega) (.int .i64 0)).alloc (.cells #[.int .i64 x] 3)
  have hb1' := (hb.setCell (p := ⟨bo, oo + x, none⟩) (by show w.heap.size ≤ bo; omega) (.int .i64 0)).alloc (by rw [size_setCell]; omega) (.cells #[.int .i64 x] 3)
  have hs1 : sO ≤ ((w1.setCell ⟨bo, oo + x, none⟩ (.int .i64 0)).alloc (.cells #[.int .i64 x] 3)).heap.size := by simp; omega
  rw [← HSO] at hO1 ho2 hsz1
  clear hr hbx hb
  go_wp2_with fail
  clear hoc1 hoc2 HSO
  go_loopg [6] (N.ends.length + 1) (fun gg qv wr => ∃ (a : Nat) (st : BSt), N.ends.length + 1 - a ≤ gg ∧ OwnQ wr sO qv (st.2.drop a) ∧ IntS wr (w.heap.size + 2) sO (.slice (some ⟨bo, oo, none⟩) N.ends.length co) st.1 ∧ Hid (BTop N x a st) ∧
      a ≤ st.2.length ∧ st.2.length ≤ N.ends.length ∧ Box3 wr w.heap.size 34 (.slice (some ⟨b, off, none⟩) N.ends.length c) (.slice A2 N.ids.length c2) (.slice A3 N.inputs.length c3) ∧ sO ≤ wr.heap.size ∧ Below w.heap.size w wr)
  case atStart => exact ⟨0, bfs0 N x, by omega, hQ1, hO1, Lib.hid (BTop.start hx), Nat.zero_le _, (BInv.start hx).le, hbx1, hs1, hb1'⟩
  case round =>
    clear hO1 hQ1 hbx1 hb1' hs1
    obtain ⟨a, st, hgg, hQ, hO, HT, hal, hln, hbx, hs, hb⟩ := hrel
    obtain ⟨ql, HQL⟩ : ∃ ql, Hid ((st.2.drop a).length = ql) := ⟨_, Lib.hid rfl⟩
    have hql : ql + a = st.2.length := by rw [← HQL.out, List.length_drop]; omega
    have HQ := Lib.hid hQ
    obtain ⟨g, qo, cq, rfl, hq1, hq2, hq3, hq4, hq5, _⟩ := hQ
    rw [HQL.out] at hq1 hq5
    unfold maxLen at hq2
    by_cases hlt : a < st.2.length
    case neg =>
      obtain rfl : a = st.2.length := by omega
      obtain rfl : ql = 0 := by omega
      rw [HQL.out]
      go_wp2_with fail
      go_ret
      refine ⟨.slice (some ⟨bo, oo, none⟩) N.ends.length co, rfl, ?_, hb⟩
      rw [HT.out.stop]
      exact hO.mono (by omega) hs
    obtain ⟨u, hu1, hu2, hu3, hu4⟩ := HT.out.inv.node a hlt
    have kw := hq5 0 (by omega)
    rw [nth_drop, Nat.add_zero, Nat.add_zero, hu1] at kw
    have HU1 := Lib.hid hu1
    obtain ⟨A4, c4, e1, e2, e3, e4⟩ := NW.out u hu2
    have g1 := (hb.cell (p := ⟨b, off + u, none⟩) (by show b < _; omega)).trans e1
    have g0 := hbx.cells.1
    obtain ⟨d, HD⟩ : ∃ d, Hid (nth st.1 u = d) := ⟨_, Lib.hid rfl⟩
    rw [HD.out] at hu3 hu4
    have hd1 := HDG.out u hu2
    have hui : (u : Int) < N.ends.length := by omega
    have HQ2 := HQ.out
    rw [HQL.out, List.drop_eq_getElem_cons hlt] at HQ2
    have HQT := Lib.hid HQ2.tail
    have HC4 := Lib.hid e4
    clear HQ2 hu1 hq5 e1 e4
    obtain ⟨wo, rfl⟩ : ∃ wo : World, wo = wr := ⟨_, rfl⟩
    rw [HQL.out]
    have hqp : (0 : Int) < ql := by omega
    go_wp2_with fail
    clear kw g1 g0
    all_goals
      go_loopw [34, 6] (fun i qv wi => ∃ (m : Nat) (os ws : List Int), m ≤ (nthL N.ends u).length ∧ i = .int .i64 m ∧ OwnQ wi sO qv (ws.drop (a + 1)) ∧ IntS wi (w.heap.size + 2) sO (.slice (some ⟨bo, oo, none⟩) N.ends.length co) os ∧ Hid (BMid N a st u d m (os, ws)) ∧
          a < ws.length ∧ ws.length ≤ N.ends.length ∧ Box3 wi w.heap.size 34 (.slice (some ⟨b, off, none⟩) N.ends.length c) (.slice A2 N.ids.length c2) (.slice A3 N.inputs.length c3) ∧ sO ≤ wi.heap.size ∧ Below w.heap.size w wi) (fun i _ _ => (nthL N.ends u).length - (intOf i).toNat)
      case atStart =>
        exact ⟨0, st.1, st.2, Nat.zero_le _, rfl, (by first | exact tail_one HQT.out (by assumption) | exact tail_more HQT.out (by assumption)), hO, Lib.hid (BMid.start HT.out.inv hlt HU1.out HD.out), hlt, hln, hbx, hs, hb⟩
      case round =>
        clear HQT HQ hO hbx hb hs
        obtain ⟨m, os, ws, hm, rfl, hQ, hO, HM, hal, hln, hbx, hs, hb⟩ := hrel
        by_cases hml : m < (nthL N.ends u).length
        case neg =>
          obtain rfl : m = (nthL N.ends u).length := by omega
          go_wp2_with fail
          go_roundg (N.ends.length - a)
          case measure => omega
          case rel => exact ⟨a + 1, (os, ws), by omega, hQ, hO, Lib.hid (HT.out.next hlt HM.out HU1.out HD.out), hal, hln, hbx, hs, hb⟩
        obtain ⟨b2, off2, rfl, hb5, hb6, hcs⟩ := HC4.out (by omega)
        obtain ⟨x1, x2⟩ := hcs m hml
        have e1 := (hb.cell (p := ⟨b2, off2 + m * 2, none⟩) (by show b2 < _; omega)).trans x1
        have e2 := (hb.cell (p := ⟨b2, off2 + m * 2 + 1, none⟩) (by show b2 < _; omega)).trans x2
        obtain ⟨t, ht, htl⟩ := HNN.out u hu2 m hml
        rw [ht] at e1
        obtain ⟨p2, HP2⟩ : ∃ p2, Hid ((nthE (nthL N.ends u) m).2 = p2) := ⟨_, Lib.hid rfl⟩
        rw [HP2.out] at e2
        have hlen : os.length = N.ends.length := HM.out.inv.len
        have ht1 := (hO.at_ (j := t) (by omega)).1
        have ht2 := (hO.at_ (j := t) (by omega)).2
        have hu1 := (hO.at_ (j := u) (by omega)).1
        rw [HM.out.here] at hu1
        obtain ⟨y, HY⟩ : ∃ y, Hid (nth os t = y) := ⟨_, Lib.hid rfl⟩
        rw [HY.out] at ht1
        have HTT := Lib.hid ht
        have hti : (t : Int) < N.ends.length := by omega
        obtain ⟨wi, HWI⟩ : ∃ wi, Hid (wi = wr.alloc (.cells #[.int .i64 t, .int .i64 p2] 60)) := ⟨_, Lib.hid rfl⟩
        have hO1 : IntS wi (w.heap.size + 2) sO (.slice (some ⟨bo, oo, none⟩) N.ends.length co) os := by rw [HWI.out]; exact hO.alloc hs _
        have hQ1 := Lib.hid (show OwnQ wi sO _ (ws.drop (a + 1)) by rw [HWI.out]; exact hQ.alloc _)
        have hbx1 : Box3 wi w.heap.size 34 (.slice (some ⟨b, off, none⟩) N.ends.length c) (.slice A2 N.ids.length c2) (.slice A3 N.inputs.length c3) := by rw [HWI.out]; exact hbx.alloc _
        have hb1' : Below w.heap.size w wi := by rw [HWI.out]; exact hb.alloc hb.size _
        have hs1 : sO ≤ wi.heap.size := by rw [HWI.out]; simp; omega
        have hat1 := (hO1.at_ (j := t) (by omega)).1
        rw [HY.out] at hat1
        have hat2 := (hO1.at_ (j := t) (by omega)).2
        have hau1 := (hO1.at_ (j := u) (by omega)).1
        rw [HM.out.here] at hau1
        have hen : wi.cell? ⟨wr.heap.size, 0, none⟩ = some (.int .i64 t) := by rw [HWI.out, World.cell?_alloc_at _ _ _ _ rfl]; rfl
        clear ht hcs x1 x2 hlen
        have za := hat1
        have zb := hen
        rw [HWI.out] at za zb
        by_cases hy : y < 0
        case neg =>
          clear hat1 hat2 hau1 hen
          go_wp2_with fail
          go_roundw
          case rel =>
            rw [← HWI.out]
            refine ⟨m + 1, os, ws, by omega, by go_num, hQ1.out, hO1, Lib.hid ?_, hal, hln, hbx1, hs1, hb1'⟩
            have := HM.out.next hml HTT.out htl
            rwa [see_pos (by rw [HY.out]; exact hy)] at this
          case measure => simp [intOf]; omega
        go_wp2_with fail
        rw [← HWI.out]
        clear za zb
        go_region
        obtain ⟨W3, HW3⟩ : ∃ W3, Hid (W3 = (wi.setCell ⟨bo, oo + t, none⟩ (.int .i64 (d + 1))).drew) := ⟨_, Lib.hid rfl⟩
        rw [← HW3.out]
        have hnext : Hid (BMid N a st u d (m + 1) (os.set t (d + 1), ws ++ [(t : Int)])) := Lib.hid (by
          have := HM.out.next hml HTT.out htl
          rwa [see_neg (by rw [HY.out]; exact hy)] at this)
        have hlen : os.length = N.ends.length := HM.out.inv.len
        have hO2 : IntS W3 (w.heap.size + 2) sO (.slice (some ⟨bo, oo, none⟩) N.ends.length co) (os.set t (d + 1)) := by rw [HW3.out]; exact hO1.set (j := t) (by omega) (d + 1)
        have HQ2 := Lib.hid (show OwnQ W3 sO _ (ws.drop (a + 1)) by rw [HW3.out]; exact (hQ1.out.setCell (p := ⟨bo, oo + t, none⟩) ho2 (.int .i64 (d + 1))).drew)
        have hbx2 : Box3 W3 w.heap.size 34 (.slice (some ⟨b, off, none⟩) N.ends.length c) (.slice A2 N.ids.length c2) (.slice A3 N.inputs.length c3) := by rw [HW3.out]; exact hbx1.far (p := ⟨bo, oo + t, none⟩) (by show w.heap.size ≠ bo; omega) _
        have hb2' : Below w.heap.size w W3 := by rw [HW3.out]; exact (hb1'.setCell (p := ⟨bo, oo + t, none⟩) (by show w.heap.size ≤ bo; omega) _).drew
        have hs2 : sO ≤ W3.heap.size := by rw [HW3.out]; show sO ≤ (wi.setCell _ _).heap.size; rw [size_setCell]; exact hs1
        have hen2 : W3.cell? ⟨wr.heap.size, 0, none⟩ = some (.int .i64 t) := by
          rw [HW3.out]
          show (wi.setCell _ _).cell? _ = _
          rw [World.cell?_setCell_other _ _ _ _ (by intro e; injection e with e _ _; omega)]
          exact hen
        clear HW3 hO1 hQ1 hbx1 hb1' hs1 hat1 hat2 hau1 hen hlen
        have hdl : (ws.drop (a + 1)).length ≤ N.ends.length := by rw [List.length_drop]; omega
        go_wp2_with (at_builtin; refine append_q (s := .tmp 53) Try.underlying23 Try.info3 (by decide) W3 rfl _ rfl HQ2.out t _ rfl (by simp [Act.eval, go_sem]) (by omega) ?_; intro v' w' hq' hg' hat')
        go_roundw
        case rel =>
          have hrow := HQ2.out.lt
          have hgs := hg'.size
          refine ⟨m + 1, os.set t (d + 1), ws ++ [(t : Int)], by omega, by go_num, ?_, hO2.far hg' (by omega) (fun k hk => by have := hrow k hk; omega), hnext, by simp; omega, hnext.out.inv.le, hbx2.grown hg' (fun k hk => by have := hrow k hk; omega), by omega, hb2'.grown hg' (by omega) fun k hk => by have := hrow k hk; omega⟩
          rw [List.drop_append_of_le_length (by omega)]
          exact hq'
        case measure => simp [intOf]; omega

end Go.Proofs.Ytcmmklcampmkjaa
