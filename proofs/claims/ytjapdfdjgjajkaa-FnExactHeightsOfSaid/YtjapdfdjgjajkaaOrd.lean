/-
  Contracts: the order of an acyclic orientation (program and reference).
-/
import Derived.Test.YtjapdfdjgjajkaaOrdP
import Derived.Deep.RegionHeld3
namespace Go.Proofs.Ytjapdfdjgjajkaa
open Go.ChangeShapes Go.WideShapes Go.ChangeAt Go.RowKit
set_option linter.unusedVariables false

set_option maxHeartbeats 4000000 in
set_option maxRecDepth 100000 in
theorem ord1_any (v gd gn go : Nat) (N : NetD) (o : List (List Int)) (out : List Int) (bs : List Bool) (bN oN cN : Nat) (v2 v3 : Value) (Ao : Option Addr) (co : Nat) (bD cD : Nat) (lo1 hi1 lo2 hi2 lo3 hi3 : Nat) (w : World)
    (xd : w.cell? ⟨gd, 0, none⟩ = some (.slice (some ⟨bD, 0, none⟩) N.ends.length cD)) (xn : BoxN w gn #[.slice (some ⟨bN, oN, none⟩) N.ends.length cN, v2, v3] 32) (xo : BoxN w go #[.slice Ao o.length co] 27)
    (hN : Net w lo1 hi1 (.agg #[.slice (some ⟨bN, oN, none⟩) N.ends.length cN, v2, v3]) N) (hO : IntSS w lo2 hi2 (.slice Ao o.length co) o) (hD : BoolS w lo3 hi3 (.slice (some ⟨bD, 0, none⟩) N.ends.length cD) bs)
    (hh1 : hi1 ≤ w.heap.size) (hh2 : hi2 ≤ w.heap.size) (hh3 : hi3 ≤ w.heap.size) (gd1 : gd < w.heap.size) (hg : N.good = true) (hp : portsB N o = true) (hl : bs.length = N.ends.length) (hb : ∀ j : Nat, j < N.ends.length → nthB bs j = doneIn out j) (hv : v < N.ends.length) :
    Calls Try.prog 81 #[.int .i64 v, .pointer (some ⟨gd, 0, none⟩), .pointer (some ⟨gn, 0, none⟩), .pointer (some ⟨go, 0, none⟩)] w fun e w' => e = .returned (.bool (freeAt N o out v)) ∧ Below w.heap.size w w' := by
  obtain ⟨n1, n40⟩ := good_n hg
  have HG := Lib.hid hg
  have HB := Lib.hid hb
  have HL := Lib.hid hl
  have hol := ports_len hp
  have hrw := ports_row hp hv
  have hd6 := good_deg hg hv
  have G1 := Lib.hid hN
  have G2 := Lib.hid hO
  have G3 := Lib.hid hD
  have ln := xn.lt
  have lo_ := xo.lt
  have k0 : w.cell? ⟨gn, 0, none⟩ = some (.slice (some ⟨bN, oN, none⟩) N.ends.length cN) := xn.cell 0 (by simp)
  have k1 : w.cell? ⟨go, 0, none⟩ = some (.slice Ao o.length co) := xo.cell 0 (by simp)
  obtain ⟨A4, c4, hbn, q4, hc4, hd4, hR4⟩ := Net.rowIn G1.out hv
  have R4 := Lib.hid hR4
  obtain ⟨bo, oo, u5, rfl, _, hbo, z5, hu5⟩ := SS.opened G2.out (j := v) (by omega)
  obtain ⟨A5, c5, rfl, hc5, hd5⟩ := hu5.dims
  have U5 := Lib.hid hu5
  have hvi : (v : Int) < N.ends.length := by omega
  have hvo : (v : Int) < o.length := by omega
  obtain ⟨y1, _⟩ := G3.out.at0 (j := v) (by rw [HL.out]; exact hv)
  rw [HB.out v hv] at y1
  clear hN hO hD hR4 hu5 xn xo hb hl hg hp
  cases hdv : doneIn out v with
  | true =>
    rw [hdv] at y1
    have HDV := Lib.hid hdv; clear hdv
    go_enter Try.func81, Try.ntmps81
    go_wp2_with fail
    go_ret
    exact ⟨ret_bool (by unfold freeAt; rw [HDV.out]; rfl), Below.refl _ _⟩
  | false =>
    rw [hdv] at y1
    have HDV := Lib.hid hdv; clear hdv
    go_enter Try.func81, Try.ntmps81
    go_wp2_with fail
    go_loopw [18] (fun i wr => ∃ m : Nat, m ≤ (nthL N.ends v).length ∧ i = .int .i64 m ∧ Hid (∀ j, j < m → (!portBad N o out v j) = true) ∧ Hid (Below w.heap.size w wr)) (fun i _ => (nthL N.ends v).length - (intOf i).toNat)
    case atStart => exact ⟨0, Nat.zero_le _, rfl, Lib.hid fun j hj => absurd hj (by omega), Lib.hid (Below.refl _ _)⟩
    case round =>
      obtain ⟨m, hm, rfl, HU, HBW⟩ := hrel
      have hsz := HBW.out.size
      by_cases hml : m < (nthL N.ends v).length
      case neg =>
        obtain rfl : m = (nthL N.ends v).length := by omega
        go_wp2_with fail
        go_ret
        exact ⟨ret_bool (by unfold freeAt; rw [HDV.out, rangeAll_true HU.out]; rfl), HBW.out⟩
      obtain ⟨b6, o6, rfl, _, hb6, e6, e6'⟩ := (R4.out.below HBW.out hh1).opened hml
      obtain ⟨t, r, et, ht, hr, _⟩ := good_end HG.out hv hml
      rw [et] at e6 e6'
      dsimp only at e6 e6'
      obtain ⟨b7, o7, rfl, _, hb7, x7, _⟩ := IntS.opened U5.out (j := m) (by omega)
      have HPB := Lib.hid (show portBad N o out v m = (decide (nth (nthL o v) m = 0) && !doneIn out t) by unfold portBad; rw [et]; rfl)
      obtain ⟨y, HY⟩ : ∃ y, Hid (nth (nthL o v) m = y) := ⟨_, Lib.hid rfl⟩
      rw [HY.out] at x7 HPB
      obtain ⟨y2, _⟩ := G3.out.at0 (j := t) (by rw [HL.out]; exact ht)
      rw [HB.out t ht] at y2
      clear et
      go_upto_region 6 with (fail)
      refine nameC ?_
      intro W3 HW3
      have hb3 : Below w.heap.size w W3 := by rw [HW3.out]; exact HBW.out.alloc (by omega) _
      have bxe : BoxN W3 wr.heap.size #[.int .i64 t, .int .i64 r] 60 := by rw [HW3.out]; exact BoxN.new _ _ _
      have ke : W3.cell? ⟨wr.heap.size, 0, none⟩ = some (.int .i64 t) := bxe.cell 0 (by simp)
      have c1 := (hb3.cell (p := ⟨go, 0, none⟩) (by show go < _; omega)).trans k1
      have c2 := (hb3.cell (p := ⟨bo, oo + v, none⟩) (by show bo < _; omega)).trans z5
      have c3 := (hb3.cell (p := ⟨b7, o7 + m, none⟩) (by show b7 < _; omega)).trans x7
      have c4 := (hb3.cell (p := ⟨gd, 0, none⟩) (by show gd < _; omega)).trans xd
      have c5 := (hb3.cell (p := ⟨bD, t, none⟩) (by show bD < _; obtain ⟨_, _, e, _, _, h⟩ := G3.out; have := (h (by rw [HL.out]; omega)); obtain ⟨b', o', e2, _, h2, _⟩ := this; injection e with e1; rw [← e1] at e2; injection e2 with e2; injection e2 with e2 _; omega)).trans y2
      clear HW3 bxe
      have hti : (t : Int) < N.ends.length := by omega
      have hmi : (m : Int) < (nthL o v).length := by omega
      by_cases hy : y = 0
      case neg =>
        have hy' : (y == 0) = false := by simpa using hy
        have HY0 := Lib.hid hy; clear hy
        go_wp2_with fail
        go_roundw
        case rel =>
          refine ⟨m + 1, by omega, by go_num, Lib.hid fun j hj => ?_, Lib.hid hb3⟩
          by_cases e : j = m
          · rw [e, HPB.out, decide_eq_false HY0.out]; rfl
          · exact HU.out j (by omega)
        case measure => simp [intOf]; omega
      have hy' : (y == 0) = true := by simpa using hy
      have HY0 := Lib.hid hy; clear hy
      cases hdt : doneIn out t with
      | true =>
        rw [hdt] at c5
        have HDT := Lib.hid hdt; clear hdt
        go_wp2_with fail
        go_roundw
        case rel =>
          refine ⟨m + 1, by omega, by go_num, Lib.hid fun j hj => ?_, Lib.hid hb3⟩
          by_cases e : j = m
          · rw [e, HPB.out, HDT.out]; simp
          · exact HU.out j (by omega)
        case measure => simp [intOf]; omega
      | false =>
        rw [hdt] at c5
        have HDT := Lib.hid hdt; clear hdt
        go_wp2_with fail
        go_ret
        refine ⟨ret_bool ?_, hb3⟩
        unfold freeAt
        rw [rangeAll_false hml (by rw [HPB.out, HDT.out, decide_eq_true HY0.out]; rfl), Bool.and_false]
def lenOfV : Value → Nat
  | .slice _ n _ => n
  | _ => 0
theorem lenOf_own {w : World} {base : Nat} {e : TypeId} {v : Value} {zs : List Int} (h : OwnI w base e v zs) : lenOfV v = zs.length := by
  obtain ⟨A, c, rfl, _⟩ := h.ints.dims; rfl
theorem fidx_upTo (p : Nat → Bool) (n : Nat) : fidx (fun x => p x.toNat) (upTo n) = fidxN p n := by
  rcases fidxN_cases p n with ⟨e, h1⟩ | ⟨k, hk, e, h1, h2⟩
  · rw [e]; exact fidx_none fun j hj => by rw [upTo_length] at hj; rw [nth_upTo hj]; exact h1 j hj
  · rw [e]; exact fidx_hit (by rw [upTo_length]; exact hk) (by rw [nth_upTo hk]; exact h1) fun j hj => by rw [nth_upTo (by omega)]; exact h2 j hj
theorem done_snoc {out : List Int} {bs : List Bool} {n v : Nat} (hl : bs.length = n) (hv : v < n) (h : ∀ j : Nat, j < n → nthB bs j = doneIn out j) : ∀ j : Nat, j < n → nthB (bs.set v true) j = doneIn (out ++ [(v : Int)]) j := fun j hj => by
  rw [nthB_set _ _ _ _ (by omega)]
  unfold doneIn at *
  by_cases e : j = v
  · rw [if_pos e, e]; simp
  · rw [if_neg e, h j hj, Bool.eq_iff_iff]
    simp only [decide_eq_true_eq, List.mem_append, List.mem_singleton]
    exact ⟨fun h => .inl h, fun h => h.resolve_right (by omega)⟩

set_option maxHeartbeats 4000000 in
set_option maxRecDepth 100000 in
theorem orderOf_any (v1 : Value) (N : NetD) (lo1 hi1 : Nat) (v2 : Value) (o : List (List Int)) (lo2 hi2 : Nat) (w : World) (h1 : Net w lo1 hi1 v1 N) (hh1 : hi1 ≤ w.heap.size) (h2 : IntSS w lo2 hi2 v2 o) (hh2 : hi2 ≤ w.heap.size) (hor : oriOk N o = true) :
    Calls Try.prog 60 #[v1, v2] w fun e w' => ∃ r, e = .returned (.tuple #[r, .bool (ordFull N o)]) ∧ IntS w' w.heap.size w'.heap.size r (ordLst N o) ∧ Below w.heap.size w w' := by
  obtain ⟨_, hg, hpb, _, _⟩ := oriOk_parts hor
  have HPB := Lib.hid hpb
  clear hpb hor
  obtain ⟨n1, n40⟩ := good_n hg
  have HG := Lib.hid hg; clear hg
  have hmk := fun W => run_make_row' (P := Try.prog) 79 4 (.bool false) 1 Try.underlying79 Try.infoBool rfl .i64 .i64 N.ends.length (by omega) (by omega) W
  have F1 := Lib.hid h1
  obtain ⟨A1, c1, A1', c1', A1'', c1'', rfl, hc1, hd1, _⟩ := h1.parts
  obtain ⟨b1, o1, _, _, rfl, _⟩ := Net.rowAt F1.out (u := 0) (by omega)
  clear h1
  have F2 := Lib.hid h2
  obtain ⟨A2, c2, rfl, hc2, hd2⟩ := h2.dims
  clear h2
  obtain ⟨WA, HWA⟩ : ∃ W, Hid (W = ((w.alloc (.cells #[.slice (some ⟨b1, o1, none⟩) N.ends.length c1, .slice A1' N.ids.length c1', .slice A1'' N.inputs.length c1''] 32)).alloc (.cells #[.slice A2 o.length c2] 27))) := ⟨_, Lib.hid rfl⟩
  have hbA : Below w.heap.size w WA := by rw [HWA.out]; exact (((Below.refl _ _).alloc (Nat.le_refl _) _).alloc (by simp; try omega) _)
  have hsA : w.heap.size + 2 ≤ WA.heap.size := by rw [HWA.out]; simp; try omega
  have bx1 : BoxN WA (w.heap.size) #[.slice (some ⟨b1, o1, none⟩) N.ends.length c1, .slice A1' N.ids.length c1', .slice A1'' N.inputs.length c1''] 32 := by rw [HWA.out]; exact (BoxN.new' _ _ _ (by simp)).still (grown_alloc _ _)
  have bx2 : BoxN WA (w.heap.size + 1) #[.slice A2 o.length c2] 27 := by rw [HWA.out]; exact (BoxN.new' _ _ _ (by simp))
  have G1 := Lib.hid (Net.below F1.out hbA hh1); clear F1
  have G2 := Lib.hid (ISS.below F2.out hbA hh2); clear F2
  go_enter Try.func60, Try.ntmps60
  go_upto_region 1 with (fail)
  rw [← HWA.out]; clear HWA
  have kbx1_0 : WA.cell? ⟨w.heap.size, 0, none⟩ = some (.slice (some ⟨b1, o1, none⟩) N.ends.length c1) := bx1.cell 0 (by simp)
  have kbx1_1 : WA.cell? ⟨w.heap.size, 1, none⟩ = some (.slice A1' N.ids.length c1') := bx1.cell 1 (by simp)
  have kbx1_2 : WA.cell? ⟨w.heap.size, 2, none⟩ = some (.slice A1'' N.inputs.length c1'') := bx1.cell 2 (by simp)
  go_upto_region 3 with (fail)
  clear kbx1_0 kbx1_1 kbx1_2 hmk
  refine nameC ?_
  intro W1 HW1
  have hg1 : WA.grownBy W1 none := by rw [HW1.out]; exact grownBy_trans (grown_alloc _ _) (grown_alloc _ _)
  have hs1 := hg1.size
  have HF1 := Lib.hid ((Turned.refl WA.heap.size WA.heap.size WA).still hg1)
  have HD := Lib.hid (show BoolS W1 WA.heap.size (WA.heap.size + 1) (.slice (some ⟨WA.heap.size, 0, none⟩) N.ends.length N.ends.length) (List.replicate N.ends.length false) by rw [HW1.out]; exact BoolS.still (made_bools _ _ _ rfl (by omega)) (grown_alloc _ _) (by simp))
  have bxd := Lib.hid (show BoxN W1 (WA.heap.size + 1) #[.slice (some ⟨WA.heap.size, 0, none⟩) N.ends.length N.ends.length] 79 by rw [HW1.out]; exact BoxN.new' _ _ _ (by simp))
  have hz : WA.heap.size + 2 ≤ W1.heap.size := by rw [HW1.out]; simp
  clear HW1
  have N_1 := Lib.hid (Net.turned G1.out HF1.out (by omega) (by omega)); clear G1
  have o_1 := Lib.hid (ISS.turned G2.out HF1.out (by omega) (by omega)); clear G2
  have bx1_1 := HF1.out.boxN bx1 (by omega); clear bx1
  have bx2_1 := HF1.out.boxN bx2 (by omega); clear bx2
  have hbA1 := (HF1.out.below_of hbA (by omega) (by omega)); clear hbA HF1
  go_loopw [6] (fun ov wr => ∃ (out : List Int) (bs : List Bool), Hid (OwnI wr W1.heap.size 3 ov out) ∧ Hid (BoolS wr WA.heap.size (WA.heap.size + 1) (.slice (some ⟨WA.heap.size, 0, none⟩) N.ends.length N.ends.length) bs) ∧ Hid (bs.length = N.ends.length) ∧ Hid (∀ j : Nat, j < N.ends.length → nthB bs j = doneIn out j) ∧ Hid (OTop N o out) ∧ WA.heap.size + 2 ≤ wr.heap.size ∧ Hid (Turned WA.heap.size (WA.heap.size + 1) W1 wr)) (fun ov _ => N.ends.length + 1 - lenOfV ov)
  case atStart => exact ⟨[], List.replicate N.ends.length false, Lib.hid (OwnI.nil _ _ _), HD, Lib.hid (by simp), Lib.hid fun j hj => by rw [nthB_replicate _ _ hj]; rfl, Lib.hid (OTop.nil N o), hz, Lib.hid (Turned.refl WA.heap.size (WA.heap.size + 1) W1)⟩
  case round =>
    obtain ⟨out, bs, HO, HD, HL, HB, HT, hz, HF2⟩ := hrel
    have hs2 := HF2.out.size
    have hlen := HT.out.inv.len
    obtain ⟨Az, cz, rfl, hcz, hdz⟩ := HO.out.ints.dims
    have hlv := HO.out.lt
    have kd : wr.cell? ⟨WA.heap.size + 1, 0, none⟩ = some (.slice (some ⟨WA.heap.size, 0, none⟩) N.ends.length N.ends.length) := (HF2.out.boxN bxd.out (by omega)).cell 0 (by simp)
    by_cases hfull : out.length < N.ends.length
    case neg =>
      have hfl : out.length = N.ends.length := by omega
      have HFL := Lib.hid hfl; clear hfl
      go_wp2_with fail
      go_ret2
      have hst := HT.out.stop (by rw [HT.out.inv.full HFL.out]; omega)
      have hok : ordFull N o = true := by unfold ordFull; rw [hst, decide_eq_true HFL.out]
      refine ⟨_, ret_vb hok.symm, ?_, (HF2.out.below_of hbA1 (by omega) (by omega))⟩
      unfold ordLst; rw [hok, if_pos rfl, hst]
      exact HO.out.ints.mono (by omega) (Nat.le_refl _)
    have hmf : ∀ (fn : Fn) (first cap : Array Value) (w : World), (Instr.makeFunc fn first cap).run Try.prog w = .ok (.func fn first cap) w := fun _ _ _ _ => rfl
    go_wp2_with fail
    clear kd
    refine (numbersTo_any N.ends.length _ (by omega)).mono ?_
    rintro e W3 ⟨r, rfl, hr, hb3⟩
    have hg3 := grown_below hb3; clear hb3
    have hs3 := hg3.size
    have HF3 := Lib.hid (HF2.out.still hg3); clear HF2
    have O3 := Lib.hid (OwnI.still HO.out hg3); clear HO
    have D3 := Lib.hid (BoolS.still HD.out hg3 (by omega)); clear HD
    have R3 := Lib.hid hr; clear hr
    obtain ⟨Ar, cr, rfl, hcr, hdr⟩ := R3.out.dims
    rw [upTo_length] at hcr ⊢
    have n1x := Lib.hid (Net.turned N_1.out HF3.out (by omega) (by omega))
    have o1x := Lib.hid (ISS.turned o_1.out HF3.out (by omega) (by omega))
    have b1x := Lib.hid (HF3.out.boxN bx1_1 (by omega))
    have b2x := Lib.hid (HF3.out.boxN bx2_1 (by omega))
    have b3x := Lib.hid (HF3.out.boxN bxd.out (by omega))
    have HCF := Lib.hid (IndexFunc_int 81 #[.pointer (some ⟨WA.heap.size + 1, 0, none⟩), .pointer (some ⟨w.heap.size, 0, none⟩), .pointer (some ⟨w.heap.size + 1, 0, none⟩)] (enters_of Try.func81 (by kernel_rfl) rfl) (fun x => freeAt N o out x.toNat) _ (upTo N.ends.length) _ _ _ R3.out (Nat.le_refl _) (fun x hx W hW => by
      obtain ⟨k, hk, rfl⟩ : ∃ k : Nat, k < N.ends.length ∧ x = k := by
        unfold upTo at hx
        simp only [List.mem_map, List.mem_range] at hx
        obtain ⟨k, hk, e⟩ := hx
        exact ⟨k, hk, e.symm⟩
      have hws := hW.size
      have l1 := b1x.out.lt
      have l2 := b2x.out.lt
      have l3 := b3x.out.lt
      exact ord1_any k (WA.heap.size + 1) w.heap.size (w.heap.size + 1) N o out bs b1 o1 _ _ _ _ _ WA.heap.size _ lo1 hi1 lo2 hi2 WA.heap.size (WA.heap.size + 1) W ((b3x.out.below hW l3).cell 0 (by simp)) (b1x.out.below hW l1) (b2x.out.below hW l2) (n1x.out.below hW (by omega)) (ISS.below o1x.out hW (by omega)) (D3.out.below hW (by omega)) (by omega) (by omega) (by omega) (by omega) HG.out HPB.out HL.out HB.out hk))
    clear n1x o1x b1x b2x b3x
    have hu := upTo_length N.ends.length
    rw [hu] at HCF
    clear hu
    go_wp2_with fail
    refine (HCF.out).mono ?_
    rintro e W4 ⟨rfl, hb4⟩
    have hg4 := grown_below hb4; clear hb4
    have hs4 := hg4.size
    have HF4 := Lib.hid (HF3.out.still hg4); clear HF3
    have O4 := Lib.hid (OwnI.still O3.out hg4); clear O3
    have D4 := Lib.hid (BoolS.still D3.out hg4 (by omega)); clear D3
    have R4 := Lib.hid (IntS.still R3.out hg4 (by omega)); clear R3
    rw [fidx_upTo]
    rcases fidxN_cases (freeAt N o out) N.ends.length with ⟨e, _⟩ | ⟨k, hk, e, hp, _⟩
    case inl =>
      have E := Lib.hid e
      rw [e]
      clear e
      go_wp2_with fail
      go_ret2
      have hst := HT.out.stop (by rw [E.out]; omega)
      have hok : ordFull N o = false := by unfold ordFull; rw [hst, decide_eq_false (by omega)]
      refine ⟨_, ret_vb hok.symm, ?_, (HF4.out.below_of hbA1 (by omega) (by omega))⟩
      unfold ordLst; rw [hok]
      exact IntS.nil _ _ _
    have HT2 := Lib.hid (HT.out.step hk e hp)
    rw [e]
    clear e hp
    have hlen2 := HT2.out.inv.len
    simp only [List.length_append, List.length_singleton] at hlen2
    have kd : W4.cell? ⟨WA.heap.size + 1, 0, none⟩ = some (.slice (some ⟨WA.heap.size, 0, none⟩) N.ends.length N.ends.length) := (HF4.out.boxN bxd.out (by omega)).cell 0 (by simp)
    obtain ⟨y1, y2⟩ := D4.out.at0 (j := k) (by rw [HL.out]; exact hk)
    have HS := Lib.hid (D4.out.set0 (j := k) (by rw [HL.out]; exact hk) true)
    obtain ⟨y, HY⟩ : ∃ y, Hid (nthB bs k = y) := ⟨_, Lib.hid rfl⟩
    rw [HY.out] at y1
    have hki : (k : Int) < N.ends.length := by omega
    go_upto_region 8 with (fail)
    clear kd y1 y2
    refine nameC ?_
    intro W5 HW5
    have hg5 : W4.grownBy W5 (some WA.heap.size) := by rw [HW5.out]; exact grown_set _ _ _
    have hs5 := hg5.size
    have HF5 := Lib.hid (HF4.out.grown hg5 (fun g hg => .inl (by cases hg; omega))); clear HF4
    have HO2 := Lib.hid (OwnI.far O4.out hg5 (fun g hg => .inl (by cases hg; omega)))
    have HS2 : Hid (BoolS W5 WA.heap.size (WA.heap.size + 1) (.slice (some ⟨WA.heap.size, 0, none⟩) N.ends.length N.ends.length) (bs.set k true)) := by rw [HW5.out]; exact HS
    clear HW5 HS
    go_wp2_with (at_builtin; refine append_int (s := .tmp 28) Try.underlying23 Try.info3 (by decide) W5 rfl _ rfl HO2.out k _ rfl (by simp [Act.eval, go_sem]) (by omega) (by omega) ?_; intro v' w' ho' hg' hat')
    go_roundw
    case rel =>
      have hgs := hg'.size
      exact ⟨_, _, Lib.hid ho', Lib.hid (BoolS.far HS2.out hg' (by omega) (fun g hg => .inr (by have := hlv g hg; omega))), Lib.hid (by rw [List.length_set]; exact HL.out), Lib.hid (done_snoc HL.out hk HB.out), HT2, by omega, Lib.hid (HF5.out.grown hg' fun g hg => .inr (by have := hlv g hg; omega))⟩
    case measure =>
      have := lenOf_own ho'
      rw [this]
      simp [lenOfV]
      omega

end Go.Proofs.Ytjapdfdjgjajkaa
