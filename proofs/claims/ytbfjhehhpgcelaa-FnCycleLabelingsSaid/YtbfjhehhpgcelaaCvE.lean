/-
  Several texts in one: CyM, Curs, Curs2, CyO. No condition on any program.
-/
import Derived.Test.YtbfjhehhpgcelaaCvC
import Derived.Test.YtbfjhehhpgcelaaCvA
import Derived.Test.YtbfjhehhpgcelaaCvD
import Derived.Test.YtbfjhehhpgcelaaCvB
import Derived.Laws.BitsAllLaws
import Derived.Laws.BitsLemmas
import Derived.Deep.Cut

/- Contract: the problem whose arcs are the walks of a length (program). -/
namespace Go.Proofs.Ytbfjhehhpgcelaa
open Go.ChangeShapes Go.WideShapes Go.ChangeAt Go.RowKit
set_option linter.unusedVariables false

theorem results_ct {fn : Func} {t u : Tmp} {ty : TypeId} (h : fn.results = #[.cell t ty, .tmp u]) (tmps : Array Value) (P : Program) (w : World) {p : Addr} {v b : Value} (ha : tmps.getD t undef = .pointer (some p)) (hl : (loadVar ty p).run P w = .ok v w) (hb : tmps.getD u undef = b) :
    (results fn tmps).run P w = .ok (.tuple #[v, b]) w := by
  have ha' : tmps[t]?.getD undef = .pointer (some p) := by simpa using ha
  have hb' : tmps[u]?.getD undef = b := by simpa using hb
  simp [results, h, ha', hb', asAddr, hl]
theorem load_wp {w : World} {g : Nat} {a b : Value} (h : BoxN w g #[a, b] 26) : (loadVar 26 ⟨g, 0, none⟩).run Try.prog w = .ok (.agg #[a, b]) w := by
  have k0 : w.cell? ⟨g, 0, none⟩ = some a := h.cell 0 (by simp)
  have k1 : w.cell? ⟨g, 1, none⟩ = some b := h.cell 1 (by simp)
  unfold loadVar
  simp [go_sem, k0, k1]
theorem OwnSS.farM {w w' : World} {base top : Nat} {e : TypeId} {v : Value} {xss : List (List Int)} {row : Option Nat} (h : OwnSS w base top e v xss) (hg : w.grownBy w' row) (hr : ∀ g, row = some g → g < base) : OwnSS w' base top e v xss := by
  obtain ⟨vs, lo, hi, h1, h2, h3, h4, h5, h6⟩ := h
  refine ⟨vs, lo, hi, h1, h2.kept hg ?_, h3, Nat.le_trans h4 hg.size, fun j hj => ?_, h6⟩
  · cases hv : v.ownBlock with
    | none => exact .inl rfl
    | some g =>
      right
      intro e
      have := (h2.lt g hv).1
      have := hr g e.symm
      omega
  · obtain ⟨u, a1, a2, a3, a4, a5⟩ := h5 j hj
    exact ⟨u, a1, a2, a3, a4.far hg (by omega) (fun g e => .inl (by have := hr g e; omega)), a5⟩
theorem infoRowM : (Try.prog.info? 29).map (fun i => (i.zero, i.size, i.bytes)) = some (some (.slice none 0 0), 1, 24) := by kernel_rfl
/-- the pairs of labels with a walk of k steps, in order -/
def powRow (n : Nat) (m : Nat → Nat → Bool) (k a : Nat) : List (List Int) := (ascI n (wk n m k a)).map fun b => [(a : Int), b]
def powR (n : Nat) (m : Nat → Nat → Bool) (k : Nat) : Nat → List (List Int)
  | 0 => []
  | a + 1 => powR n m k a ++ powRow n m k a
theorem powR_succ (n : Nat) (m : Nat → Nat → Bool) (k a : Nat) : powR n m k (a + 1) = powR n m k a ++ powRow n m k a := rfl
theorem powRow_len (n : Nat) (m : Nat → Nat → Bool) (k a : Nat) : (powRow n m k a).length = (ascI n (wk n m k a)).length := by simp [powRow]
theorem powR_len (n : Nat) (m : Nat → Nat → Bool) (k a : Nat) : (powR n m k a).length ≤ a * n := by
  induction a with
  | zero => simp [powR]
  | succ a ih =>
    have := ascI_len n (wk n m k a)
    rw [powR_succ, List.length_append, powRow_len, Nat.succ_mul]; omega
theorem powRow_take {n k a j : Nat} {m : Nat → Nat → Bool} (h : j < (ascI n (wk n m k a)).length) : (powRow n m k a).take (j + 1) = (powRow n m k a).take j ++ [[(a : Int), nth (ascI n (wk n m k a)) j]] := by
  rw [List.take_succ_eq_append_getElem (by rw [powRow_len]; exact h)]
  congr 2
  unfold powRow
  rw [List.getElem_map, nth_eq h]

set_option maxHeartbeats 8000000 in
set_option maxRecDepth 100000 in
theorem PowerWalk_any (PL : Nat) (v1 : Value) (P : List (List Int)) (lo1 hi1 : Nat) (k : Nat) (w : World) (h1 : IntSS w lo1 hi1 v1 P) (hh1 : hi1 ≤ w.heap.size) (hg : wkGood (PL : Int) P = true) (hk1 : 1 ≤ k) (hk : k ≤ 200) :
    Calls Try.prog 19 #[.agg #[.int .i64 (PL : Nat), v1], .int .i64 (k : Nat)] w fun e w' => ∃ r, e = .returned (.tuple #[.agg #[.int .i64 (PL : Nat), r], .bool true]) ∧ IntSS w' w.heap.size w'.heap.size r (powR PL (may P) k PL) ∧ Below w.heap.size w w' := by
  have HG := Lib.hid hg
  obtain ⟨n', hn', n1, n12⟩ := good_L hg
  obtain rfl : PL = n' := by omega
  clear hg hn'
  have F1 := Lib.hid h1
  obtain ⟨A1, c1, rfl, hc1, hd1⟩ := h1.dims
  clear h1
  obtain ⟨WA, HWA⟩ : ∃ W, Hid (W = ((w.alloc (.cells #[.int .i64 PL, .slice A1 P.length c1] 26)).alloc (.cells #[.int .i64 0, .slice none 0 0] 26))) := ⟨_, Lib.hid rfl⟩
  have hbA : Below w.heap.size w WA := by rw [HWA.out]; exact (((Below.refl _ _).alloc (Nat.le_refl _) _).alloc (by simp; try omega) _)
  have hsA : w.heap.size + 2 ≤ WA.heap.size := by rw [HWA.out]; simp; try omega
  have bx1 : BoxN WA (w.heap.size) #[.int .i64 PL, .slice A1 P.length c1] 26 := by rw [HWA.out]; exact ((BoxN.new' _ _ _ (by simp)).still (grown_alloc _ _))
  have bxx0 : BoxN WA (w.heap.size + 1) #[.int .i64 0, .slice none 0 0] 26 := by rw [HWA.out]; exact (BoxN.new' _ _ _ (by simp))
  have G1 := Lib.hid (ISS.below F1.out hbA hh1); clear F1
  go_enter Try.func19, Try.ntmps19
  go_upto_region 1 with (fail)
  rw [← HWA.out]; clear HWA
  have kbx1_0 : WA.cell? ⟨w.heap.size, 0, none⟩ = some (.int .i64 PL) := bx1.cell 0 (by simp)
  have kbx1_1 : WA.cell? ⟨w.heap.size, 1, none⟩ = some (.slice A1 P.length c1) := bx1.cell 1 (by simp)
  go_wp2_with fail
  clear kbx1_0 kbx1_1
  refine (IsWalkProblem_any (PL : Int) _ P _ _ _ G1.out (by omega)).mono ?_
  rintro e W1 ⟨rfl, hb1⟩
  have hg1 := grown_below hb1; clear hb1
  have hs1 := hg1.size
  have HF1 := Lib.hid ((Turned.refl WA.heap.size WA.heap.size WA).still hg1)
  have kbx1_0 : W1.cell? ⟨w.heap.size, 0, none⟩ = some (.int .i64 PL) := (HF1.out.boxN bx1 (by omega)).cell 0 (by simp)
  have kbx1_1 : W1.cell? ⟨w.heap.size, 1, none⟩ = some (.slice A1 P.length c1) := (HF1.out.boxN bx1 (by omega)).cell 1 (by simp)
  have hr0 : inB (k : Int) 1 200 = true := inB_true (by omega) (by omega)
  rw [HG.out]
  go_wp2_with fail
  refine (within_any (k : Int) 1 200 _).mono ?_
  rintro e w' ⟨rfl, rfl⟩
  rw [hr0]
  clear hr0
  go_upto_region 4 with (fail)
  refine nameC ?_
  intro W2 HW2
  have hg2 : W1.grownBy W2 none := by rw [HW2.out]; exact grown_alloc _ _
  have hs2 := hg2.size
  have HF2 := Lib.hid (HF1.out.still hg2); clear HF1
  have HX := Lib.hid (show BoxN W2 W1.heap.size #[.int .i64 PL, .slice none 0 0] 26 by rw [HW2.out]; first | exact BoxN.new _ _ _ | exact ((BoxN.new _ _ _).set 0 _).set 1 _)
  have hzx : W1.heap.size + 1 ≤ W2.heap.size := by rw [HW2.out]; simp
  clear HW2 kbx1_0 kbx1_1
  have kbx1_0 : W2.cell? ⟨w.heap.size, 0, none⟩ = some (.int .i64 PL) := (HF2.out.boxN bx1 (by omega)).cell 0 (by simp)
  have kbx1_1 : W2.cell? ⟨w.heap.size, 1, none⟩ = some (.slice A1 P.length c1) := (HF2.out.boxN bx1 (by omega)).cell 1 (by simp)
  go_wp2_with fail
  clear kbx1_0 kbx1_1
  go_loopw [24] (fun av wr => ∃ (a top : Nat) (v : Value), a ≤ PL ∧ av = .int .i64 a ∧ Hid (BoxN wr W1.heap.size #[.int .i64 PL, v] 26) ∧ Hid (OwnSS wr (W1.heap.size + 1) top 29 v (powR PL (may P) k a)) ∧ top ≤ wr.heap.size ∧ Hid (Turned WA.heap.size WA.heap.size WA wr)) (fun av _ => PL - (intOf av).toNat)
  case atStart => exact ⟨0, (W1.heap.size + 1), .slice none 0 0, Nat.zero_le _, rfl, HX, Lib.hid (OwnSS.nil _ _ _ _ (Nat.le_refl _) hzx), hzx, HF2⟩
  case round =>
    clear HF2
    obtain ⟨a, top, v, ha, rfl, HX, HO, htp, HF3⟩ := hrel
    have hs3 := HF3.out.size
    obtain ⟨wo, rfl⟩ : ∃ wo : World, wo = wr := ⟨_, rfl⟩
    have HLT := Lib.hid HO.out.lt
    have hbt : (W1.heap.size + 1) ≤ top := by obtain ⟨_, _, _, _, _, h, _⟩ := HO.out; exact h
    by_cases hlt : a < PL
    case neg =>
      obtain rfl : a = PL := by omega
      have hai : ¬ (a : Int) < a := by omega
      obtain ⟨Av, cv, rfl, hcv, hdv⟩ := HO.out.len
      have ko0 : wo.cell? ⟨W1.heap.size, 0, none⟩ = some (.int .i64 a) := HX.out.cell 0 (by simp)
      have ko1 : wo.cell? ⟨W1.heap.size, 1, none⟩ = some (.slice Av (powR a (may P) k a).length cv) := HX.out.cell 1 (by simp)
      have HBR := Lib.hid (HF3.out.boxN bxx0 (by omega))
      have kr0 : wo.cell? ⟨w.heap.size + 1, 0, none⟩ = some (.int .i64 0) := HBR.out.cell 0 (by simp)
      have kr1 : wo.cell? ⟨w.heap.size + 1, 1, none⟩ = some (.slice none 0 0) := HBR.out.cell 1 (by simp)
      have kf0 := HBR.out.frozen 0
      have kf1 := HBR.out.frozen 1
      go_wp2_with fail
      ((try simp only [Exit.inBlock, Exit.then]); refine bodyPost_ret (results_ct rfl _ _ _ rfl (load_wp ((HBR.out.set 0 (.int .i64 a)).set 1 (.slice Av (powR a (may P) k a).length cv))) rfl) rfl ?_)
      have hg9 : wo.grownBy ((wo.setCell ⟨w.heap.size + 1, 0, none⟩ (.int .i64 a)).setCell ⟨w.heap.size + 1, 1, none⟩ (.slice Av (powR a (may P) k a).length cv)) (some (w.heap.size + 1)) := grownBy_setCell (p := ⟨w.heap.size + 1, 1, none⟩) (grownBy_setCell (p := ⟨w.heap.size + 1, 0, none⟩) (World.grownBy.refl _ _) rfl _) rfl _
      have HS := Lib.hid HO.out.ssx.ss
      refine ⟨_, rfl, ?_, ((HF3.out.below_of hbA (by omega) (by omega))).grown hg9 (by omega) fun g e => by cases e; omega⟩
      exact ISS.mono (ISS.far HS.out hg9 (Nat.le_refl _) fun g e => .inl (by cases e; omega)) (by omega) (by simp)
    have hai : (a : Int) < PL := by omega
    have kbx1_0 : wo.cell? ⟨w.heap.size, 0, none⟩ = some (.int .i64 PL) := (HF3.out.boxN bx1 (by omega)).cell 0 (by simp)
    have kbx1_1 : wo.cell? ⟨w.heap.size, 1, none⟩ = some (.slice A1 P.length c1) := (HF3.out.boxN bx1 (by omega)).cell 1 (by simp)
    go_wp2_with fail
    clear kbx1_0 kbx1_1
    refine (reached_any PL _ P _ _ a k _ (ISS.turned G1.out HF3.out (by omega) (by omega)) (by omega) HG.out hlt (by omega)).mono ?_
    rintro e W4 ⟨u, rfl, hu, hb4⟩
    have hg4 := grown_below hb4; clear hb4
    have hs4 := hg4.size
    have HF4 := Lib.hid (HF3.out.still hg4); clear HF3
    have X4 := Lib.hid (BoxN.still HX.out hg4); clear HX
    have O4 := Lib.hid (OwnSS.still HO.out hg4); clear HO
    have U4 := Lib.hid hu; clear hu
    obtain ⟨Au, cu, rfl, hcu, hdu⟩ := IntS.dims U4.out
    obtain ⟨bu, ou, rfl, _, hbu, xu, _⟩ := IntS.opened U4.out (j := k) (by rw [reachL_len]; omega)
    rw [nth_reachL _ (Nat.le_refl k)] at xu
    rw [reachL_len] at hcu U4
    rw [reachL_len]
    have hku : (k : Int) < ((k + 1 : Nat) : Int) := by omega
    obtain ⟨S, HS⟩ : ∃ s, Hid (setOf PL (wk PL (may P) k a) = s) := ⟨_, Lib.hid rfl⟩
    rw [HS.out] at xu
    go_wp2_with fail
    clear xu hku U4
    refine (labelsIn_any S _ PL (wk PL (may P) k a) HS.out.symm n12).mono ?_
    rintro e W5 ⟨l, rfl, hl, hb5⟩
    have hg5 := grown_below hb5; clear hb5
    have hs5 := hg5.size
    have HF5 := Lib.hid (HF4.out.still hg5); clear HF4
    have X5 := Lib.hid (BoxN.still X4.out hg5); clear X4
    have O5 := Lib.hid (OwnSS.still O4.out hg5); clear O4
    have L5 := Lib.hid hl; clear hl
    obtain ⟨Al, cl, rfl, hcl, hdl⟩ := IntS.dims L5.out
    obtain ⟨ll, HLL⟩ : ∃ x, Hid ((ascI PL (wk PL (may P) k a)).length = x) := ⟨_, Lib.hid rfl⟩
    rw [HLL.out] at hcl L5
    rw [HLL.out]
    have hll : ll ≤ 12 := by have := ascI_len PL (wk PL (may P) k a); rw [HLL.out] at this; omega
    have hplen : (powR PL (may P) k a).length ≤ 144 := by
      have h1 := powR_len PL (may P) k a
      have h2 : a * PL ≤ 12 * 12 := Nat.mul_le_mul (by omega) n12
      omega
    have hap0 : ∀ g, v.ownBlock = some g → g < W4.heap.size ∨ W5.heap.size ≤ g := fun g e => .inl (by have := (HLT.out g e).2; omega)
    have HAP0 := Lib.hid hap0; clear hap0
    have HPL := Lib.hid hplen; clear hplen
    have htp2 : top ≤ W5.heap.size := by omega
    go_wp2_with fail
    go_loopw [36] (fun jv wr => ∃ (j top : Nat) (v : Value), j ≤ ll ∧ jv = .int .i64 j ∧ Hid (BoxN wr W1.heap.size #[.int .i64 PL, v] 26) ∧ Hid (OwnSS wr (W1.heap.size + 1) top 29 v (powR PL (may P) k a ++ (powRow PL (may P) k a).take j)) ∧ top ≤ wr.heap.size ∧ Hid (IntS wr W4.heap.size W5.heap.size (.slice Al ll cl) (ascI PL (wk PL (may P) k a))) ∧ W5.heap.size ≤ wr.heap.size ∧ Hid (∀ g, v.ownBlock = some g → g < W4.heap.size ∨ W5.heap.size ≤ g) ∧ Hid (Turned WA.heap.size WA.heap.size WA wr)) (fun jv _ => ll - (intOf jv).toNat)
    case atStart => exact ⟨0, top, v, Nat.zero_le _, rfl, X5, Lib.hid (by rw [List.take_zero, List.append_nil]; exact O5.out), htp2, L5, Nat.le_refl _, HAP0, HF5⟩
    case round =>
      clear HF5
      obtain ⟨j, top, v, hj, rfl, HX, HO, htp, HL, hzl, HAP, HF6⟩ := hrel
      have hs6 := HF6.out.size
      obtain ⟨wi, rfl⟩ : ∃ wi : World, wi = wr := ⟨_, rfl⟩
      by_cases hjl : j < ll
      case neg =>
        obtain rfl : j = ll := by omega
        have hji : ¬ (j : Int) < j := by omega
        rw [List.take_of_length_le (by rw [powRow_len, HLL.out]; exact Nat.le_refl _), ← powR_succ] at HO
        go_wp2_with fail
        go_roundw
        case rel => exact ⟨a + 1, top, v, by omega, by go_num, HX, HO, htp, HF6⟩
        case measure => simp [intOf]; omega
      have hji : (j : Int) < ll := by omega
      obtain ⟨b, eb, hbn, _, _⟩ := ascI_at (n := PL) (f := wk PL (may P) k a) (k := j) (by rw [HLL.out]; exact hjl)
      obtain ⟨bl, ol, rfl, _, hbl, xl, _⟩ := HL.out.opened (j := j) (by rw [HLL.out]; exact hjl)
      rw [eb] at xl
      have HTK := Lib.hid (show powR PL (may P) k a ++ (powRow PL (may P) k a).take (j + 1) = (powR PL (may P) k a ++ (powRow PL (may P) k a).take j) ++ [[(a : Int), (b : Int)]] by rw [powRow_take (by rw [HLL.out]; exact hjl), eb, List.append_assoc])
      obtain ⟨Q, HQ⟩ : ∃ q, Hid (powR PL (may P) k a ++ (powRow PL (may P) k a).take j = q) := ⟨_, Lib.hid rfl⟩
      have hql : Q.length ≤ 200 := by
        rw [← HQ.out, List.length_append, List.length_take]
        have := HPL.out; omega
      rw [HQ.out] at HO HTK
      have HQL := Lib.hid hql
      have hlv := HO.out.lt
      have HLV := Lib.hid hlv
      obtain ⟨Av, cv, ev, hcv, hdv⟩ := HO.out.len
      subst ev
      have ko1 : wi.cell? ⟨W1.heap.size, 1, none⟩ = some (.slice Av Q.length cv) := HX.out.cell 1 (by simp)
      have kf1 := HX.out.frozen 1
      have HN := Lib.hid (IntS.newN wi [(a : Int), (b : Int)] 3 rfl (by simp))
      have HGA := Lib.hid (grown_alloc wi (.cells #[.int .i64 a, .int .i64 b] 3))
      have HXA := Lib.hid (HX.out.still HGA.out)
      have kg1 : (wi.alloc (.cells #[.int .i64 a, .int .i64 b] 3)).cell? ⟨W1.heap.size, 1, none⟩ = some (.slice Av Q.length cv) := HXA.out.cell 1 (by simp)
      go_wp2_with (at_builtin; refine append_ss (s := .tmp 41) Try.underlying24 infoRowM (by decide) (wi.alloc (.cells #[.int .i64 a, .int .i64 b] 3)) rfl _ rfl (HO.out.alloc _) (lo := wi.heap.size) (hi := wi.heap.size + 1) HN.out htp (by simp) (by omega) (fun g hg => .inl (hlv g hg).2) _ rfl (by simp [Act.eval, go_sem]) (by have := HQL.out; omega) ?_; intro v2 w7 ho7 hg7 hat7; obtain ⟨A7, c7, hq7, _⟩ := ho7.len; simp only [List.length_append, List.length_cons, List.length_nil, Nat.zero_add] at hq7; subst hq7; have HO7 := Lib.hid ho7; have HG7 := Lib.hid hg7; have HAT7 := Lib.hid hat7; have HX7 := Lib.hid (BoxN.far HXA.out hg7 (fun g e => by have := HLV.out g e; omega)); have kq7 : w7.cell? ⟨W1.heap.size, 1, none⟩ = some (.slice Av Q.length cv) := HX7.out.cell 1 (by simp); have kfq7 := HX7.out.frozen 1; clear ho7 hg7 hat7)
      have hgs7 := HG7.out.size
      have hga := HGA.out.size
      simp only [World.size_alloc] at hgs7
      have HGS := Lib.hid (grown_set w7 ⟨W1.heap.size, 1, none⟩ (.slice A7 (Q.length + 1) c7))
      go_roundw
      case rel =>
        refine ⟨j + 1, wi.heap.size + 1, .slice A7 (Q.length + 1) c7, by omega, by go_num, Lib.hid (HX7.out.set 1 _), Lib.hid ?_, by rw [size_setCell]; omega, Lib.hid ?_, by rw [size_setCell]; omega, Lib.hid fun g e => ?_, Lib.hid ?_⟩
        · rw [HTK.out]
          exact OwnSS.farM HO7.out HGS.out fun g e => by cases e; exact Nat.lt_succ_self _
        · exact IntS.far (IntS.far (IntS.still HL.out HGA.out (by omega)) HG7.out (by omega) HAP.out) HGS.out (by omega) fun g e => .inl (by cases e; show W1.heap.size < _; omega)
        · rcases HAT7.out with h | h
          · exact HAP.out g (h ▸ e)
          · rw [h] at e
            injection e with e
            right; omega
        · exact ((HF6.out.still HGA.out).grown HG7.out fun g e => .inr (by have := HLV.out g e; omega)).grown HGS.out fun g e => .inr (by cases e; show WA.heap.size ≤ W1.heap.size; omega)
      case measure => simp [intOf]; omega

end Go.Proofs.Ytbfjhehhpgcelaa

/- Contracts: the cursor that draws numbers from bytes: it ends, it answers in its range, it turns its own block alone. No condition on any program. -/
namespace Go.Proofs.Ytbfjhehhpgcelaa
open Go.ChangeShapes Go.WideShapes Go.ChangeAt Go.RowKit
set_option linter.unusedVariables false

/-- v reads as bytes -/
def ByS (w : World) (lo hi : Nat) (v : Value) (bs : List Int) : Prop := Sl w lo hi 1 v bs.length fun j => .int .u8 (nth bs j)
section
variable {w w' : World} {lo hi lo' hi' B : Nat} {v : Value} {bs : List Int} {row : Option Nat}
theorem ByS.dims (h : ByS w lo hi v bs) : ∃ A c, v = .slice A bs.length c ∧ bs.length ≤ c ∧ c ≤ 9223372036854775807 := by
  obtain ⟨A, c, e, h1, h2, _⟩ := h; unfold maxLen at h2; exact ⟨A, c, e, h1, h2⟩
theorem ByS.below (h : ByS w lo hi v bs) (hb : Below B w w') (hB : hi ≤ B) : ByS w' lo hi v bs := Sl.below h hb hB
theorem ByS.turned {l2 h2 : Nat} (h : ByS w lo hi v bs) (hb : Turned l2 h2 w w') (hB : hi ≤ w.heap.size) (hd : hi ≤ l2 ∨ h2 ≤ lo) : ByS w' lo hi v bs := Sl.turned h hb hB hd
theorem ByS.far (h : ByS w lo hi v bs) (hg : w.grownBy w' row) (hB : hi ≤ w.heap.size) (hr : ∀ g, row = some g → g < lo ∨ hi ≤ g) : ByS w' lo hi v bs :=
  Sl.keep h fun k h1 h2 => hg.block k (by omega) (fun e => by have := hr k e.symm; omega)
theorem ByS.still (h : ByS w lo hi v bs) (hg : w.grownBy w' none) (hB : hi ≤ w.heap.size) : ByS w' lo hi v bs := h.far hg hB (no_row _ _)
theorem ByS.opened {A : Option Addr} {n c : Nat} (h : ByS w lo hi (.slice A n c) bs) {j : Nat} (hj : j < bs.length) : ∃ b off, A = some ⟨b, off, none⟩ ∧ lo ≤ b ∧ b < hi ∧ w.cell? ⟨b, off + j, none⟩ = some (.int .u8 (nth bs j)) := by
  obtain ⟨A', c', e, h1, h2, h3⟩ := id h
  injection e with e1 e2 e3
  subst e1
  obtain ⟨b, off, e4, h4, h5, h6⟩ := h3 (by omega)
  exact ⟨b, off, e4, h4, h5, (h6 j (by omega)).1⟩
end
/-- all are bytes -/
def Bytes (bs : List Int) : Prop := ∀ x ∈ bs, 0 ≤ x ∧ x < 256
/-- a cursor over v in block g, with at most k draws behind it -/
def Cur (w : World) (g : Nat) (v : Value) (k : Nat) : Prop := ∃ (a : Nat) (s : Int), a ≤ k ∧ 0 ≤ s ∧ s < 18446744073709551616 ∧ BoxN w g #[v, .int .i64 a, .int .u64 s] 54
section
variable {w w' : World} {g k k' : Nat} {v : Value} {row : Option Nat}
theorem Cur.far (h : Cur w g v k) (hg : w.grownBy w' row) (hr : ∀ b, row = some b → b ≠ g) : Cur w' g v k := let ⟨a, s, h1, h2, h3, h4⟩ := h; ⟨a, s, h1, h2, h3, h4.far hg hr⟩
theorem Cur.still (h : Cur w g v k) (hg : w.grownBy w' none) : Cur w' g v k := h.far hg (fun _ e => by cases e)
theorem Cur.mono (h : Cur w g v k) (hk : k ≤ k') : Cur w g v k' := let ⟨a, s, h1, h2⟩ := h; ⟨a, s, by omega, h2⟩
theorem Cur.lt (h : Cur w g v k) : g < w.heap.size := let ⟨_, _, _, _, _, h⟩ := h; h.lt
end
theorem wrap64 (x : Int) : 0 ≤ IntKind.u64.wrap x ∧ IntKind.u64.wrap x < 18446744073709551616 := by rw [IntKind.wrap_u64]; omega
theorem and255 (x : Int) (h0 : 0 ≤ x) (h1 : x < 18446744073709551616) : bits .and .u64 x 255 = x % 256 := by
  have := u64_and x 255 h0 h1 (by decide) (by decide)
  rw [this]
  obtain ⟨a, rfl⟩ := Int.eq_ofNat_of_zero_le h0
  have e : a &&& 255 = a % 256 := Nat.and_two_pow_sub_one_eq_mod a 8
  simp only [Int.toNat_natCast]
  rw [show (255 : Int).toNat = 255 from rfl, e]
  omega

set_option maxHeartbeats 4000000 in
set_option maxRecDepth 100000 in
theorem next_any (g k lo hi : Nat) (v : Value) (bs : List Int) (w : World) (hC : Cur w g v k) (hk : k < 1099511627776) (hB : ByS w lo hi v bs) (hb : Bytes bs) (hl : bs.length ≤ 1099511627776) (hg : g < lo ∨ hi ≤ g) :
    Calls Try.prog 44 #[.pointer (some ⟨g, 0, none⟩)] w fun e w' => ∃ x : Nat, e = .returned (.int .i64 x) ∧ x < 256 ∧ Cur w' g v (k + 1) ∧ w.grownBy w' (some g) := by
  obtain ⟨a, s, ha, hs0, hs1, hX⟩ := hC
  have HX := Lib.hid hX; clear hX
  obtain ⟨A, c, rfl, hc, hd⟩ := hB.dims
  have HB := Lib.hid hB; clear hB
  have HBY := Lib.hid hb; clear hb
  obtain ⟨n, HN⟩ : ∃ n, Hid (bs.length = n) := ⟨_, Lib.hid rfl⟩
  rw [HN.out] at HX hc hl ⊢
  have k0 : w.cell? ⟨g, 0, none⟩ = some (.slice A n c) := HX.out.cell 0 (by simp)
  have k1 : w.cell? ⟨g, 1, none⟩ = some (.int .i64 a) := HX.out.cell 1 (by simp)
  have k2 : w.cell? ⟨g, 2, none⟩ = some (.int .u64 s) := HX.out.cell 2 (by simp)
  have f1 : w.frozen? ⟨g, 1, none⟩ = false := HX.out.frozen 1
  have f2 : w.frozen? ⟨g, 2, none⟩ = false := HX.out.frozen 2
  have haw : IntKind.i64.wrap ((a : Int) + 1) = ((a + 1 : Nat) : Int) := by rw [IntWalk.i64_in _ (by omega)]; omega
  by_cases hlt : a < n
  · have hlti : (a : Int) < n := by omega
    have hltd : decide ((a : Int) < (n : Int)) = true := decide_eq_true hlti
    have hle : ((a + 1 : Nat) : Int) ≤ n := by omega
    have hled : decide (((a + 1 : Nat) : Int) ≤ (n : Int)) = true := decide_eq_true hle
    obtain ⟨b, off, rfl, hb1, hb2, hcell⟩ := HB.out.opened (j := a) (by rw [HN.out]; exact hlt)
    obtain ⟨y, HY⟩ : ∃ y, Hid (nth bs a = y) := ⟨_, Lib.hid rfl⟩
    have hy := HBY.out (nth bs a) (nth_mem (by rw [HN.out]; exact hlt))
    rw [HY.out] at hcell hy
    obtain ⟨z, rfl⟩ := Int.eq_ofNat_of_zero_le hy.1
    have hz : z < 256 := by omega
    have hcw : IntKind.i64.wrap (z : Int) = (z : Int) := IntWalk.i64_in _ (by omega)
    have hcw2 : IntKind.u64.wrap (z : Int) = (z : Int) := IntWalk.u64_in _ (by omega)
    obtain ⟨a1, HA1⟩ : ∃ q : Nat, Hid (a + 1 = q) := ⟨_, Lib.hid rfl⟩
    rw [HA1.out] at haw hle hled
    go_enter Try.func44, Try.ntmps44
    go_wp2_with fail
    go_quiet (fail)
    obtain ⟨nqa, rfl⟩ : ∃ x, x = nq := ⟨_, rfl⟩
    go_wp2_with fail
    go_quiet (fail)
    obtain ⟨W1, HW1⟩ : ∃ W, Hid (W = (w.drewN nqa).drewN nq) := ⟨_, Lib.hid rfl⟩
    rw [← HW1.out]
    have HX1 := Lib.hid (show BoxN W1 g #[.slice (some ⟨b, off, none⟩) n c, .int .i64 a, .int .u64 s] 54 by rw [HW1.out]; exact HX.out)
    have hg1 : w.grownBy W1 (some g) := by rw [HW1.out]; exact ⟨rfl, rfl, rfl, Nat.le_refl _, fun _ _ _ => rfl⟩
    clear HW1 k0 k1 k2 f1 f2
    have k0 : W1.cell? ⟨g, 0, none⟩ = some (.slice (some ⟨b, off, none⟩) n c) := HX1.out.cell 0 (by simp)
    have k1 : W1.cell? ⟨g, 1, none⟩ = some (.int .i64 a) := HX1.out.cell 1 (by simp)
    have k2 : W1.cell? ⟨g, 2, none⟩ = some (.int .u64 s) := HX1.out.cell 2 (by simp)
    have f1 : W1.frozen? ⟨g, 1, none⟩ = false := HX1.out.frozen 1
    have f2 : W1.frozen? ⟨g, 2, none⟩ = false := HX1.out.frozen 2
    go_upto_region 6 with (fail)
    clear k0 k1 k2 f1 f2
    refine nameC ?_
    intro W2 HW2
    have hX2 : ∃ s2 : Int, 0 ≤ s2 ∧ s2 < 18446744073709551616 ∧ BoxN W2 g #[.slice (some ⟨b, off, none⟩) n c, .int .i64 a1, .int .u64 s2] 54 := by
      rw [HW2.out]
      exact ⟨_, (wrap64 _).1, (wrap64 _).2, (HX1.out.set 1 _).set 2 _⟩
    obtain ⟨s2, hs2, hs2', hX2⟩ := hX2
    have hg2 : W1.grownBy W2 (some g) := by rw [HW2.out]; exact grownBy_trans (grown_set _ ⟨g, 1, none⟩ _) (grown_set _ ⟨g, 2, none⟩ _)
    have HX2 := Lib.hid hX2
    clear HW2 hX2
    have k0 : W2.cell? ⟨g, 0, none⟩ = some (.slice (some ⟨b, off, none⟩) n c) := HX2.out.cell 0 (by simp)
    have k1 : W2.cell? ⟨g, 1, none⟩ = some (.int .i64 a1) := HX2.out.cell 1 (by simp)
    go_quiet (fail)
    go_wp2_with fail
    go_ret
    exact ⟨z, rfl, hz, ⟨a1, s2, by have := HA1.out; omega, hs2, hs2', HX2.out⟩, grownBy_trans hg1 (grownBy_trans hg2 ⟨rfl, rfl, rfl, Nat.le_refl _, fun _ _ _ => rfl⟩)⟩
  · have hlti : ¬ (a : Int) < n := by omega
    have hltd : decide ((a : Int) < (n : Int)) = false := decide_eq_false hlti
    have hle : ¬ ((a + 1 : Nat) : Int) ≤ n := by omega
    have hled : decide (((a + 1 : Nat) : Int) ≤ (n : Int)) = false := decide_eq_false hle
    obtain ⟨a1, HA1⟩ : ∃ q : Nat, Hid (a + 1 = q) := ⟨_, Lib.hid rfl⟩
    rw [HA1.out] at haw hle hled
    go_enter Try.func44, Try.ntmps44
    go_wp2_with fail
    go_quiet (fail)
    obtain ⟨W1, HW1⟩ : ∃ W, Hid (W = w.drewN nq) := ⟨_, Lib.hid rfl⟩
    rw [← HW1.out]
    have HX1 := Lib.hid (show BoxN W1 g #[.slice A n c, .int .i64 a, .int .u64 s] 54 by rw [HW1.out]; exact HX.out)
    have hg1 : w.grownBy W1 (some g) := by rw [HW1.out]; exact ⟨rfl, rfl, rfl, Nat.le_refl _, fun _ _ _ => rfl⟩
    clear HW1 k0 k1 k2 f1 f2
    have k0 : W1.cell? ⟨g, 0, none⟩ = some (.slice A n c) := HX1.out.cell 0 (by simp)
    have k1 : W1.cell? ⟨g, 1, none⟩ = some (.int .i64 a) := HX1.out.cell 1 (by simp)
    have k2 : W1.cell? ⟨g, 2, none⟩ = some (.int .u64 s) := HX1.out.cell 2 (by simp)
    have f1 : W1.frozen? ⟨g, 1, none⟩ = false := HX1.out.frozen 1
    have f2 : W1.frozen? ⟨g, 2, none⟩ = false := HX1.out.frozen 2
    go_upto_region 6 with (fail)
    clear k0 k1 k2 f1 f2
    refine nameC ?_
    intro W2 HW2
    have hX2 : ∃ s2 : Int, 0 ≤ s2 ∧ s2 < 18446744073709551616 ∧ BoxN W2 g #[.slice A n c, .int .i64 a1, .int .u64 s2] 54 := by
      rw [HW2.out]
      exact ⟨_, (wrap64 _).1, (wrap64 _).2, (HX1.out.set 1 _).set 2 _⟩
    obtain ⟨s2, hs2, hs2', hX2⟩ := hX2
    have hg2 : W1.grownBy W2 (some g) := by rw [HW2.out]; exact grownBy_trans (grown_set _ ⟨g, 1, none⟩ _) (grown_set _ ⟨g, 2, none⟩ _)
    have HX2 := Lib.hid hX2
    clear HW2 hX2
    have k0 : W2.cell? ⟨g, 0, none⟩ = some (.slice A n c) := HX2.out.cell 0 (by simp)
    have k1 : W2.cell? ⟨g, 1, none⟩ = some (.int .i64 a1) := HX2.out.cell 1 (by simp)
    have k2 : W2.cell? ⟨g, 2, none⟩ = some (.int .u64 s2) := HX2.out.cell 2 (by simp)
    go_quiet (fail)
    obtain ⟨z, hz, hzz⟩ : ∃ z : Nat, z < 256 ∧ bits .and .u64 (s2 / 1099511627776) 255 = (z : Int) := by
      refine ⟨((s2 / 1099511627776) % 256).toNat, by omega, ?_⟩
      rw [and255 _ (by omega) (by omega)]; omega
    have hcw : IntKind.i64.wrap (z : Int) = (z : Int) := IntWalk.i64_in _ (by omega)
    go_wp2_with fail
    go_ret
    exact ⟨z, rfl, hz, ⟨a1, s2, by have := HA1.out; omega, hs2, hs2', HX2.out⟩, grownBy_trans hg1 (grownBy_trans hg2 ⟨rfl, rfl, rfl, Nat.le_refl _, fun _ _ _ => rfl⟩)⟩


end Go.Proofs.Ytbfjhehhpgcelaa

/- Contracts: a cursor's pick, one, among. No condition on any program. -/
namespace Go.Proofs.Ytbfjhehhpgcelaa
open Go.ChangeShapes Go.WideShapes Go.ChangeAt Go.RowKit
set_option linter.unusedVariables false

theorem tmodN (a b : Nat) : Int.tmod (a : Int) (b : Int) = ((a % b : Nat) : Int) := (Int.ofNat_tmod a b).symm
set_option maxHeartbeats 400000 in
set_option maxRecDepth 100000 in
theorem pick_any (m : Int) (g k lo hi : Nat) (v : Value) (bs : List Int) (w : World) (hC : Cur w g v k) (hk : k < 1000000000000) (hB : ByS w lo hi v bs) (hb : Bytes bs) (hl : bs.length ≤ 1099511627776) (hg : g < lo ∨ hi ≤ g) (hh : hi ≤ w.heap.size) :
    Calls Try.prog 33 #[.pointer (some ⟨g, 0, none⟩), .int .i64 m] w fun e w' => ∃ x : Nat, e = .returned (.int .i64 x) ∧ (m ≤ 1 → x = 0) ∧ (1 < m → (x : Int) < m) ∧ Cur w' g v (k + 2) ∧ w.grownBy w' (some g) := by
  by_cases h1 : m ≤ 1
  · go_enter Try.func33, Try.ntmps33
    go_wp2_with fail
    go_ret
    exact ⟨0, rfl, fun _ => rfl, fun h => by omega, hC.mono (by omega), World.grownBy.refl _ _⟩
  obtain ⟨M, rfl⟩ : ∃ M : Nat, m = M := ⟨m.toNat, by omega⟩
  have hM : 1 < M := by omega
  have hM0 : ¬ (M : Int) = 0 := by omega
  have hMe : ((M : Int) == 0) = false := by simp; omega
  have HC := Lib.hid hC; clear hC
  have HB := Lib.hid hB; clear hB
  have HBY := Lib.hid hb; clear hb
  go_enter Try.func33, Try.ntmps33
  go_wp2_with fail
  refine (next_any g k lo hi v bs w HC.out (by omega) HB.out HBY.out hl hg).mono ?_
  rintro e w1 ⟨x, rfl, hx, hC1, hg1⟩
  have HC1 := Lib.hid hC1; clear hC1
  have HB1 := Lib.hid (HB.out.far hg1 hh (fun b e => by cases e; exact hg))
  have hs1 := hg1.size
  by_cases h2 : M ≤ 200
  · have h2' : ¬ (200 : Int) < M := by omega
    have htm := tmodN x M
    have hlt : x % M < M := Nat.mod_lt _ (by omega)
    go_wp2_with fail
    go_ret
    exact ⟨x % M, ret_int (by first | rfl | omega | simp [htm]), fun h => by omega, fun _ => by omega, HC1.out.mono (by omega), hg1⟩
  · have h2' : (200 : Int) < M := by omega
    have hw1 : IntKind.i64.wrap ((x : Int) * 256) = ((x * 256 : Nat) : Int) := by rw [IntWalk.i64_in _ (by omega)]; omega
    obtain ⟨x2, HX2⟩ : ∃ q : Nat, Hid (x * 256 = q) := ⟨_, Lib.hid rfl⟩
    rw [HX2.out] at hw1
    have hx2 : x2 < 65536 := by have := HX2.out; omega
    go_wp2_with fail
    refine (next_any g (k + 1) lo hi v bs w1 HC1.out (by omega) HB1.out HBY.out hl hg).mono ?_
    rintro e w2 ⟨y, rfl, hy, hC2, hg2⟩
    have HC2 := Lib.hid hC2; clear hC2
    have hw2 : IntKind.i64.wrap ((x2 : Int) + (y : Int)) = ((x2 + y : Nat) : Int) := by rw [IntWalk.i64_in _ (by omega)]; omega
    obtain ⟨z, HZ⟩ : ∃ q : Nat, Hid (x2 + y = q) := ⟨_, Lib.hid rfl⟩
    rw [HZ.out] at hw2
    have htm := tmodN z M
    have hlt : z % M < M := Nat.mod_lt _ (by omega)
    go_wp2_with fail
    go_ret
    exact ⟨z % M, ret_int (by first | rfl | omega | simp [htm]), fun h => by omega, fun _ => by omega, HC2.out, grownBy_trans hg1 hg2⟩
set_option maxHeartbeats 400000 in
set_option maxRecDepth 100000 in
theorem one_any (m : Int) (g k lo hi : Nat) (v : Value) (bs : List Int) (w : World) (hC : Cur w g v k) (hk : k < 1000000000000) (hB : ByS w lo hi v bs) (hb : Bytes bs) (hl : bs.length ≤ 1099511627776) (hg : g < lo ∨ hi ≤ g) (hh : hi ≤ w.heap.size) :
    Calls Try.prog 50 #[.pointer (some ⟨g, 0, none⟩), .int .i64 m] w fun e w' => ∃ b : Bool, e = .returned (.bool b) ∧ Cur w' g v (k + 2) ∧ w.grownBy w' (some g) := by
  go_enter Try.func50, Try.ntmps50
  go_wp2_with fail
  refine (pick_any m g k lo hi v bs w hC hk hB hb hl hg hh).mono ?_
  rintro e w1 ⟨x, rfl, _, _, hC1, hg1⟩
  go_wp2_with fail
  go_ret
  exact ⟨_, rfl, hC1, hg1⟩
set_option maxHeartbeats 400000 in
set_option maxRecDepth 100000 in
theorem among_any (g k lo hi : Nat) (v : Value) (bs : List Int) (vl : Value) (zs : List Int) (lo2 hi2 : Nat) (w : World) (hC : Cur w g v k) (hk : k < 1000000000000) (hB : ByS w lo hi v bs) (hb : Bytes bs) (hl : bs.length ≤ 1099511627776) (hg : g < lo ∨ hi ≤ g) (hh : hi ≤ w.heap.size)
    (hz : IntS w lo2 hi2 vl zs) (hzl : 0 < zs.length) (hg2 : g < lo2 ∨ hi2 ≤ g) (hh2 : hi2 ≤ w.heap.size) :
    Calls Try.prog 34 #[.pointer (some ⟨g, 0, none⟩), vl] w fun e w' => ∃ j : Nat, j < zs.length ∧ e = .returned (.int .i64 (nth zs j)) ∧ Cur w' g v (k + 2) ∧ w.grownBy w' (some g) := by
  obtain ⟨A, c, rfl, hc, hd⟩ := hz.dims
  obtain ⟨n, HN⟩ : ∃ n, Hid (zs.length = n) := ⟨_, Lib.hid rfl⟩
  have HZ := Lib.hid hz; clear hz
  rw [HN.out] at hzl hc ⊢
  go_enter Try.func34, Try.ntmps34
  go_wp2_with fail
  refine (pick_any n g k lo hi v bs w hC hk hB hb hl hg hh).mono ?_
  rintro e w1 ⟨x, rfl, hx1, hx2, hC1, hg1⟩
  have hxn : x < n := by
    by_cases h : (n : Int) ≤ 1
    · rw [hx1 h]; exact hzl
    · have := hx2 (by omega); omega
  have hxi : (x : Int) < n := by omega
  have HZ1 := Lib.hid (HZ.out.far hg1 hh2 (fun b e => by cases e; exact hg2))
  obtain ⟨b, off, rfl, _, _, kc, _⟩ := IntS.opened HZ1.out (j := x) (by rw [HN.out]; exact hxn)
  clear hx1 hx2
  go_wp2_with fail
  go_ret
  exact ⟨x, hxn, rfl, hC1, hg1⟩

end Go.Proofs.Ytbfjhehhpgcelaa

/- Contract: a list put into a strictly increasing list of lists (reference's prInsert): what its result is like. -/
namespace Go.Proofs.Ytbfjhehhpgcelaa
open Go.ChangeShapes Go.WideShapes Go.ChangeAt Go.RowKit
set_option linter.unusedVariables false

/-- v is a slice of slices of the call's own that reads as xss; its rows lie from block base on, apart from its own block -/
def OwnR (w : World) (base : Nat) (e : TypeId) (v : Value) (xss : List (List Int)) : Prop :=
  ∃ vs : List Value, vs.length = xss.length ∧ Own w base e v vs ∧
    ∀ j, j < xss.length → ∃ u lo hi, vs[j]? = some u ∧ base ≤ lo ∧ hi ≤ w.heap.size ∧ IntS w lo hi u (nthL xss j) ∧ ∀ g, v.ownBlock = some g → g < lo ∨ hi ≤ g
section
variable {w w' : World} {base : Nat} {e : TypeId} {v : Value} {xss : List (List Int)} {row : Option Nat}
theorem OwnR.nil (w : World) (base : Nat) (e : TypeId) : OwnR w base e (.slice none 0 0) [] := ⟨[], rfl, Own.nil _ _ _, fun j hj => absurd hj (by simp)⟩
theorem OwnR.empty (w : World) (base : Nat) (e : TypeId) {g : Nat} (hg : w.heap.size = g) (hb : base ≤ g) : OwnR (w.alloc (.cells #[] e)) base e (.slice (some ⟨g, 0, none⟩) 0 0) [] := by
  subst hg
  refine ⟨[], rfl, ⟨by simp, .inr ⟨w.heap.size, 0, #[], by simp, hb, heap_alloc_new w _, by simp, by simp, by simp, by simp⟩⟩, fun j hj => absurd hj (by simp)⟩
theorem OwnR.far (h : OwnR w base e v xss) (hg : w.grownBy w' row) (hr : ∀ g, row = some g → g < base) : OwnR w' base e v xss := by
  obtain ⟨vs, h1, h2, h5⟩ := h
  refine ⟨vs, h1, h2.kept hg ?_, fun j hj => ?_⟩
  · cases hv : v.ownBlock with
    | none => exact .inl rfl
    | some k => right; intro e; have := (h2.lt k hv).1; have := hr k e.symm; omega
  · obtain ⟨u, lo, hi, a1, a2, a3, a4, a5⟩ := h5 j hj
    exact ⟨u, lo, hi, a1, a2, Nat.le_trans a3 hg.size, a4.far hg a3 (fun g e => .inl (by have := hr g e; omega)), a5⟩
theorem OwnR.still (h : OwnR w base e v xss) (hg : w.grownBy w' none) : OwnR w' base e v xss := h.far hg (fun g e => by cases e)
theorem OwnR.lower {b' : Nat} (h : OwnR w base e v xss) (hb : b' ≤ base) : OwnR w b' e v xss := by
  obtain ⟨vs, h1, ⟨h2, h3⟩, h5⟩ := h
  refine ⟨vs, h1, ⟨h2, ?_⟩, fun j hj => ?_⟩
  · rcases h3 with h3 | ⟨g, cap, cur, e1, hg, r⟩
    · exact .inl h3
    · exact .inr ⟨g, cap, cur, e1, by omega, r⟩
  · obtain ⟨u, lo, hi, a1, a2, r⟩ := h5 j hj
    exact ⟨u, lo, hi, a1, by omega, r⟩
theorem OwnR.len (h : OwnR w base e v xss) : ∃ A c, v = .slice A xss.length c ∧ xss.length ≤ c ∧ c ≤ maxLen := by
  obtain ⟨vs, h1, h2, _⟩ := h
  obtain ⟨A, c, e, a1, a2, _⟩ := h2.form
  exact ⟨A, c, by rw [e, h1], by omega, a2⟩
theorem OwnR.lt (h : OwnR w base e v xss) : ∀ k, v.ownBlock = some k → base ≤ k ∧ k < w.heap.size := by
  obtain ⟨vs, h1, h2, _⟩ := h
  exact h2.lt
theorem OwnR.ss (h : OwnR w base e v xss) : IntSS w base w.heap.size v xss := by
  obtain ⟨vs, h1, h2, h5⟩ := h
  have hsl : Sl w base w.heap.size 1 v xss.length (fun j => vs.getD j undef) := by
    have := Sl.of_own (f := fun j => vs.getD j undef) h2 (fun j hj => by simp at hj; simp [hj])
    rwa [h1] at this
  refine ⟨fun j => vs.getD j undef, hsl, fun i hi' => ?_⟩
  obtain ⟨u, lo, hi, a1, a2, a3, a4, a5⟩ := h5 i hi'
  have : vs.getD i undef = u := by simp [a1]
  dsimp only
  rw [this]
  exact a4.mono a2 a3
theorem OwnR.one {lo hi : Nat} {u : Value} {xs : List Int} (hu : IntS w lo hi u xs) (e : TypeId) (hb : base ≤ lo) (hlh : lo ≤ hi) (hh : hi ≤ w.heap.size) {g : Nat} (hg : w.heap.size = g) : OwnR (w.alloc (.cells #[u] e)) base e (.slice (some ⟨g, 0, none⟩) 1 1) [xs] := by
  refine ⟨[u], rfl, Own.one w base e u hg (by omega), fun j hj => ?_⟩
  obtain rfl : j = 0 := by simpa using hj
  refine ⟨u, lo, hi, rfl, hb, by simp; omega, hu.still (grown_alloc _ _) hh, fun k hk => ?_⟩
  have hk' : g = k := by simpa [Value.ownBlock] using hk
  exact .inr (show hi ≤ k by omega)
end
/-- append of one row -/
theorem append_r {P : Program} {ops : Array Oper} {rest : List Oper} {o : Oper} {a : Act} {Q : Exit → Act → World → Prop} {t e : TypeId} {bytes : Nat}
    (ht : P.underlying t = some (.slice e)) (hinfo : (P.info? e).map (fun i => (i.zero, i.size, i.bytes)) = some (some (.slice none 0 0), 1, bytes)) (hby : bytes ≤ 64)
    (w : World) (hgd : o.guard = none) {s : Operand} (x : Operand) (ho : o.op = .call { callee := .builtin .append, args := #[s, x], argTypes := #[t, t] })
    {base : Nat} {v : Value} {xss : List (List Int)} (hown : OwnR w base e v xss) {u : Value} {xs : List Int} {lo hi : Nat} (hu : IntS w lo hi u xs) (hlo : base ≤ lo) (hhi : hi ≤ w.heap.size) (hbw : base ≤ w.heap.size) (hfar : ∀ g, v.ownBlock = some g → g < lo ∨ hi ≤ g)
    (te : TypeId) (hs : a.eval s = v) (hx : a.eval x = .slice (some ⟨w.heap.size, 0, none⟩) 1 1) (hlen : xss.length < 1000000)
    (h : ∀ v' w', OwnR w' base e v' (xss ++ [xs]) → w.grownBy w' v.ownBlock → (v'.ownBlock = v.ownBlock ∨ v'.ownBlock = some (w.heap.size + 1)) → wpList P ops Q rest (a.put o.dst v') w') :
    wpList P ops Q (o :: rest) a (w.alloc (.cells #[u] te)) := by
  obtain ⟨vs, h1, h2, h5⟩ := hown
  obtain ⟨A, c, rfl⟩ := (show ∃ A c, u = .slice A xs.length c from let ⟨A, c, e, _⟩ := hu; ⟨A, c, e⟩)
  refine append1 ht hinfo rfl hby w hgd x ho h2 _ te hs hx rfl (by omega) hbw fun v' w' ho' hg' hat' => h v' w' ?_ hg' hat'
  have hgs := hg'.size
  refine ⟨vs ++ [.slice A xs.length c], by simp [h1], ho', fun j hj => ?_⟩
  by_cases e1 : j < xss.length
  · obtain ⟨u, lo, hi, a1, a2, a3, a4, a5⟩ := h5 j e1
    rw [nthL_append_left e1]
    refine ⟨u, lo, hi, by rw [List.getElem?_append_left (by omega)]; exact a1, a2, by omega, a4.far hg' a3 a5, fun g hg => ?_⟩
    rcases hat' with e1 | e1
    · exact a5 g (by rw [← e1]; exact hg)
    · rw [e1] at hg; injection hg with hg; omega
  · obtain rfl : j = xss.length := by simp at hj; omega
    rw [nthL_append_at]
    refine ⟨.slice A xs.length c, lo, hi, by rw [← h1]; simp, hlo, by omega, hu.far hg' hhi hfar, fun g hg => ?_⟩
    rcases hat' with e2 | e2
    · exact hfar g (by rw [← e2]; exact hg)
    · rw [e2] at hg; injection hg with hg; omega
/-- append of several rows that are known by value -/
theorem append_rs {P : Program} {ops : Array Oper} {rest : List Oper} {o : Oper} {a : Act} {Q : Exit → Act → World → Prop} {t e : TypeId} {bytes : Nat}
    (ht : P.underlying t = some (.slice e)) (hinfo : (P.info? e).map (fun i => (i.zero, i.size, i.bytes)) = some (some (.slice none 0 0), 1, bytes)) (hby : bytes ≤ 64)
    (w : World) (hgd : o.guard = none) {s : Operand} (x : Operand) (ho : o.op = .call { callee := .builtin .append, args := #[s, x], argTypes := #[t, t] })
    {base : Nat} {v : Value} {xss : List (List Int)} (hown : OwnR w base e v xss) (hs : a.eval s = v) {g off m c : Nat} (us : List Value) (ys : List (List Int)) (hm : us.length = m) (hml : ys.length = m) (hx : a.eval x = .slice (some ⟨g, off, none⟩) m c)
    (hcell : ∀ j u, us[j]? = some u → w.cell? ⟨g, off + j, none⟩ = some u)
    (hrow : ∀ j, j < m → ∃ u lo hi, us[j]? = some u ∧ base ≤ lo ∧ hi ≤ w.heap.size ∧ IntS w lo hi u (nthL ys j) ∧ ∀ g, v.ownBlock = some g → g < lo ∨ hi ≤ g)
    (hlen : xss.length + m ≤ 1000000) (hbase : base ≤ w.heap.size)
    (h : ∀ v' w', OwnR w' base e v' (xss ++ ys) → w.grownBy w' v.ownBlock → (v'.ownBlock = v.ownBlock ∨ v'.ownBlock = some w.heap.size) → wpList P ops Q rest (a.put o.dst v') w') :
    wpList P ops Q (o :: rest) a w := by
  obtain ⟨vs, h1, h2, h5⟩ := hown
  refine append_row ht hinfo rfl (by omega) hby w hgd x ho h2 hs us hx (by rw [hm, Nat.mul_one]) (fun j u hj => ?_) (fun u hu => ?_) (by omega) hbase fun v' w' a1 a2 a3 => h v' w' ?_ a2 a3
  · rw [show (⟨g, off, none⟩ : Addr).add j = ⟨g, off + j, none⟩ from Go.WideShapes.add_plain g off j]
    exact hcell j u hj
  · obtain ⟨j, hj, rfl⟩ := List.mem_iff_getElem.1 hu
    obtain ⟨u, lo, hi, b1, _, _, b4, _⟩ := hrow j (by omega)
    rw [List.getElem?_eq_getElem hj] at b1
    injection b1 with b1
    obtain ⟨A, c, e, _⟩ := b4
    rw [b1, e]; rfl
  · have hgs := a2.size
    have key : ∀ {u lo hi zs}, base ≤ lo → hi ≤ w.heap.size → IntS w lo hi u zs → (∀ g, v.ownBlock = some g → g < lo ∨ hi ≤ g) → base ≤ lo ∧ hi ≤ w'.heap.size ∧ IntS w' lo hi u zs ∧ ∀ g, v'.ownBlock = some g → g < lo ∨ hi ≤ g := fun b1 b2 b3 b4 => by
      refine ⟨b1, by omega, b3.far a2 b2 b4, fun g hg => ?_⟩
      rcases a3 with e1 | e1
      · exact b4 g (by rw [← e1]; exact hg)
      · rw [e1] at hg; injection hg with hg; omega
    refine ⟨vs ++ us, by simp [h1, hm, hml], by unfold Own; rw [List.length_append, hm]; exact a1, fun j hj => ?_⟩
    by_cases e1 : j < xss.length
    · obtain ⟨u, lo, hi, b1, b2, b3, b4, b5⟩ := h5 j e1
      rw [nthL_append_left e1]
      exact ⟨u, lo, hi, by rw [List.getElem?_append_left (by omega)]; exact b1, key b2 b3 b4 b5⟩
    · obtain ⟨u, lo, hi, b1, b2, b3, b4, b5⟩ := hrow (j - xss.length) (by simp at hj; omega)
      rw [show nthL (xss ++ ys) j = nthL ys (j - xss.length) by unfold nthL; rw [List.getD_eq_getElem?_getD, List.getD_eq_getElem?_getD, List.getElem?_append_right (by omega)]]
      exact ⟨u, lo, hi, by rw [List.getElem?_append_right (by omega), h1]; exact b1, key b2 b3 b4 b5⟩
/-- pairs of small numbers -/
def Small2 (x : List Int) : Prop := x.length = 2 ∧ ∀ z ∈ x, -100 ≤ z ∧ z ≤ 100
def Small (P : List (List Int)) : Prop := ∀ x ∈ P, Small2 x
theorem Small.nil : Small [] := fun x hx => by cases hx
theorem Small.at_ {P : List (List Int)} (h : Small P) {j : Nat} (hj : j < P.length) : Small2 (nthL P j) := h _ (nthL_mem hj)
theorem Small.app {P Q : List (List Int)} (h : Small P) (k : Small Q) : Small (P ++ Q) := fun x hx => by
  rcases List.mem_append.1 hx with hx | hx
  · exact h x hx
  · exact k x hx
theorem Small.one {x : List Int} (h : Small2 x) : Small [x] := fun y hy => by simp at hy; subst hy; exact h
theorem Small.ins {P : List (List Int)} {x : List Int} (h : Small P) (k : Nat) (hx : Small2 x) : Small (([] ++ P.take k) ++ [x] ++ P.drop k) := fun y hy => by
  simp only [List.nil_append, List.mem_append, List.mem_singleton] at hy
  rcases hy with (hy | rfl) | hy
  · exact h y (List.mem_of_mem_take hy)
  · exact hx
  · exact h y (List.mem_of_mem_drop hy)
theorem ins_len (P : List (List Int)) (x : List Int) (k : Nat) : (([] ++ P.take k) ++ [x] ++ P.drop k).length = P.length + 1 := by
  simp only [List.nil_append, List.length_append, List.length_take, List.length_drop, List.length_cons, List.length_nil]; omega
theorem nthL_drop (P : List (List Int)) (k j : Nat) : nthL (P.drop k) j = nthL P (k + j) := by simp [nthL]
theorem nthL_take {P : List (List Int)} {k j : Nat} (h : j < k) : nthL (P.take k) j = nthL P j := by simp [nthL, List.getElem?_take_of_lt h]
theorem Small2.big {x : List Int} (h : Small2 x) : ∀ z ∈ x, -1000000 ≤ z ∧ z ≤ 1000000 := fun z hz => by have := h.2 z hz; omega

set_option maxHeartbeats 4000000 in
set_option maxRecDepth 100000 in
theorem prInsert_any (base : Nat) (v1 : Value) (L : List (List Int)) (vx : Value) (x : List Int) (lox hix : Nat) (w : World) (h : OwnR w base 29 v1 L) (hx : IntS w lox hix vx x) (hlx : base ≤ lox) (hhx : hix ≤ w.heap.size) (hb0 : base ≤ w.heap.size) (hL : L.length ≤ 1000) (hsl : Small L) (hsx : Small2 x) :
    Calls Try.prog 49 #[v1, vx] w fun e w' => ∃ r M, e = .returned r ∧ OwnR w' base 29 r M ∧ M.length ≤ L.length + 1 ∧ Small M ∧ Below w.heap.size w w' := by
  have HX := Lib.hid hx
  have HSL := Lib.hid hsl
  have HSX := Lib.hid hsx
  have HO := Lib.hid h
  obtain ⟨vs, hvl, hown, hrow⟩ := h
  obtain ⟨i0, hi0, hzz0⟩ := Option.map_eq_some_iff.1 infoRowM
  obtain ⟨Ax, cx, rfl, hcx, hdx⟩ := hx.dims
  clear hx hsl hsx
  rcases hown.2 with ⟨rfl, hn⟩ | ⟨g, cap, cur, rfl, hg, hh, hn, hm, hs, ht⟩
  · -- nothing there yet
    have hnil : L = [] := List.eq_nil_of_length_eq_zero (by omega)
    subst hnil
    clear hown hrow hzz0 hn
    go_enter Try.func49, Try.ntmps49
    go_wp2_with fail
    go_loop [5] (fun c => c = .int .i64 0) (fun c => 0)
    case atStart => rfl
    case round =>
      obtain rfl := hrel
      have HE := Lib.hid (OwnR.empty w w.heap.size 29 rfl (Nat.le_refl _))
      have HE2 := Lib.hid (OwnR.empty w base 29 rfl hb0)
      have hEw := HE2.out.choose_spec.2.1
      have hb1 : Below w.heap.size w (w.alloc (.cells #[] 29)) := below_a1 w _
      have HX1 := Lib.hid (HX.out.below hb1 hhx)
      have hz1 := hb1.size
      go_wp2_with (first
        | (at_builtin; refine append_zero (s := .tmp 35) Try.underlying24 hi0 (w.alloc (.cells #[] 29)) rfl (.tmp 38) rfl hEw rfl rfl ?_)
        | (at_builtin; refine append_r (s := .tmp 40) Try.underlying24 infoRowM (by decide) (w.alloc (.cells #[] 29)) rfl _ rfl HE2.out HX1.out hlx (Nat.le_trans hhx hz1) (Nat.le_trans hb0 hz1) (fun q e => .inr (by have := (HE.out.lt q e).1; omega)) _ rfl (by simp [Act.eval, go_sem]) (by simp) ?_; intro v2 w2 ho2 hg2 hat2; have hb2 : Below w.heap.size w w2 := hb1.grown hg2 hz1 (fun q e => (HE.out.lt q e).1); have HO2 := Lib.hid ho2; have hO2 := ho2.choose_spec.2.1)
        | (at_builtin; refine append_zero (s := .tmp 44) Try.underlying24 hi0 w2 rfl (.tmp 47) rfl hO2 rfl rfl ?_))
      obtain ⟨Av, cv, rfl, _, _⟩ := HO2.out.len
      go_ret
      first | exact ⟨_, rfl, _, HO2.out, by simp, Small.nil.app (Small.one HSX.out), hb2⟩ | exact ⟨_, _, rfl, HO2.out, by simp, Small.nil.app (Small.one HSX.out), hb2⟩
  · obtain ⟨n, HN⟩ : ∃ n, Hid (L.length = n) := ⟨_, Lib.hid rfl⟩
    rw [HN.out] at hvl hL hrow
    have hcap : n ≤ cap := by rw [← hvl]; exact hn
    have hcap2 : cap ≤ 9223372036854775807 := hm
    have hgw : g < w.heap.size := (Array.getElem?_eq_some_iff.1 hh).1
    have HC := Lib.hid (show ∀ j u, vs[j]? = some u → w.cell? ⟨g, j, none⟩ = some u from fun j u hj => by
      have hjn : j < vs.length := (List.getElem?_eq_some_iff.1 hj).1
      rw [cell_of_row w g j cur 29 (0, 0) hh]
      rw [← ht, List.getElem?_take_of_lt (by omega)] at hj
      simpa using hj)
    have HR := Lib.hid (show ∀ j, j < n → ∃ u lo hi, vs[j]? = some u ∧ base ≤ lo ∧ hi ≤ w.heap.size ∧ IntS w lo hi u (nthL L j) from fun j hj => by
      obtain ⟨u, lo, hi, a1, a2, a3, a4, _⟩ := hrow j hj
      exact ⟨u, lo, hi, a1, a2, a3, a4⟩)
    rw [hvl] at HO ⊢
    clear hown hrow hzz0 hn hm hs ht hh
    go_enter Try.func49, Try.ntmps49
    go_wp2_with fail
    go_loop [5] (fun c => ∃ k : Nat, c = .int .i64 k ∧ k ≤ n) (fun c => n - (intOf c).toNat)
    case atStart => exact ⟨0, rfl, Nat.zero_le _⟩
    case round =>
      obtain ⟨k, rfl, hk⟩ := hrel
      have hbR := Below.refl w.heap.size w
      by_cases hlt : k < n
      case neg =>
        obtain rfl : k = n := by omega
        have hkk : ¬ (k : Int) < k := by omega
        have hk2 : k ≤ k := Nat.le_refl _
        by_cases hc : cap = k
        · subst hc
          have hza := Lib.hid (show w.heap.size ≤ (w.alloc (.cells #[] 29)).heap.size ∧ w.heap.size ≤ w.heap.size from ⟨Nat.le_trans hbR.size (grown_alloc w _).size, hbR.size⟩)
          have hzw := hza.out.2
          have HE := Lib.hid (OwnR.empty w base 29 rfl (by omega))
          have HGE := Lib.hid (grown_alloc w (.cells #[] 29))
          have hbE : Below w.heap.size w (w.alloc (.cells #[] 29)) := hbR.trans ((grown_to_below HGE.out).mono hzw)
          have HLE := Lib.hid (show ∀ q, (Value.slice (some ⟨w.heap.size, 0, none⟩) 0 0).ownBlock = some q → w.heap.size ≤ q from fun q e => by
            have e' : w.heap.size = q := by simpa [Value.ownBlock] using e
            omega)
          have HC1 := Lib.hid (show ∀ j u, (vs.take cap)[j]? = some u → (w.alloc (.cells #[] 29)).cell? ⟨g, 0 + j, none⟩ = some u from fun j u hj => by
            have hjk : j < cap := by have := (List.getElem?_eq_some_iff.1 hj).1; rw [List.length_take] at this; omega
            rw [List.getElem?_take_of_lt hjk] at hj
            rw [Nat.zero_add]
            exact (hbE.cell (p := ⟨g, j, none⟩) (by show g < _; omega)).trans (HC.out j u hj))
          have HR1 := Lib.hid (show ∀ j, j < cap → ∃ u lo hi, (vs.take cap)[j]? = some u ∧ base ≤ lo ∧ hi ≤ (w.alloc (.cells #[] 29)).heap.size ∧ IntS (w.alloc (.cells #[] 29)) lo hi u (nthL (L.take cap) j) ∧ ∀ q, (Value.slice (some ⟨w.heap.size, 0, none⟩) 0 0).ownBlock = some q → q < lo ∨ hi ≤ q from fun j hj => by
            obtain ⟨u, lo, hi, b1, b2, b3, b4⟩ := HR.out j (by omega)
            exact ⟨u, lo, hi, by rw [List.getElem?_take_of_lt hj]; exact b1, b2, Nat.le_trans b3 hza.out.1, by rw [nthL_take hj]; exact b4.below hbE b3, fun q e => .inr (Nat.le_trans b3 (HLE.out q e))⟩)
          have HT1 := Lib.hid (show (vs.take cap).length = cap by rw [List.length_take]; omega)
          have HT2 := Lib.hid (show (L.take cap).length = cap by rw [List.length_take, HN.out]; omega)
          have HD1 := Lib.hid (show (vs.drop cap).length = 0 by rw [List.length_drop, hvl]; omega)
          have HD2 := Lib.hid (show (L.drop cap).length = 0 by rw [List.length_drop, HN.out]; omega)
          have hbW : base ≤ w.heap.size := by omega
          have hnk : cap - cap ≤ cap := Nat.sub_le _ _
          go_wp2_with (first
            | (at_builtin; refine append_rs (s := .tmp 35) Try.underlying24 infoRowM (by decide) (w.alloc (.cells #[] 29)) rfl (.tmp 38) rfl HE.out rfl (g := g) (off := 0) (vs.take cap) (L.take cap) HT1.out HT2.out rfl HC1.out HR1.out (by simp; omega) (Nat.le_trans hbW HGE.out.size) ?_; intro v1 w1 ho1 hg1 hat1; have hb1 : Below w.heap.size w w1 := hbE.grown hg1 hza.out.1 (fun q e => HLE.out q e); have HO1 := Lib.hid ho1; have hz1 := hb1.size; have HL1 : Hid (∀ q, v1.ownBlock = some q → w.heap.size ≤ q) := Lib.hid (fun q e => hat1.elim (fun h => HLE.out q (h ▸ e)) (fun h => by rw [h] at e; injection e with e; have := hza.out.1; omega)); have HX1 := Lib.hid (HX.out.below hb1 hhx))
            | (at_builtin; refine append_r (s := .tmp 40) Try.underlying24 infoRowM (by decide) w1 rfl _ rfl HO1.out HX1.out hlx (Nat.le_trans hhx hz1) (Nat.le_trans hb0 hz1) (fun q e => .inr (Nat.le_trans hhx (HL1.out q e))) _ rfl (by simp [Act.eval, go_sem]) (by rw [List.nil_append, HT2.out]; omega) ?_; intro v2 w2 ho2 hg2 hat2; have hb2 : Below w.heap.size w w2 := hb1.grown hg2 hz1 (fun q e => HL1.out q e); have HO2 := Lib.hid ho2; have hz2 := hb2.size; have HL2 : Hid (∀ q, v2.ownBlock = some q → w.heap.size ≤ q) := Lib.hid (fun q e => hat2.elim (fun h => HL1.out q (h ▸ e)) (fun h => by rw [h] at e; injection e with e; omega)); have HC3 := Lib.hid (fun j u (hj : (vs.drop cap)[j]? = some u) => (show w2.cell? ⟨g, 0 + j, none⟩ = some u from absurd hj (by rw [List.getElem?_drop, List.getElem?_eq_none (by omega)]; intro h; cases h))); have HR3 := Lib.hid (show ∀ j, j < 0 → ∃ u lo hi, (vs.drop cap)[j]? = some u ∧ base ≤ lo ∧ hi ≤ w2.heap.size ∧ IntS w2 lo hi u (nthL (L.drop cap) j) ∧ ∀ q, v2.ownBlock = some q → q < lo ∨ hi ≤ q from fun j hj => (by obtain ⟨u, lo, hi, b1, b2, b3, b4⟩ := HR.out (cap + j) (by omega); exact ⟨u, lo, hi, (by rw [List.getElem?_drop]; exact b1), b2, Nat.le_trans b3 hz2, (by rw [nthL_drop]; exact b4.below hb2 b3), fun q e => .inr (Nat.le_trans b3 (HL2.out q e))⟩)))
            | (at_builtin; refine append_rs (s := .tmp 44) Try.underlying24 infoRowM (by decide) w2 rfl (.tmp 47) rfl HO2.out rfl (g := g) (off := 0) (vs.drop cap) (L.drop cap) HD1.out HD2.out rfl HC3.out HR3.out (by rw [List.length_append, List.nil_append, HT2.out]; simp; omega) (Nat.le_trans hb0 hz2) ?_; intro v3 w3 ho3 hg3 hat3; have hb3 : Below w.heap.size w w3 := hb2.grown hg3 hz2 (fun q e => HL2.out q e); have HO3 := Lib.hid ho3))
          obtain ⟨Av, cv, rfl, _, _⟩ := HO3.out.len
          go_ret
          first | exact ⟨_, rfl, _, HO3.out, by rw [ins_len, HN.out]; exact Nat.le_refl _, HSL.out.ins cap HSX.out, hb3⟩ | exact ⟨_, _, rfl, HO3.out, by rw [ins_len, HN.out]; exact Nat.le_refl _, HSL.out.ins cap HSX.out, hb3⟩
        · have hc2 : k < cap := by omega
          have hza := Lib.hid (show w.heap.size ≤ (w.alloc (.cells #[] 29)).heap.size ∧ w.heap.size ≤ w.heap.size from ⟨Nat.le_trans hbR.size (grown_alloc w _).size, hbR.size⟩)
          have hzw := hza.out.2
          have HE := Lib.hid (OwnR.empty w base 29 rfl (by omega))
          have HGE := Lib.hid (grown_alloc w (.cells #[] 29))
          have hbE : Below w.heap.size w (w.alloc (.cells #[] 29)) := hbR.trans ((grown_to_below HGE.out).mono hzw)
          have HLE := Lib.hid (show ∀ q, (Value.slice (some ⟨w.heap.size, 0, none⟩) 0 0).ownBlock = some q → w.heap.size ≤ q from fun q e => by
            have e' : w.heap.size = q := by simpa [Value.ownBlock] using e
            omega)
          have HC1 := Lib.hid (show ∀ j u, (vs.take k)[j]? = some u → (w.alloc (.cells #[] 29)).cell? ⟨g, 0 + j, none⟩ = some u from fun j u hj => by
            have hjk : j < k := by have := (List.getElem?_eq_some_iff.1 hj).1; rw [List.length_take] at this; omega
            rw [List.getElem?_take_of_lt hjk] at hj
            rw [Nat.zero_add]
            exact (hbE.cell (p := ⟨g, j, none⟩) (by show g < _; omega)).trans (HC.out j u hj))
          have HR1 := Lib.hid (show ∀ j, j < k → ∃ u lo hi, (vs.take k)[j]? = some u ∧ base ≤ lo ∧ hi ≤ (w.alloc (.cells #[] 29)).heap.size ∧ IntS (w.alloc (.cells #[] 29)) lo hi u (nthL (L.take k) j) ∧ ∀ q, (Value.slice (some ⟨w.heap.size, 0, none⟩) 0 0).ownBlock = some q → q < lo ∨ hi ≤ q from fun j hj => by
            obtain ⟨u, lo, hi, b1, b2, b3, b4⟩ := HR.out j (by omega)
            exact ⟨u, lo, hi, by rw [List.getElem?_take_of_lt hj]; exact b1, b2, Nat.le_trans b3 hza.out.1, by rw [nthL_take hj]; exact b4.below hbE b3, fun q e => .inr (Nat.le_trans b3 (HLE.out q e))⟩)
          have HT1 := Lib.hid (show (vs.take k).length = k by rw [List.length_take]; omega)
          have HT2 := Lib.hid (show (L.take k).length = k by rw [List.length_take, HN.out]; omega)
          have HD1 := Lib.hid (show (vs.drop k).length = 0 by rw [List.length_drop, hvl]; omega)
          have HD2 := Lib.hid (show (L.drop k).length = 0 by rw [List.length_drop, HN.out]; omega)
          have hbW : base ≤ w.heap.size := by omega
          have hnk : k - k ≤ k := Nat.sub_le _ _
          go_wp2_with (first
            | (at_builtin; refine append_rs (s := .tmp 35) Try.underlying24 infoRowM (by decide) (w.alloc (.cells #[] 29)) rfl (.tmp 38) rfl HE.out rfl (g := g) (off := 0) (vs.take k) (L.take k) HT1.out HT2.out rfl HC1.out HR1.out (by simp; omega) (Nat.le_trans hbW HGE.out.size) ?_; intro v1 w1 ho1 hg1 hat1; have hb1 : Below w.heap.size w w1 := hbE.grown hg1 hza.out.1 (fun q e => HLE.out q e); have HO1 := Lib.hid ho1; have hz1 := hb1.size; have HL1 : Hid (∀ q, v1.ownBlock = some q → w.heap.size ≤ q) := Lib.hid (fun q e => hat1.elim (fun h => HLE.out q (h ▸ e)) (fun h => by rw [h] at e; injection e with e; have := hza.out.1; omega)); have HX1 := Lib.hid (HX.out.below hb1 hhx))
            | (at_builtin; refine append_r (s := .tmp 40) Try.underlying24 infoRowM (by decide) w1 rfl _ rfl HO1.out HX1.out hlx (Nat.le_trans hhx hz1) (Nat.le_trans hb0 hz1) (fun q e => .inr (Nat.le_trans hhx (HL1.out q e))) _ rfl (by simp [Act.eval, go_sem]) (by rw [List.nil_append, HT2.out]; omega) ?_; intro v2 w2 ho2 hg2 hat2; have hb2 : Below w.heap.size w w2 := hb1.grown hg2 hz1 (fun q e => HL1.out q e); have HO2 := Lib.hid ho2; have hz2 := hb2.size; have HL2 : Hid (∀ q, v2.ownBlock = some q → w.heap.size ≤ q) := Lib.hid (fun q e => hat2.elim (fun h => HL1.out q (h ▸ e)) (fun h => by rw [h] at e; injection e with e; omega)); have HC3 := Lib.hid (fun j u (hj : (vs.drop k)[j]? = some u) => (show w2.cell? ⟨g, k + j, none⟩ = some u from ((hb2.cell (p := ⟨g, k + j, none⟩) (by show g < _; omega)).trans (HC.out (k + j) u (by rw [List.getElem?_drop] at hj; exact hj))))); have HR3 := Lib.hid (show ∀ j, j < 0 → ∃ u lo hi, (vs.drop k)[j]? = some u ∧ base ≤ lo ∧ hi ≤ w2.heap.size ∧ IntS w2 lo hi u (nthL (L.drop k) j) ∧ ∀ q, v2.ownBlock = some q → q < lo ∨ hi ≤ q from fun j hj => (by obtain ⟨u, lo, hi, b1, b2, b3, b4⟩ := HR.out (k + j) (by omega); exact ⟨u, lo, hi, (by rw [List.getElem?_drop]; exact b1), b2, Nat.le_trans b3 hz2, (by rw [nthL_drop]; exact b4.below hb2 b3), fun q e => .inr (Nat.le_trans b3 (HL2.out q e))⟩)))
            | (at_builtin; refine append_rs (s := .tmp 44) Try.underlying24 infoRowM (by decide) w2 rfl (.tmp 47) rfl HO2.out rfl (g := g) (off := k) (vs.drop k) (L.drop k) HD1.out HD2.out rfl HC3.out HR3.out (by rw [List.length_append, List.nil_append, HT2.out]; simp; omega) (Nat.le_trans hb0 hz2) ?_; intro v3 w3 ho3 hg3 hat3; have hb3 : Below w.heap.size w w3 := hb2.grown hg3 hz2 (fun q e => HL2.out q e); have HO3 := Lib.hid ho3))
          obtain ⟨Av, cv, rfl, _, _⟩ := HO3.out.len
          go_ret
          first | exact ⟨_, rfl, _, HO3.out, by rw [ins_len, HN.out]; exact Nat.le_refl _, HSL.out.ins k HSX.out, hb3⟩ | exact ⟨_, _, rfl, HO3.out, by rw [ins_len, HN.out]; exact Nat.le_refl _, HSL.out.ins k HSX.out, hb3⟩
      obtain ⟨u, lou, hiu, a1, a2, a3, a4⟩ := HR.out k hlt
      have xk := HC.out k u a1
      have HU := Lib.hid a4
      obtain ⟨Au, cu, rfl, hcu, hdu⟩ := a4.dims
      have hss := HSL.out.at_ (j := k) (by rw [HN.out]; exact hlt)
      have hki : (k : Int) < n := by omega
      clear a1 a4
      go_wp2_with fail
      refine (prOrder_any _ (nthL L k) lou hiu _ x lox hix _ HU.out a3 HX.out hhx (by rw [hss.1, HSX.out.1]) hss.big HSX.out.big).mono ?_
      rintro e w9 ⟨rfl, rfl⟩
      obtain ⟨cc, HCC⟩ : ∃ z, Hid (cmpL (nthL L k) x = z) := ⟨_, Lib.hid rfl⟩
      rw [HCC.out]
      by_cases hcc : cc < 0
      case pos =>
        go_wp2_with fail
        go_round
        case rel => exact ⟨k + 1, by go_num, by omega⟩
        case measure => simp [intOf]; omega
      go_wp2_with fail
      refine (l1Same_any _ _ (nthL L k) x lou hiu lox hix _ HU.out HX.out a3 hhx).mono ?_
      rintro e w9 ⟨rfl, hb9⟩
      have hs9 := hb9.size
      by_cases he : nthL L k = x
      case pos =>
        rw [decide_eq_true he]
        clear he
        go_wp2_with fail
        go_ret
        first | exact ⟨_, rfl, _, OwnR.still HO.out (grown_below hb9), by rw [HN.out]; omega, HSL.out, hb9⟩ | exact ⟨_, _, rfl, OwnR.still HO.out (grown_below hb9), by rw [HN.out]; omega, HSL.out, hb9⟩
      rw [decide_eq_false he]
      clear he xk HU
      have hk2 : k ≤ n := hk
      have hza := Lib.hid (show w.heap.size ≤ (w9.alloc (.cells #[] 29)).heap.size ∧ w.heap.size ≤ w9.heap.size from ⟨Nat.le_trans hb9.size (grown_alloc w9 _).size, hb9.size⟩)
      have hzw := hza.out.2
      have HE := Lib.hid (OwnR.empty w9 base 29 rfl (by omega))
      have HGE := Lib.hid (grown_alloc w9 (.cells #[] 29))
      have hbE : Below w.heap.size w (w9.alloc (.cells #[] 29)) := hb9.trans ((grown_to_below HGE.out).mono hzw)
      have HLE := Lib.hid (show ∀ q, (Value.slice (some ⟨w9.heap.size, 0, none⟩) 0 0).ownBlock = some q → w.heap.size ≤ q from fun q e => by
        have e' : w9.heap.size = q := by simpa [Value.ownBlock] using e
        omega)
      have HC1 := Lib.hid (show ∀ j u, (vs.take k)[j]? = some u → (w9.alloc (.cells #[] 29)).cell? ⟨g, 0 + j, none⟩ = some u from fun j u hj => by
        have hjk : j < k := by have := (List.getElem?_eq_some_iff.1 hj).1; rw [List.length_take] at this; omega
        rw [List.getElem?_take_of_lt hjk] at hj
        rw [Nat.zero_add]
        exact (hbE.cell (p := ⟨g, j, none⟩) (by show g < _; omega)).trans (HC.out j u hj))
      have HR1 := Lib.hid (show ∀ j, j < k → ∃ u lo hi, (vs.take k)[j]? = some u ∧ base ≤ lo ∧ hi ≤ (w9.alloc (.cells #[] 29)).heap.size ∧ IntS (w9.alloc (.cells #[] 29)) lo hi u (nthL (L.take k) j) ∧ ∀ q, (Value.slice (some ⟨w9.heap.size, 0, none⟩) 0 0).ownBlock = some q → q < lo ∨ hi ≤ q from fun j hj => by
        obtain ⟨u, lo, hi, b1, b2, b3, b4⟩ := HR.out j (by omega)
        exact ⟨u, lo, hi, by rw [List.getElem?_take_of_lt hj]; exact b1, b2, Nat.le_trans b3 hza.out.1, by rw [nthL_take hj]; exact b4.below hbE b3, fun q e => .inr (Nat.le_trans b3 (HLE.out q e))⟩)
      have HT1 := Lib.hid (show (vs.take k).length = k by rw [List.length_take]; omega)
      have HT2 := Lib.hid (show (L.take k).length = k by rw [List.length_take, HN.out]; omega)
      have HD1 := Lib.hid (show (vs.drop k).length = n - k by rw [List.length_drop, hvl])
      have HD2 := Lib.hid (show (L.drop k).length = n - k by rw [List.length_drop, HN.out])
      have hbW : base ≤ w9.heap.size := by omega
      have hnk : n - k ≤ n := Nat.sub_le _ _
      go_wp2_with (first
        | (at_builtin; refine append_rs (s := .tmp 35) Try.underlying24 infoRowM (by decide) (w9.alloc (.cells #[] 29)) rfl (.tmp 38) rfl HE.out rfl (g := g) (off := 0) (vs.take k) (L.take k) HT1.out HT2.out rfl HC1.out HR1.out (by simp; omega) (Nat.le_trans hbW HGE.out.size) ?_; intro v1 w1 ho1 hg1 hat1; have hb1 : Below w.heap.size w w1 := hbE.grown hg1 hza.out.1 (fun q e => HLE.out q e); have HO1 := Lib.hid ho1; have hz1 := hb1.size; have HL1 : Hid (∀ q, v1.ownBlock = some q → w.heap.size ≤ q) := Lib.hid (fun q e => hat1.elim (fun h => HLE.out q (h ▸ e)) (fun h => by rw [h] at e; injection e with e; have := hza.out.1; omega)); have HX1 := Lib.hid (HX.out.below hb1 hhx))
        | (at_builtin; refine append_r (s := .tmp 40) Try.underlying24 infoRowM (by decide) w1 rfl _ rfl HO1.out HX1.out hlx (Nat.le_trans hhx hz1) (Nat.le_trans hb0 hz1) (fun q e => .inr (Nat.le_trans hhx (HL1.out q e))) _ rfl (by simp [Act.eval, go_sem]) (by rw [List.nil_append, HT2.out]; omega) ?_; intro v2 w2 ho2 hg2 hat2; have hb2 : Below w.heap.size w w2 := hb1.grown hg2 hz1 (fun q e => HL1.out q e); have HO2 := Lib.hid ho2; have hz2 := hb2.size; have HL2 : Hid (∀ q, v2.ownBlock = some q → w.heap.size ≤ q) := Lib.hid (fun q e => hat2.elim (fun h => HL1.out q (h ▸ e)) (fun h => by rw [h] at e; injection e with e; omega)); have HC3 := Lib.hid (fun j u (hj : (vs.drop k)[j]? = some u) => (show w2.cell? ⟨g, k + j, none⟩ = some u from ((hb2.cell (p := ⟨g, k + j, none⟩) (by show g < _; omega)).trans (HC.out (k + j) u (by rw [List.getElem?_drop] at hj; exact hj))))); have HR3 := Lib.hid (show ∀ j, j < n - k → ∃ u lo hi, (vs.drop k)[j]? = some u ∧ base ≤ lo ∧ hi ≤ w2.heap.size ∧ IntS w2 lo hi u (nthL (L.drop k) j) ∧ ∀ q, v2.ownBlock = some q → q < lo ∨ hi ≤ q from fun j hj => (by obtain ⟨u, lo, hi, b1, b2, b3, b4⟩ := HR.out (k + j) (by omega); exact ⟨u, lo, hi, (by rw [List.getElem?_drop]; exact b1), b2, Nat.le_trans b3 hz2, (by rw [nthL_drop]; exact b4.below hb2 b3), fun q e => .inr (Nat.le_trans b3 (HL2.out q e))⟩)))
        | (at_builtin; refine append_rs (s := .tmp 44) Try.underlying24 infoRowM (by decide) w2 rfl (.tmp 47) rfl HO2.out rfl (g := g) (off := k) (vs.drop k) (L.drop k) HD1.out HD2.out rfl HC3.out HR3.out (by rw [List.length_append, List.nil_append, HT2.out]; simp; omega) (Nat.le_trans hb0 hz2) ?_; intro v3 w3 ho3 hg3 hat3; have hb3 : Below w.heap.size w w3 := hb2.grown hg3 hz2 (fun q e => HL2.out q e); have HO3 := Lib.hid ho3))
      obtain ⟨Av, cv, rfl, _, _⟩ := HO3.out.len
      go_ret
      first | exact ⟨_, rfl, _, HO3.out, by rw [ins_len, HN.out]; exact Nat.le_refl _, HSL.out.ins k HSX.out, hb3⟩ | exact ⟨_, _, rfl, HO3.out, by rw [ins_len, HN.out]; exact Nat.le_refl _, HSL.out.ins k HSX.out, hb3⟩

end Go.Proofs.Ytbfjhehhpgcelaa
