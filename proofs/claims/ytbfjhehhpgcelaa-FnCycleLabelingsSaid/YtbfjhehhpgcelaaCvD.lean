/-
  Several texts in one: CyF, CyE, CyG, CyL, CyN. No condition on any program.
-/
import Derived.Test.YtbfjhehhpgcelaaCvC
import Derived.Test.YtbfjhehhpgcelaaCvB
import Derived.Laws.Cover3
import Derived.Test.YtbfjhehhpgcelaaCvA

/- Contract: the first walk of a length (program). -/
namespace Go.Proofs.Ytbfjhehhpgcelaa
open Go.ChangeShapes Go.WideShapes Go.ChangeAt Go.RowKit
set_option linter.unusedVariables false

theorem wsets_step {n x y k : Nat} {P : List (List Int)} {zs : List Int} {V : Nat} (hl : zs.length = n) (hy : y < n) (hk : k < P.length) (hE : nthL P k = [(x : Int), (y : Int)]) (h : ∀ a, a < n → nth zs a = ((setOf n (fun i => may (P.take k) i a) : Nat) : Int)) (hV : setOf n (fun i => may (P.take k) i y || x == i) = V) : ∀ a, a < n → nth (zs.set y (V : Int)) a = ((setOf n (fun i => may (P.take (k + 1)) i a) : Nat) : Int) := by
  intro a ha
  rw [nth_set _ _ _ _ (by omega)]
  by_cases e : a = y
  · subst e; rw [if_pos rfl, ← hV]; congr 1; exact setOf_congr fun i _ => by rw [may_at hk hE]; simp
  · rw [if_neg e, h a ha]; congr 1; exact setOf_congr fun i _ => by rw [may_at hk hE]; simp [show (y == a) = false by simp; omega]
theorem wstep_set {n x y k : Nat} {P : List (List Int)} {S : Nat} (hS : setOf n (fun i => may (P.take k) i y) = S) (hx : x < n) : setOf n (fun i => may (P.take k) i y || x == i) = (S ||| 2 ^ x) := by
  rw [← hS, setOf_one hx, setOf_or]
/-- the sets of labels from which walks lead to b -/
def leftL (n : Nat) (m : Nat → Nat → Bool) (b k : Nat) : List Int := (List.range (k + 1)).map fun i => ((setOf n (fun x => wk n m i x b) : Nat) : Int)
theorem leftL_len (n : Nat) (m : Nat → Nat → Bool) (b k : Nat) : (leftL n m b k).length = k + 1 := by simp [leftL]
theorem nth_leftL {n b most k : Nat} (m : Nat → Nat → Bool) (h : k ≤ most) : nth (leftL n m b most) k = ((setOf n (fun x => wk n m k x b) : Nat) : Int) := by simp [nth, leftL, show k < most + 1 by omega]
theorem leftL_succ (n : Nat) (m : Nat → Nat → Bool) (b k : Nat) : leftL n m b (k + 1) = leftL n m b k ++ [((setOf n (fun x => wk n m (k + 1) x b) : Nat) : Int)] := by
  unfold leftL; rw [List.range_succ, List.map_append]; rfl
theorem left_step {n : Nat} {m : Nat → Nat → Bool} {b k j : Nat} (hb : b < n) (h : (ascI n (fun x => wk n m k x b)).length ≤ j) : setOf n (fun c => anyK n (fun x => wk n m k x b) j fun x => m c x) = setOf n (fun x => wk n m (k + 1) x b) :=
  setOf_congr fun c hc => by rw [anyK_full h, wk_left' k hc hb]
theorem setOf_oneR {n a : Nat} (h : a < n) : 2 ^ a = setOf n (fun i => i == a) := by
  rw [setOf_one h]; exact setOf_congr fun i _ => by rw [Bool.eq_iff_iff]; simp; omega
def wbL (n : Nat) (m : Nat → Nat → Bool) (a b k : Nat) : List Int := if wk n m k a b then gw n m b k a else []
theorem gw_take {n : Nat} {m : Nat → Nat → Bool} {b k a j : Nat} (h : j < k) : (gw n m b k a).take (j + 1 + 1) = (gw n m b k a).take (j + 1) ++ [nth (gw n m b k a) (j + 1)] := by
  have hl := gw_len n m b k a
  rw [List.take_succ_eq_append_getElem (by omega), nth_eq (by omega)]
theorem gw_take1 (n : Nat) (m : Nat → Nat → Bool) (b k a : Nat) : (gw n m b k a).take 1 = [(a : Int)] := by cases k <;> simp [gw]

set_option maxHeartbeats 8000000 in
set_option maxRecDepth 100000 in
theorem walkBetween_any (PL : Nat) (v1 : Value) (P : List (List Int)) (lo1 hi1 : Nat) (a : Nat) (b : Nat) (k : Nat) (w : World) (h1 : IntSS w lo1 hi1 v1 P) (hh1 : hi1 ≤ w.heap.size) (hg : wkGood (PL : Int) P = true) (ha : a < PL) (hb : b < PL) (hk : k ≤ 199) :
    Calls Try.prog 22 #[.agg #[.int .i64 (PL : Nat), v1], .int .i64 (a : Nat), .int .i64 (b : Nat), .int .i64 (k : Nat)] w fun e w' => ∃ r, e = .returned r ∧ IntS w' w.heap.size w'.heap.size r (wbL PL (may P) a b k) ∧ (wk PL (may P) k a b = false → r = .slice none 0 0) ∧ Below w.heap.size w w' := by
  have HG := Lib.hid hg
  obtain ⟨n', hn', n1, n12⟩ := good_L hg
  obtain rfl : PL = n' := by omega
  clear hg hn'
  obtain ⟨i1, hi1', hz1⟩ := Option.map_eq_some_iff.1 Try.info3
  simp only [Prod.mk.injEq] at hz1
  obtain ⟨hz1a, hz1b, hz1c⟩ := hz1
  have HI1 := Lib.hid hz1a; have HI2 := Lib.hid hz1b; have HI3 := Lib.hid hz1c; have HII := Lib.hid hi1'
  clear hz1a hz1b hz1c hi1'
  have F1 := Lib.hid h1
  obtain ⟨A1, c1, rfl, hc1, hd1⟩ := h1.dims
  clear h1
  obtain ⟨WA, HWA⟩ : ∃ W, Hid (W = (w.alloc (.cells #[.int .i64 PL, .slice A1 P.length c1] 26))) := ⟨_, Lib.hid rfl⟩
  have hbA : Below w.heap.size w WA := by rw [HWA.out]; exact ((Below.refl _ _).alloc (Nat.le_refl _) _)
  have hsA : w.heap.size + 1 ≤ WA.heap.size := by rw [HWA.out]; simp; try omega
  have bx1 : BoxN WA (w.heap.size) #[.int .i64 PL, .slice A1 P.length c1] 26 := by rw [HWA.out]; exact (BoxN.new' _ _ _ (by simp))
  have G1 := Lib.hid (ISS.below F1.out hbA hh1); clear F1
  go_enter Try.func22, Try.ntmps22
  go_upto_region 1 with (fail)
  rw [← HWA.out]; clear HWA
  have kbx1_0 : WA.cell? ⟨w.heap.size, 0, none⟩ = some (.int .i64 PL) := bx1.cell 0 (by simp)
  have kbx1_1 : WA.cell? ⟨w.heap.size, 1, none⟩ = some (.slice A1 P.length c1) := bx1.cell 1 (by simp)
  have hmk := fun W => run_make_row' (P := Try.prog) 29 3 (.int .i64 0) 8 Try.underlying29 Try.info3 rfl .i64 .i64 PL (by omega) (by omega) W
  go_upto_region 2 with (fail)
  refine nameC ?_
  intro W1 HW1
  have hg1 : WA.grownBy W1 none := by rw [HW1.out]; exact grown_alloc _ _
  have hs1 := hg1.size
  have HF1 := Lib.hid ((Turned.refl WA.heap.size WA.heap.size WA).still hg1)
  have HO := Lib.hid (show IntS W1 WA.heap.size (WA.heap.size + 1) (.slice (some ⟨WA.heap.size, 0, none⟩) PL PL) (List.replicate PL 0) by rw [HW1.out]; exact made_ints _ _ _ rfl (by omega))
  have hz : WA.heap.size + 1 ≤ W1.heap.size := by rw [HW1.out]; simp
  clear HW1 hmk kbx1_0 kbx1_1
  have kbx1_0 : W1.cell? ⟨w.heap.size, 0, none⟩ = some (.int .i64 PL) := (HF1.out.boxN bx1 (by omega)).cell 0 (by simp)
  have kbx1_1 : W1.cell? ⟨w.heap.size, 1, none⟩ = some (.slice A1 P.length c1) := (HF1.out.boxN bx1 (by omega)).cell 1 (by simp)
  go_wp2_with fail
  clear kbx1_0 kbx1_1
  go_loopw [26] (fun iv wr => ∃ (q : Nat) (zs : List Int), q ≤ P.length ∧ iv = .int .i64 q ∧ Hid (IntS wr WA.heap.size (WA.heap.size + 1) (.slice (some ⟨WA.heap.size, 0, none⟩) PL PL) zs) ∧ Hid (zs.length = PL) ∧ Hid (∀ c, c < PL → nth zs c = ((setOf PL (fun i => may (P.take q) i c) : Nat) : Int)) ∧ WA.heap.size + 1 ≤ wr.heap.size ∧ Hid (Turned WA.heap.size WA.heap.size WA wr)) (fun iv _ => P.length - (intOf iv).toNat)
  case atStart => exact ⟨0, List.replicate PL 0, Nat.zero_le _, rfl, HO, Lib.hid (by simp), Lib.hid fun c hc => by rw [nth_replicate _ _ hc, setOf_congr (g := fun _ => false) (fun i _ => may_zero P i c), setOf_none]; rfl, hz, HF1⟩
  case round =>
    clear HF1
    obtain ⟨q, zs, hq, rfl, HO, HL, HZ, hz, HF2⟩ := hrel
    have hs2 := HF2.out.size
    by_cases hlt : q < P.length
    case pos =>
      obtain ⟨br, or, ur, rfl, _, hbr, zr, hur⟩ := SS.opened G1.out hlt
      replace zr := (HF2.out.cell (by omega) (by omega)).trans zr
      obtain ⟨Ar, cr, rfl, hcr, hdr⟩ := hur.dims
      have Ur := Lib.hid hur; clear hur
      obtain ⟨hl2, x, y, exy, hx, hy⟩ := good_arc HG.out hlt
      rw [Int.toNat_natCast] at hx hy
      have HE := Lib.hid exy
      rw [exy] at hcr Ur zr
      clear hl2 exy
      obtain ⟨b0, o0, rfl, _, hb0', x0, _⟩ := (IntS.turned Ur.out HF2.out (by omega) (by omega)).opened (j := 0) (zs := [(x : Int), (y : Int)]) (Nat.succ_pos _)
      have x1 := ((IntS.turned Ur.out HF2.out (by omega) (by omega)).at_ (j := 1) (zs := [(x : Int), (y : Int)]) (Nat.succ_lt_succ (Nat.succ_pos _))).1
      simp only [nth, List.getD_cons_zero, List.getD_cons_succ, Nat.add_zero] at x0 x1
      obtain ⟨y1, y2⟩ := HO.out.at0 (j := y) (by rw [HL.out]; exact hy)
      rw [HZ.out y hy] at y1
      have hsl := setOf_12 n12 (fun i => may (P.take q) i y)
      obtain ⟨S, HS⟩ : ∃ s, Hid (setOf PL (fun i => may (P.take q) i y) = s) := ⟨_, Lib.hid rfl⟩
      rw [HS.out] at y1 hsl
      have hor := orPow S x hsl (by omega)
      have HNEW := Lib.hid (wstep_set HS.out hx)
      obtain ⟨V, HV⟩ : ∃ s, Hid ((S ||| 2 ^ x : Nat) = s) := ⟨_, Lib.hid rfl⟩
      rw [HV.out] at hor
      have hs := IntS.still (HO.out.set0 (j := y) (by rw [HL.out]; exact hy) (V : Int)) (grown_drew _) (by rw [size_setCell]; omega)
      have HS2 := Lib.hid hs; clear hs
      go_wp2_with fail
      go_region
      go_wp2_with fail
      go_roundw
      case rel => exact ⟨q + 1, _, by omega, by go_num, HS2, Lib.hid (by rw [List.length_set]; exact HL.out), Lib.hid (wsets_step HL.out hy hlt HE.out HZ.out (by rw [← HV.out]; exact HNEW.out)), by show _ ≤ (wr.setCell _ _).heap.size; rw [size_setCell]; exact hz, Lib.hid (HF2.out.grown (grownBy_trans (grown_set _ ⟨WA.heap.size, y, none⟩ _) (grown_any (grown_drew _))) fun g hg => .inr (by cases hg; exact Nat.le_refl _))⟩
      case measure => simp [intOf]; omega
    have hqi : ¬ (q : Int) < P.length := by omega
    have HBF := Lib.hid (show zs = aftL PL (fun c i => may P i c) from aftL_of HL.out fun c hc => by rw [HZ.out c hc, may_full (by omega)])
    rw [HBF.out] at HO
    have HBFO := HO
    clear HO
    obtain ⟨w1, rfl⟩ : ∃ w1 : World, w1 = wr := ⟨_, rfl⟩
    clear HZ HBF HL
    have P_2 := Lib.hid (ISS.turned G1.out HF2.out (by omega) (by omega)); clear G1
    have bx1_2 := HF2.out.boxN bx1 (by omega); clear bx1
    have hbA2 : Below w.heap.size w w1 := (HF2.out.below_of hbA (by omega) (by omega)); clear hbA HF2
    have hp := pow64 (show b < 12 by omega)
    rw [show ((2 ^ b : Nat) : Int) = ((setOf PL (fun x => wk PL (may P) 0 x b) : Nat) : Int) by rw [setOf_oneR hb]; rfl] at hp
    obtain ⟨S0, HS0⟩ : ∃ s, Hid (setOf PL (fun x => wk PL (may P) 0 x b) = s) := ⟨_, Lib.hid rfl⟩
    rw [HS0.out] at hp
    go_upto_region 8 with (fail)
    refine nameC ?_
    intro W3 HW3
    have hg3 : w1.grownBy W3 none := by rw [HW3.out]; exact grown_alloc _ _
    have hs3 := hg3.size
    have HF3 := Lib.hid ((Turned.refl w1.heap.size w1.heap.size w1).still hg3)
    have HO := Lib.hid (show OwnI W3 w1.heap.size 3 (.slice (some ⟨w1.heap.size, 0, none⟩) 1 1) [(S0 : Int)] by rw [HW3.out]; exact OwnI.one _ _ _ _ rfl (Nat.le_refl _))
    clear HW3
    go_wp2_with fail
    go_loopw [12, 47] (fun vv kv wr => ∃ (i : Nat), i ≤ k ∧ kv = .int .i64 i ∧ Hid (OwnI wr w1.heap.size 3 vv (leftL PL (may P) b i)) ∧ Hid (Turned w1.heap.size w1.heap.size w1 wr)) (fun vv kv _ => k - (intOf kv).toNat)
    case atStart => exact ⟨0, Nat.zero_le _, rfl, Lib.hid (by rw [show leftL PL (may P) b 0 = [(S0 : Int)] by rw [← HS0.out]; rfl]; exact HO.out), HF3⟩
    case round =>
      clear HF3
      obtain ⟨i, hi, rfl, HO, HF4⟩ := hrel
      have hs4 := HF4.out.size
      obtain ⟨w2, rfl⟩ : ∃ w2 : World, w2 = wr := ⟨_, rfl⟩
      have hln := leftL_len PL (may P) b i
      have HLT := Lib.hid HO.out.lt
      by_cases hik : i < k
      case pos =>
        have hki : (i : Int) < k := by omega
        obtain ⟨Av, cv, rfl, hcv, hdv⟩ := HO.out.ints.dims
        rw [hln] at hcv
        obtain ⟨bv, ov, rfl, _, hbv, xv, _⟩ := HO.out.ints.opened (j := i) (by omega)
        rw [nth_leftL _ (Nat.le_refl _)] at xv
        obtain ⟨S, HS⟩ : ∃ s, Hid (setOf PL (fun x => wk PL (may P) i x b) = s) := ⟨_, Lib.hid rfl⟩
        rw [HS.out] at xv
        rw [hln] at HO
        try rw [hln]
        go_wp2_with fail
        refine (labelsIn_any S _ PL (fun x => wk PL (may P) i x b) HS.out.symm n12).mono ?_
        rintro e W5 ⟨u, rfl, hu, hb5⟩
        have hg5 := grown_below hb5; clear hb5
        have hs5 := hg5.size
        have HF5 := Lib.hid (HF4.out.still hg5); clear HF4
        have O5 := Lib.hid (OwnI.still HO.out hg5); clear HO
        have U5 := Lib.hid hu; clear hu
        obtain ⟨Au, cu, rfl, hcu, hdu⟩ := IntS.dims U5.out
        go_wp2_with fail
        go_loop [14, 56] (fun nv jv => ∃ (j N : Nat), j ≤ (ascI PL (fun x => wk PL (may P) i x b)).length ∧ jv = .int .i64 j ∧ nv = .int .i64 N ∧ Hid (setOf PL (fun c => anyK PL (fun x => wk PL (may P) i x b) j fun x => may P c x) = N)) (fun nv jv => (ascI PL (fun x => wk PL (may P) i x b)).length - (intOf jv).toNat)
        case atStart => exact ⟨0, 0, Nat.zero_le _, rfl, rfl, Lib.hid (any_start PL (fun x => wk PL (may P) i x b) (fun x c => may P c x))⟩
        case round =>
          obtain ⟨j, N, hj, rfl, rfl, HN⟩ := hrel
          by_cases hjl : j < (ascI PL (fun x => wk PL (may P) i x b)).length
          case pos =>
            obtain ⟨x, ex, hx, hfx, hxa⟩ := ascI_at hjl
            have hAN := any_step (m := fun x c => may P c x) hxa
            rw [HN.out] at hAN
            have hn1 : N < 4096 := by rw [← HN.out]; exact setOf_12 n12 _
            have hn2 := setOf_12 n12 (fun c => may P c x)
            obtain ⟨bu, ou, rfl, _, hbu, xu, _⟩ := U5.out.opened hjl
            rw [ex] at xu
            obtain ⟨xr, _⟩ := (IntS.turned HBFO.out HF5.out (by omega) (by omega)).at0 (j := x) (by rw [aftL_len]; exact hx)
            rw [nth_aftL _ hx] at xr
            obtain ⟨T1, HT1⟩ : ∃ s, Hid (setOf PL (fun c => may P c x) = s) := ⟨_, Lib.hid rfl⟩
            rw [HT1.out] at xr hn2 hAN
            have hor := orC_i64 N T1 hn1 hn2
            have HAN := Lib.hid hAN
            clear hAN ex hxa hfx
            have hxi : (x : Int) < PL := by omega
            have hji : (j : Int) < (ascI PL (fun x => wk PL (may P) i x b)).length := by omega
            go_wp2_with fail
            go_round
            case rel => exact ⟨j + 1, _, by omega, by go_num, rfl, HAN⟩
            case measure => simp [intOf]; omega
          have HNX := Lib.hid (show leftL PL (may P) b (i + 1) = leftL PL (may P) b i ++ [(N : Int)] by rw [leftL_succ, ← left_step hb (Nat.le_of_not_lt hjl), HN.out])
          have hjn : ¬ (j : Int) < (ascI PL (fun x => wk PL (may P) i x b)).length := by omega
          have hbase : w1.heap.size ≤ W5.heap.size := by omega
          go_wp2_with (at_builtin; refine append_int (s := .tmp 67) Try.underlying29 Try.info3 (by decide) W5 rfl _ rfl O5.out N _ rfl (by simp [Act.eval, go_sem]) (by omega) (by omega) ?_; intro v' w' ho' hg' hat')
          go_roundw
          case rel => exact ⟨i + 1, by omega, by go_num, Lib.hid (by rw [HNX.out]; exact ho'), Lib.hid (HF5.out.grown hg' fun g e => .inr (by first | exact (HLT.out g e).1 | (have := HLT.out g (by simpa [Value.ownBlock] using e); omega)))⟩
          case measure => simp [intOf]; omega
      obtain rfl : i = k := by omega
      have hki : ¬ (i : Int) < i := by omega
      obtain ⟨Av, cv, rfl, hcv, hdv⟩ := HO.out.ints.dims
      rw [hln] at hcv
      have HLI := Lib.hid HO.out.ints
      rw [hln] at HLI
      try rw [hln]
      obtain ⟨bv, ov, rfl, _, hbv, xv, _⟩ := HLI.out.opened (j := i) (by omega)
      rw [nth_leftL _ (Nat.le_refl _)] at xv
      have hsl := setOf_12 n12 (fun x => wk PL (may P) i x b)
      have hbt := setOf_bit (fun x => wk PL (may P) i x b) ha
      obtain ⟨S, HS⟩ : ∃ s, Hid (setOf PL (fun x => wk PL (may P) i x b) = s) := ⟨_, Lib.hid rfl⟩
      rw [HS.out] at xv hsl hbt
      have hbw := bitW S a hsl
      rw [hbt] at hbw
      clear hbt HO HLT
      have hiv : (i : Int) < ((i + 1 : Nat) : Int) := by omega
      obtain ⟨K1, HK1⟩ : ∃ z, Hid (i + 1 = z) := ⟨_, Lib.hid rfl⟩
      rw [HK1.out] at HLI hcv hiv
      try rw [HK1.out]
      cases hw : wk PL (may P) i a b with
      | false =>
        rw [hw] at hbw
        have hb' : bits .and .i64 ((S : Int) / 2 ^ a) 1 = 0 := hbw
        have HWF := Lib.hid hw
        clear hbw hw
        go_wp2_with fail
        go_ret
        refine ⟨_, rfl, ?_, fun _ => rfl, (HF4.out.below_of hbA2 (by omega) (by omega))⟩
        rw [show wbL PL (may P) a b i = [] by unfold wbL; rw [HWF.out]; rfl]
        exact IntS.nil _ _ _
      | true =>
        rw [hw] at hbw
        have hb' : bits .and .i64 ((S : Int) / 2 ^ a) 1 = 1 := hbw
        have HWT := Lib.hid hw
        clear hbw hw
        have kbx1_0 : w2.cell? ⟨w.heap.size, 0, none⟩ = some (.int .i64 PL) := (HF4.out.boxN bx1_2 (by omega)).cell 0 (by simp)
        have kbx1_1 : w2.cell? ⟨w.heap.size, 1, none⟩ = some (.slice A1 P.length c1) := (HF4.out.boxN bx1_2 (by omega)).cell 1 (by simp)
        go_wp2_with fail
        clear xv kbx1_0 kbx1_1
        refine (after_any PL _ P _ _ _ (ISS.turned P_2.out HF4.out (by omega) (by omega)) (by omega) HG.out).mono ?_
        rintro e W7 ⟨r, rfl, hr, hb7⟩
        have hg7 := grown_below hb7; clear hb7
        have hs7 := hg7.size
        have HF7 := Lib.hid (HF4.out.still hg7); clear HF4
        have L7 := Lib.hid (IntS.still HLI.out hg7 (by omega)); clear HLI
        have R7 := Lib.hid hr; clear hr
        obtain ⟨Ar, cr, rfl, hcr, hdr⟩ := IntS.dims R7.out
        rw [aftL_len] at hcr R7
        rw [aftL_len]
        obtain ⟨br, or, rfl, _, hbr, _⟩ := R7.out.opened (j := a) (by rw [aftL_len]; exact ha)
        have P_7 := Lib.hid (ISS.turned P_2.out HF7.out (by omega) (by omega)); clear P_2
        have bx1_7 := HF7.out.boxN bx1_2 (by omega); clear bx1_2
        have B_7 := Lib.hid (IntS.turned HBFO.out HF7.out (by omega) (by omega)); clear HBFO
        have hbA7 : Below w.heap.size w W7 := (HF7.out.below_of hbA2 (by omega) (by omega)); clear hbA2 HF7
        go_upto_region 23 with (fail)
        refine nameC ?_
        intro W8 HW8
        have hg8 : W7.grownBy W8 none := by rw [HW8.out]; exact grown_alloc _ _
        have hs8 := hg8.size
        have HF8 := Lib.hid ((Turned.refl W7.heap.size W7.heap.size W7).still hg8)
        have HO := Lib.hid (show OwnI W8 W7.heap.size 3 (.slice (some ⟨W7.heap.size, 0, none⟩) 1 1) [(a : Int)] by rw [HW8.out]; exact OwnI.one _ _ _ _ rfl (Nat.le_refl _))
        clear HW8
        go_wp2_with fail
        go_loopw [18, 19] (fun vv rv wr => ∃ (r : Nat), r ≤ i ∧ rv = .int .i64 ((r : Int) - 1) ∧ Hid (OwnI wr W7.heap.size 3 vv ((gw PL (may P) b i a).take (i - r + 1))) ∧ Hid (Turned W7.heap.size W7.heap.size W7 wr)) (fun vv rv _ => (intOf rv + 1).toNat)
        case atStart => exact ⟨i, Nat.le_refl _, rfl, Lib.hid (by rw [Nat.sub_self, gw_take1]; exact HO.out), HF8⟩
        case round =>
          clear HF8
          obtain ⟨r, hr, rfl, HO, HF9⟩ := hrel
          have hs9 := HF9.out.size
          obtain ⟨w3, rfl⟩ : ∃ w3 : World, w3 = wr := ⟨_, rfl⟩
          have hgl := gw_len PL (may P) b i a
          by_cases hr0 : r = 0
          case pos =>
            subst hr0
            have htk : (gw PL (may P) b i a).take (i - 0 + 1) = (gw PL (may P) b i a) := List.take_of_length_le (by omega)
            rw [htk] at HO
            go_wp2_with fail
            go_ret
            refine ⟨_, rfl, ?_, fun h => absurd (h.symm.trans HWT.out) (by decide), (HF9.out.below_of hbA7 (by omega) (by omega))⟩
            rw [show wbL PL (may P) a b i = (gw PL (may P) b i a) by unfold wbL; rw [HWT.out]; rfl]
            exact HO.out.ints.mono (by omega) (Nat.le_refl _)
          obtain ⟨x, ex, hx, hwx, hst⟩ := gw_step hb i a ha HWT.out (i - r) (by omega)
          obtain ⟨ey, hmy⟩ := hst (by omega)
          rw [show i - 1 - (i - r) = r - 1 by omega] at ey hmy
          have hri : (r : Int) - 1 = ((r - 1 : Nat) : Int) := by omega
          have hr0i : (0 : Int) ≤ ((r - 1 : Nat) : Int) := by omega
          have htl : ((gw PL (may P) b i a).take (i - r + 1)).length = i - r + 1 := by rw [List.length_take]; omega
          obtain ⟨T, HT⟩ : ∃ T, Hid ((gw PL (may P) b i a).take (i - r + 1) = T) := ⟨_, Lib.hid rfl⟩
          rw [HT.out] at HO htl
          have hlast : nth T (i - r) = (x : Int) := by rw [← HT.out, nth_take (by omega), ex]
          obtain ⟨d, HD⟩ : ∃ d, Hid (i - r = d) := ⟨_, Lib.hid rfl⟩
          rw [HD.out] at htl hlast ey ex
          have hd := HD.out
          obtain ⟨Ao, co, rfl, hco, hdo⟩ := HO.out.ints.dims
          rw [htl] at hco
          obtain ⟨bo, oo, rfl, _, hbo, xo, _⟩ := HO.out.ints.opened (j := d) (by omega)
          rw [hlast] at xo
          rw [htl] at HO
          try rw [htl]
          have hdi : ((d + 1 : Nat) : Int) - 1 = (d : Int) := by omega
          obtain ⟨D1, HD1⟩ : ∃ z, Hid (d + 1 = z) := ⟨_, Lib.hid rfl⟩
          rw [HD1.out] at HO hdi hco htl
          try rw [HD1.out]
          have hd1 := HD1.out
          have hdl : (d : Int) < D1 := by omega
          obtain ⟨r1, HR1⟩ : ∃ z, Hid (r - 1 = z) := ⟨_, Lib.hid rfl⟩
          rw [HR1.out] at hri hr0i ey hmy
          have hr1 := HR1.out
          have hrk : (r1 : Int) < K1 := by have := HK1.out; omega
          have xl := ((IntS.turned L7.out HF9.out (by omega) (by omega)).at_ (j := r1) (by rw [leftL_len]; omega)).1
          rw [nth_leftL _ (by omega)] at xl
          have xa := ((IntS.turned R7.out HF9.out (by omega) (by omega)).at_ (j := x) (by rw [aftL_len]; exact hx)).1
          rw [nth_aftL _ hx] at xa
          have hs1 := setOf_12 n12 (may P x)
          have hs2 := setOf_12 n12 (fun c => wk PL (may P) r1 c b)
          have hsa := setOf_and PL (may P x) (fun c => wk PL (may P) r1 c b)
          obtain ⟨S1, HS1⟩ : ∃ s, Hid (setOf PL (may P x) = s) := ⟨_, Lib.hid rfl⟩
          obtain ⟨S2, HS2⟩ : ∃ s, Hid (setOf PL (fun c => wk PL (may P) r1 c b) = s) := ⟨_, Lib.hid rfl⟩
          obtain ⟨S3, HS3⟩ : ∃ s, Hid (setOf PL (fun c => may P x c && wk PL (may P) r1 c b) = s) := ⟨_, Lib.hid rfl⟩
          rw [HS1.out] at xa hs1 hsa
          rw [HS2.out] at xl hs2 hsa
          rw [HS3.out] at hsa
          have hand := andC2_i64 S1 S2 hs1 hs2
          rw [hsa] at hand
          obtain ⟨c0, e0, hwk⟩ := (wk_left (m := may P) r1 hx hb).1 (by rw [show r1 + 1 = i - (i - r) by omega]; exact hwx)
          obtain ⟨f1, f2, f3, f4⟩ := fstC_of (n := PL) (f := fun c => may P x c && wk PL (may P) r1 c b) ⟨c0, e0, by rw [hwk.1, hwk.2]; rfl⟩
          obtain ⟨Y, HY⟩ : ∃ y, Hid (fstC PL (fun c => may P x c && wk PL (may P) r1 c b) = y) := ⟨_, Lib.hid rfl⟩
          rw [HY.out] at f1 f4 ey
          have HNX := Lib.hid (show (gw PL (may P) b i a).take (i - (r - 1) + 1) = T ++ [(Y : Int)] by rw [← HT.out, show i - (r - 1) + 1 = d + 1 + 1 by omega, gw_take (by omega), ey, show i - r + 1 = d + 1 by omega])
          have HLT := Lib.hid HO.out.lt
          have HLAST := Lib.hid hlast
          clear hsa f2 hwk hmy hwx ex ey hst
          have hxi : (x : Int) < PL := by omega
          have HF3 := Lib.hid f3; have HF4 := Lib.hid f4
          clear f3 f4 hlast
          go_wp2_with fail
          refine wp_region_U (fun w' => w'.cell? ⟨bo, oo + d, none⟩ = some (.int .i64 x) ∧ w'.cell? ⟨br, or + x, none⟩ = some (.int .i64 S1) ∧ w'.cell? ⟨bv, ov + r1, none⟩ = some (.int .i64 S2)) [19, 20] (by kernel_rfl) ?_
          refine nameU ?_
          intro W10 HW10
          have hg10 : w3.grownBy W10 none := by rw [HW10.out]; exact grown_drew _
          clear HW10
          have hs10 := hg10.size
          have HF10 := Lib.hid (HF9.out.still hg10); clear HF9
          have O10 := Lib.hid (OwnI.still HO.out hg10); clear HO
          have hS11 : W10.cell? ⟨bo, oo + d, none⟩ = some (.int .i64 x) ∧ W10.cell? ⟨br, or + x, none⟩ = some (.int .i64 S1) ∧ W10.cell? ⟨bv, ov + r1, none⟩ = some (.int .i64 S2) := ⟨(by have h := (O10.out.ints.at_ (j := d) (by omega)).1; rw [HLAST.out] at h; exact h), (by have h := ((IntS.turned R7.out HF10.out (by omega) (by omega)).at_ (j := x) (by rw [aftL_len]; exact hx)).1; rw [nth_aftL _ hx, HS1.out] at h; exact h), (by have h := ((IntS.turned L7.out HF10.out (by omega) (by omega)).at_ (j := r1) (by rw [leftL_len]; omega)).1; rw [nth_leftL _ (by omega), HS2.out] at h; exact h)⟩
          refine anyU_take (i := 0) (v := .slice (some ⟨bo, oo, none⟩) D1 co) rfl (by kernel_rfl) (by kernel_rfl) (by kernel_rfl) (fun _ _ _ h => h) ⟨by rfl, fun w' hS' => (by obtain ⟨s1, s2, s3⟩ := hS'; go_simp)⟩ hS11 ?_
          simp only [List.getElem_toArray, List.getElem_cons_zero, Act.put, List.setIfInBounds_toArray, List.set_cons_zero, List.set_cons_succ]
          refine anyU_take (i := 1) (v := .slice (some ⟨br, or, none⟩) PL cr) rfl (by kernel_rfl) (by kernel_rfl) (by kernel_rfl) (fun _ _ _ h => h) ⟨by rfl, fun w' hS' => (by obtain ⟨s1, s2, s3⟩ := hS'; go_simp)⟩ hS11 ?_
          simp only [List.getElem_toArray, List.getElem_cons_succ, List.getElem_cons_zero, Act.put, List.setIfInBounds_toArray, List.set_cons_zero, List.set_cons_succ]
          refine anyU_take (i := 2) (v := .slice (some ⟨bo, oo, none⟩) D1 co) rfl (by kernel_rfl) (by kernel_rfl) (by kernel_rfl) (fun _ _ _ h => h) ⟨by rfl, fun w' hS' => (by obtain ⟨s1, s2, s3⟩ := hS'; go_simp)⟩ hS11 ?_
          simp only [List.getElem_toArray, List.getElem_cons_succ, List.getElem_cons_zero, Act.put, List.setIfInBounds_toArray, List.set_cons_zero, List.set_cons_succ]
          refine anyU_take (i := 3) (v := .slice (some ⟨bo, oo, none⟩) D1 co) rfl (by kernel_rfl) (by kernel_rfl) (by kernel_rfl) (fun _ _ _ h => h) ⟨by rfl, fun w' hS' => (by obtain ⟨s1, s2, s3⟩ := hS'; go_simp)⟩ hS11 ?_
          simp only [List.getElem_toArray, List.getElem_cons_succ, List.getElem_cons_zero, Act.put, List.setIfInBounds_toArray, List.set_cons_zero, List.set_cons_succ]
          refine anyU_take (i := 4) (v := .int .i64 D1) rfl (by kernel_rfl) (by kernel_rfl) (by kernel_rfl) (fun _ _ _ h => h) ⟨by rfl, fun w' hS' => (by obtain ⟨s1, s2, s3⟩ := hS'; go_simp)⟩ hS11 ?_
          simp only [List.getElem_toArray, List.getElem_cons_succ, List.getElem_cons_zero, Act.put, List.setIfInBounds_toArray, List.set_cons_zero, List.set_cons_succ]
          refine anyU_take (i := 5) (v := .int .i64 d) rfl (by kernel_rfl) (by kernel_rfl) (by kernel_rfl) (fun _ _ _ h => h) ⟨by rfl, fun w' hS' => (by obtain ⟨s1, s2, s3⟩ := hS'; go_simp; exact IntWalk.i64_in _ (by omega))⟩ hS11 ?_
          simp only [List.getElem_toArray, List.getElem_cons_succ, List.getElem_cons_zero, Act.put, List.setIfInBounds_toArray, List.set_cons_zero, List.set_cons_succ]
          refine anyU_take (i := 6) (v := .pointer (some ⟨bo, oo + d, none⟩)) rfl (by kernel_rfl) (by kernel_rfl) (by kernel_rfl) (fun _ _ _ h => h) ⟨by rfl, fun w' hS' => (by obtain ⟨s1, s2, s3⟩ := hS'; go_simp)⟩ hS11 ?_
          simp only [List.getElem_toArray, List.getElem_cons_succ, List.getElem_cons_zero, Act.put, List.setIfInBounds_toArray, List.set_cons_zero, List.set_cons_succ]
          refine anyU_take (i := 7) (v := .int .i64 x) rfl (by kernel_rfl) (by kernel_rfl) (by kernel_rfl) (fun _ _ _ h => h) ⟨by rfl, fun w' hS' => (by obtain ⟨s1, s2, s3⟩ := hS'; go_simp)⟩ hS11 ?_
          simp only [List.getElem_toArray, List.getElem_cons_succ, List.getElem_cons_zero, Act.put, List.setIfInBounds_toArray, List.set_cons_zero, List.set_cons_succ]
          refine anyU_take (i := 8) (v := .pointer (some ⟨br, or + x, none⟩)) rfl (by kernel_rfl) (by kernel_rfl) (by kernel_rfl) (fun _ _ _ h => h) ⟨by rfl, fun w' hS' => (by obtain ⟨s1, s2, s3⟩ := hS'; go_simp)⟩ hS11 ?_
          simp only [List.getElem_toArray, List.getElem_cons_succ, List.getElem_cons_zero, Act.put, List.setIfInBounds_toArray, List.set_cons_zero, List.set_cons_succ]
          refine anyU_take (i := 9) (v := .int .i64 S1) rfl (by kernel_rfl) (by kernel_rfl) (by kernel_rfl) (fun _ _ _ h => h) ⟨by rfl, fun w' hS' => (by obtain ⟨s1, s2, s3⟩ := hS'; go_simp)⟩ hS11 ?_
          simp only [List.getElem_toArray, List.getElem_cons_succ, List.getElem_cons_zero, Act.put, List.setIfInBounds_toArray, List.set_cons_zero, List.set_cons_succ]
          refine anyU_take (i := 10) (v := .slice (some ⟨bv, ov, none⟩) K1 cv) rfl (by kernel_rfl) (by kernel_rfl) (by kernel_rfl) (fun _ _ _ h => h) ⟨by rfl, fun w' hS' => (by obtain ⟨s1, s2, s3⟩ := hS'; go_simp)⟩ hS11 ?_
          simp only [List.getElem_toArray, List.getElem_cons_succ, List.getElem_cons_zero, Act.put, List.setIfInBounds_toArray, List.set_cons_zero, List.set_cons_succ]
          refine anyU_take (i := 11) (v := .int .i64 r1) rfl (by kernel_rfl) (by kernel_rfl) (by kernel_rfl) (fun _ _ _ h => h) ⟨by rfl, fun w' hS' => (by obtain ⟨s1, s2, s3⟩ := hS'; go_simp)⟩ hS11 ?_
          simp only [List.getElem_toArray, List.getElem_cons_succ, List.getElem_cons_zero, Act.put, List.setIfInBounds_toArray, List.set_cons_zero, List.set_cons_succ]
          refine anyU_take (i := 12) (v := .pointer (some ⟨bv, ov + r1, none⟩)) rfl (by kernel_rfl) (by kernel_rfl) (by kernel_rfl) (fun _ _ _ h => h) ⟨by rfl, fun w' hS' => (by obtain ⟨s1, s2, s3⟩ := hS'; go_simp)⟩ hS11 ?_
          simp only [List.getElem_toArray, List.getElem_cons_succ, List.getElem_cons_zero, Act.put, List.setIfInBounds_toArray, List.set_cons_zero, List.set_cons_succ]
          refine anyU_take (i := 13) (v := .int .i64 S2) rfl (by kernel_rfl) (by kernel_rfl) (by kernel_rfl) (fun _ _ _ h => h) ⟨by rfl, fun w' hS' => (by obtain ⟨s1, s2, s3⟩ := hS'; go_simp)⟩ hS11 ?_
          simp only [List.getElem_toArray, List.getElem_cons_succ, List.getElem_cons_zero, Act.put, List.setIfInBounds_toArray, List.set_cons_zero, List.set_cons_succ]
          refine anyU_take (i := 14) (v := .int .i64 S3) rfl (by kernel_rfl) (by kernel_rfl) (by kernel_rfl) (fun _ _ _ h => h) ⟨by rfl, fun w' hS' => (by obtain ⟨s1, s2, s3⟩ := hS'; go_simp)⟩ hS11 ?_
          simp only [List.getElem_toArray, List.getElem_cons_succ, List.getElem_cons_zero, Act.put, List.setIfInBounds_toArray, List.set_cons_zero, List.set_cons_succ]
          refine anyU_ready (rs := [15]) (by kernel_rfl) (by simp) ?_
          refine ReadyU.cons (i := 15) rfl (fun K hK => ?_) ReadyU.nil
          simp only [List.getElem_toArray, List.getElem_cons_succ, List.getElem_cons_zero]
          refine ite_is (by rfl) ?_
          simp [go_sem]
          refine (labelsIn_any S3 _ PL (fun c => may P x c && wk PL (may P) r1 c b) HS3.out.symm n12).mono ?_
          rintro e W12 ⟨u, rfl, hu, hb12⟩
          have hg12 := grown_below hb12; clear hb12
          have hs12 := hg12.size
          have HF12 := Lib.hid (HF10.out.still hg12); clear HF10
          have O12 := Lib.hid (OwnI.still O10.out hg12); clear O10
          have U12 := Lib.hid hu; clear hu
          have hS13 : W12.cell? ⟨bo, oo + d, none⟩ = some (.int .i64 x) ∧ W12.cell? ⟨br, or + x, none⟩ = some (.int .i64 S1) ∧ W12.cell? ⟨bv, ov + r1, none⟩ = some (.int .i64 S2) := ⟨(by have h := (O12.out.ints.at_ (j := d) (by omega)).1; rw [HLAST.out] at h; exact h), (by have h := ((IntS.turned R7.out HF12.out (by omega) (by omega)).at_ (j := x) (by rw [aftL_len]; exact hx)).1; rw [nth_aftL _ hx, HS1.out] at h; exact h), (by have h := ((IntS.turned L7.out HF12.out (by omega) (by omega)).at_ (j := r1) (by rw [leftL_len]; omega)).1; rw [nth_leftL _ (by omega), HS2.out] at h; exact h)⟩
          refine hK.out _ _ ⟨fun _ => hS13, ?_⟩
          clear hK K hS11
          try simp only [List.getElem_toArray, List.getElem_cons_succ, List.getElem_cons_zero, Act.put, List.setIfInBounds_toArray, List.set_cons_zero, List.set_cons_succ]
          obtain ⟨Au, cu, rfl, hcu, hdu⟩ := IntS.dims U12.out
          obtain ⟨bu, ou, rfl, _, hbu, xu, _⟩ := U12.out.opened (j := 0) HF3.out
          rw [HF4.out, Nat.add_zero] at xu
          obtain ⟨ul, HUL⟩ : ∃ z, Hid ((ascI PL (fun c => may P x c && wk PL (may P) r1 c b)).length = z) := ⟨_, Lib.hid rfl⟩
          have hul0 : 0 < ul := by rw [← HUL.out]; exact HF3.out
          have hul : (0 : Int) < ul := by omega
          rw [HUL.out] at hcu U12
          try rw [HUL.out]
          refine anyU_take (i := 16) (v := .pointer (some ⟨bu, ou, none⟩)) rfl (by kernel_rfl) (by kernel_rfl) (by kernel_rfl) (fun _ _ _ h => h) ⟨by rfl, fun w' hS' => (by obtain ⟨s1, s2, s3⟩ := hS'; go_simp)⟩ hS13 ?_
          simp only [List.getElem_toArray, List.getElem_cons_succ, List.getElem_cons_zero, Act.put, List.setIfInBounds_toArray, List.set_cons_zero, List.set_cons_succ]
          refine anyU_ready (rs := [17]) (by kernel_rfl) (by simp) ?_
          refine ReadyU.cons (i := 17) rfl (fun K hK => ?_) ReadyU.nil
          simp only [List.getElem_toArray, List.getElem_cons_succ, List.getElem_cons_zero]
          refine ite_is (by rfl) ?_
          simp [go_sem, xu]
          refine hK.out _ _ ⟨fun _ => hS13, ?_⟩
          clear hK K
          try simp only [List.getElem_toArray, List.getElem_cons_succ, List.getElem_cons_zero, Act.put, List.setIfInBounds_toArray, List.set_cons_zero, List.set_cons_succ]
          refine anyU_ready (rs := [18]) (by kernel_rfl) (by simp) ?_
          refine ReadyU.cons (i := 18) rfl (fun K hK => ?_) ReadyU.nil
          simp only [List.getElem_toArray, List.getElem_cons_succ, List.getElem_cons_zero]
          refine ite_is (by rfl) ?_
          simp [go_sem]
          refine hK.out _ _ ⟨fun _ => ⟨(World.cell?_alloc_old _ _ _ (by have := O12.out.lt; have := HF12.out.size; show bo ≠ _; omega)).trans (by have h := (O12.out.ints.at_ (j := d) (by omega)).1; rw [HLAST.out] at h; exact h), (World.cell?_alloc_old _ _ _ (by have := O12.out.lt; have := HF12.out.size; show br ≠ _; omega)).trans (by have h := ((IntS.turned R7.out HF12.out (by omega) (by omega)).at_ (j := x) (by rw [aftL_len]; exact hx)).1; rw [nth_aftL _ hx, HS1.out] at h; exact h), (World.cell?_alloc_old _ _ _ (by have := O12.out.lt; have := HF12.out.size; show bv ≠ _; omega)).trans (by have h := ((IntS.turned L7.out HF12.out (by omega) (by omega)).at_ (j := r1) (by rw [leftL_len]; omega)).1; rw [nth_leftL _ (by omega), HS2.out] at h; exact h)⟩, ?_⟩
          clear hK K xu
          try simp only [List.getElem_toArray, List.getElem_cons_succ, List.getElem_cons_zero, Act.put, List.setIfInBounds_toArray, List.set_cons_zero, List.set_cons_succ]
          refine nameU ?_
          intro W14 HW14
          have hg14 : W12.grownBy W14 none := by rw [HW14.out]; exact grown_alloc _ _
          have BV14 := Lib.hid (show BoxN W14 W12.heap.size #[.int .i64 Y] 3 by rw [HW14.out]; exact BoxN.new _ _ _)
          have hz14 : W12.heap.size < W14.heap.size := BV14.out.lt
          clear HW14
          have hs14 := hg14.size
          have HF14 := Lib.hid (HF12.out.still hg14); clear HF12
          have O14 := Lib.hid (OwnI.still O12.out hg14); clear O12
          have hS15 : W14.cell? ⟨bo, oo + d, none⟩ = some (.int .i64 x) ∧ W14.cell? ⟨br, or + x, none⟩ = some (.int .i64 S1) ∧ W14.cell? ⟨bv, ov + r1, none⟩ = some (.int .i64 S2) := ⟨(by have h := (O14.out.ints.at_ (j := d) (by omega)).1; rw [HLAST.out] at h; exact h), (by have h := ((IntS.turned R7.out HF14.out (by omega) (by omega)).at_ (j := x) (by rw [aftL_len]; exact hx)).1; rw [nth_aftL _ hx, HS1.out] at h; exact h), (by have h := ((IntS.turned L7.out HF14.out (by omega) (by omega)).at_ (j := r1) (by rw [leftL_len]; omega)).1; rw [nth_leftL _ (by omega), HS2.out] at h; exact h)⟩
          clear hS13
          refine anyU_ready (rs := [19]) (by kernel_rfl) (by simp) ?_
          refine ReadyU.cons (i := 19) rfl (fun K hK => ?_) ReadyU.nil
          have LOX := Lib.hid O14.out.lt
          have HOW := Lib.hid (show World.ownsRow W14 W7.heap.size 3 1 (.slice (some ⟨bo, oo, none⟩) D1 co) D1 (T.map (Value.int .i64)) by have h := O14.out; unfold OwnI Own at h; rw [List.length_map, htl] at h; exact h)
          refine step_append_lies W14 (by rfl) _ _ _ (by rfl) W7.heap.size 3 i1 _ 1 _ Try.underlying29 HII.out HI1.out HI2.out HI3.out rfl (by omega) (.slice (some ⟨bo, oo, none⟩) D1 co) D1 (T.map (Value.int .i64)) (by rfl) HOW.out ⟨W12.heap.size, 0, none⟩ 1 1 [.int .i64 Y] (by rfl) (by rfl) (World.news_of_block BV14.out) (by simp [Value.oneCell']) (by omega) (by unfold maxLen; omega) (by omega) (by omega) _ rfl ?_
          intro gp cp W16 hown hg16 hatp hltp
          have hs16 := hg16.size
          have HF16 := Lib.hid (HF14.out.grown hg16 (fun g hg => .inr (by have := LOX.out g (by simpa [Value.ownBlock] using hg); omega))); clear HF14
          have HOO := Lib.hid (own_appY (by rw [htl]; exact hown))
          clear hown LOX HOW
          refine hK.out _ _ ⟨fun h => absurd h (by decide), ?_⟩
          clear hK K
          try simp only [List.getElem_toArray, List.getElem_cons_succ, List.getElem_cons_zero, Act.put, List.setIfInBounds_toArray, List.set_cons_zero, List.set_cons_succ]
          refine anyU_ready (rs := [20]) (by kernel_rfl) (by simp) ?_
          refine ReadyU.cons (i := 20) rfl (fun K hK => ?_) ReadyU.nil
          simp only [List.getElem_toArray, List.getElem_cons_succ, List.getElem_cons_zero]
          refine ite_is (by rfl) ?_
          simp [go_sem]
          refine hK.out _ _ ⟨fun h => absurd h (by decide), ?_⟩
          clear hK K
          try simp only [List.getElem_toArray, List.getElem_cons_succ, List.getElem_cons_zero, Act.put, List.setIfInBounds_toArray, List.set_cons_zero, List.set_cons_succ]
          clear hS15
          refine anyU_done (by kernel_rfl) ?_ _
          go_wp2_with fail
          go_roundw
          case rel => exact ⟨r1, by omega, by go_num, Lib.hid (by rw [← hr1, HNX.out]; exact HOO.out), HF16⟩
          case measure => simp [intOf]; omega

end Go.Proofs.Ytbfjhehhpgcelaa

/- Contract: the lengths of cycles with labelings (program). -/
namespace Go.Proofs.Ytbfjhehhpgcelaa
open Go.ChangeShapes Go.WideShapes Go.ChangeAt Go.RowKit
set_option linter.unusedVariables false

def solvA (n : Nat) (m : Nat → Nat → Bool) (k a : Nat) : Bool := (List.range a).any fun c => wk n m k c c
theorem solvA_succ (n : Nat) (m : Nat → Nat → Bool) (k a : Nat) : solvA n m k (a + 1) = (solvA n m k a || wk n m k a a) := by
  unfold solvA; rw [List.range_succ, List.any_append]; simp
def solvL (n : Nat) (m : Nat → Nat → Bool) : Nat → List Int
  | 0 => []
  | k + 1 => solvL n m k ++ if solvA n m (k + 1) n then [((k + 1 : Nat) : Int)] else []
theorem solvL_succ (n : Nat) (m : Nat → Nat → Bool) (k : Nat) : solvL n m (k + 1) = solvL n m k ++ if solvA n m (k + 1) n then [((k + 1 : Nat) : Int)] else [] := rfl
theorem solvL_len (n : Nat) (m : Nat → Nat → Bool) (k : Nat) : (solvL n m k).length ≤ k := by
  induction k with
  | zero => simp [solvL]
  | succ k ih => unfold solvL; rw [List.length_append]; split <;> simp <;> omega
theorem solvL_mem {n : Nat} {m : Nat → Nat → Bool} {most k : Nat} (h1 : 1 ≤ k) (h2 : k ≤ most) (h : solvA n m k n = true) : (k : Int) ∈ solvL n m most := by
  induction most with
  | zero => omega
  | succ q ih =>
    unfold solvL
    rw [List.mem_append]
    by_cases e : k = q + 1
    · subst e; right; rw [h]; simp
    · exact .inl (ih (by omega))
theorem Try.infoBoolY : (Try.prog.info? 4).map (fun i => (i.zero, i.size, i.bytes)) = some (some (.bool false), 1, 1) := by kernel_rfl
theorem bs_step {n a j most : Nat} {m : Nat → Nat → Bool} {bs : List Bool} (hl : bs.length = most + 1) (hj : j ≤ most) (h : ∀ k, k ≤ most → nthB bs k = solvA n m k (if k < j then a + 1 else a)) {v : Bool} (hv : v = (solvA n m j a || wk n m j a a)) : ∀ k, k ≤ most → nthB (bs.set j v) k = solvA n m k (if k < j + 1 then a + 1 else a) := by
  intro k hk
  rw [nthB_set bs j k v (by omega)]
  by_cases e : k = j
  · subst e; rw [if_pos rfl, if_pos (by omega), solvA_succ, hv]
  · rw [if_neg e, h k hk]
    by_cases e2 : k < j
    · rw [if_pos e2, if_pos (by omega)]
    · rw [if_neg e2, if_neg (by omega)]

set_option maxHeartbeats 4000000 in
set_option maxRecDepth 100000 in
theorem SolvableLengths_any (PL : Nat) (v1 : Value) (P : List (List Int)) (lo1 hi1 : Nat) (most : Nat) (w : World) (h1 : IntSS w lo1 hi1 v1 P) (hh1 : hi1 ≤ w.heap.size) (hg : wkGood (PL : Int) P = true) (hm : most ≤ 60) :
    Calls Try.prog 12 #[.agg #[.int .i64 (PL : Nat), v1], .int .i64 (most : Nat)] w fun e w' => ∃ r, e = .returned (.tuple #[r, .bool true]) ∧ IntS w' w.heap.size w'.heap.size r (solvL PL (may P) most) ∧ Below w.heap.size w w' := by
  have HG := Lib.hid hg
  obtain ⟨n', hn', n1, n12⟩ := good_L hg
  obtain rfl : PL = n' := by omega
  clear hg hn'
  have F1 := Lib.hid h1
  obtain ⟨A1, c1, rfl, hc1, hd1⟩ := h1.dims
  clear h1
  obtain ⟨WA, HWA⟩ : ∃ W, Hid (W = (w.alloc (.cells #[.int .i64 PL, .slice A1 P.length c1] 26))) := ⟨_, Lib.hid rfl⟩
  have hbA : Below w.heap.size w WA := by rw [HWA.out]; exact ((Below.refl _ _).alloc (Nat.le_refl _) _)
  have hsA : w.heap.size + 1 ≤ WA.heap.size := by rw [HWA.out]; simp; try omega
  have bx1 : BoxN WA (w.heap.size) #[.int .i64 PL, .slice A1 P.length c1] 26 := by rw [HWA.out]; exact (BoxN.new' _ _ _ (by simp))
  have G1 := Lib.hid (ISS.below F1.out hbA hh1); clear F1
  go_enter Try.func12, Try.ntmps12
  go_upto_region 1 with (fail)
  rw [← HWA.out]; clear HWA
  have kbx1_0 : WA.cell? ⟨w.heap.size, 0, none⟩ = some (.int .i64 PL) := bx1.cell 0 (by simp)
  have kbx1_1 : WA.cell? ⟨w.heap.size, 1, none⟩ = some (.slice A1 P.length c1) := bx1.cell 1 (by simp)
  go_wp2_with fail
  clear kbx1_0 kbx1_1
  refine (IsWalkProblem_any (PL : Int) _ P _ _ _ G1.out (by omega)).mono ?_
  rintro e W1 ⟨rfl, hb1⟩
  have hg1 := grown_below hb1; clear hb1
  have hs1 := hg1.size
  have HF1 := Lib.hid ((Turned.refl WA.heap.size WA.heap.size WA).still hg1)
  have kbx1_0 : W1.cell? ⟨w.heap.size, 0, none⟩ = some (.int .i64 PL) := (HF1.out.boxN bx1 (by omega)).cell 0 (by simp)
  have kbx1_1 : W1.cell? ⟨w.heap.size, 1, none⟩ = some (.slice A1 P.length c1) := (HF1.out.boxN bx1 (by omega)).cell 1 (by simp)
  have hr0 : inB (most : Int) 0 60 = true := inB_true (by omega) (by omega)
  rw [HG.out]
  go_wp2_with fail
  refine (within_any (most : Int) 0 60 _).mono ?_
  rintro e w' ⟨rfl, rfl⟩
  have P_1 := Lib.hid (ISS.turned G1.out HF1.out (by omega) (by omega)); clear G1
  have bx1_1 := HF1.out.boxN bx1 (by omega); clear bx1
  have hbA1 : Below w.heap.size w W1 := (HF1.out.below_of hbA (by omega) (by omega)); clear hbA HF1
  rw [hr0]
  obtain ⟨M, HM⟩ : ∃ M : Nat, Hid (most + 1 = M) := ⟨_, Lib.hid rfl⟩
  have hM := HM.out
  have hMi : (most : Int) + 1 = (M : Int) := by omega
  have hmk := fun W => run_make_row' (P := Try.prog) 49 4 (.bool false) 1 Try.underlying49 Try.infoBoolY rfl .i64 .i64 M (by omega) (by omega) W
  skip
  go_upto_region 4 with (fail)
  refine nameC ?_
  intro W2 HW2
  have hg2 : W1.grownBy W2 none := by rw [HW2.out]; exact grown_alloc _ _
  have hs2 := hg2.size
  have HF2 := Lib.hid ((Turned.refl W1.heap.size W1.heap.size W1).still hg2)
  have HB := Lib.hid (show BoolS W2 W1.heap.size (W1.heap.size + 1) (.slice (some ⟨W1.heap.size, 0, none⟩) M M) (List.replicate M false) by rw [HW2.out]; exact made_bools _ _ _ rfl (by omega))
  have hzb : W1.heap.size + 1 ≤ W2.heap.size := by rw [HW2.out]; simp
  clear HW2 hmk kbx1_0 kbx1_1
  have kbx1_0 : W2.cell? ⟨w.heap.size, 0, none⟩ = some (.int .i64 PL) := (HF2.out.boxN bx1_1 (by omega)).cell 0 (by simp)
  have kbx1_1 : W2.cell? ⟨w.heap.size, 1, none⟩ = some (.slice A1 P.length c1) := (HF2.out.boxN bx1_1 (by omega)).cell 1 (by simp)
  go_wp2_with fail
  clear kbx1_0 kbx1_1
  go_loopw [25] (fun av wr => ∃ (a : Nat) (bs : List Bool), a ≤ PL ∧ av = .int .i64 a ∧ Hid (bs.length = M) ∧ Hid (BoolS wr W1.heap.size (W1.heap.size + 1) (.slice (some ⟨W1.heap.size, 0, none⟩) M M) bs) ∧ Hid (∀ k, k ≤ most → nthB bs k = solvA PL (may P) k (if k < 0 then a + 1 else a)) ∧ W1.heap.size + 1 ≤ wr.heap.size ∧ Hid (Turned W1.heap.size W1.heap.size W1 wr)) (fun av _ => PL - (intOf av).toNat)
  case atStart => exact ⟨0, _, Nat.zero_le _, rfl, Lib.hid (by simp), HB, Lib.hid (fun k hk => by rw [nthB_replicate _ _ (by omega)]; rfl), hzb, HF2⟩
  case round =>
    clear HF2
    obtain ⟨a, bs, ha, rfl, HBL, HB, HBS, hzb, HF3⟩ := hrel
    have hs3 := HF3.out.size
    obtain ⟨wo, rfl⟩ : ∃ wo : World, wo = wr := ⟨_, rfl⟩
    by_cases hlt : a < PL
    case pos =>
      have kbx1_0 : wo.cell? ⟨w.heap.size, 0, none⟩ = some (.int .i64 PL) := (HF3.out.boxN bx1_1 (by omega)).cell 0 (by simp)
      have kbx1_1 : wo.cell? ⟨w.heap.size, 1, none⟩ = some (.slice A1 P.length c1) := (HF3.out.boxN bx1_1 (by omega)).cell 1 (by simp)
      go_wp2_with fail
      clear kbx1_0 kbx1_1
      refine (reached_any PL _ P _ _ a most _ (ISS.turned P_1.out HF3.out (by omega) (by omega)) (by omega) HG.out hlt (by omega)).mono ?_
      rintro e W4 ⟨u, rfl, hu, hb4⟩
      have hg4 := grown_below hb4; clear hb4
      have hs4 := hg4.size
      have HF4 := Lib.hid (HF3.out.still hg4); clear HF3
      have B4 := Lib.hid (BoolS.still HB.out hg4 (by omega)); clear HB
      have U4 := Lib.hid hu; clear hu
      obtain ⟨Au, cu, rfl, hcu, hdu⟩ := IntS.dims U4.out
      rw [reachL_len, HM.out] at hcu U4
      rw [reachL_len, HM.out]
      go_wp2_with fail
      have hzb2 : W1.heap.size + 1 ≤ W4.heap.size := by omega
      go_loopw [33] (fun jv wr => ∃ (j : Nat) (cs : List Bool), j ≤ M ∧ jv = .int .i64 j ∧ Hid (cs.length = M) ∧ Hid (BoolS wr W1.heap.size (W1.heap.size + 1) (.slice (some ⟨W1.heap.size, 0, none⟩) M M) cs) ∧ Hid (∀ k, k ≤ most → nthB cs k = solvA PL (may P) k (if k < j then a + 1 else a)) ∧ W1.heap.size + 1 ≤ wr.heap.size ∧ Hid (IntS wr wo.heap.size W4.heap.size (.slice Au M cu) (reachL PL (may P) a most)) ∧ W4.heap.size ≤ wr.heap.size ∧ Hid (Turned W1.heap.size W1.heap.size W1 wr)) (fun jv _ => M - (intOf jv).toNat)
      case atStart => exact ⟨0, bs, Nat.zero_le _, rfl, HBL, B4, HBS, hzb2, U4, Nat.le_refl _, HF4⟩
      case round =>
        clear HF4
        obtain ⟨j, cs, hj, rfl, HCL, HC, HCS, hzc, HU, hzu, HF5⟩ := hrel
        have hs5 := HF5.out.size
        by_cases hjl : j < M
        case pos =>
          obtain ⟨y1, y2⟩ := HC.out.at0 (j := j) (by rw [HCL.out]; exact hjl)
          obtain ⟨bu, ou, rfl, _, hbu, xu, _⟩ := HU.out.opened (j := j) (by rw [reachL_len]; omega)
          rw [nth_reachL _ (by omega)] at xu
          have hsl := setOf_12 n12 (wk PL (may P) j a)
          have hbt := setOf_bit (wk PL (may P) j a) hlt
          obtain ⟨S, HS⟩ : ∃ s, Hid (setOf PL (wk PL (may P) j a) = s) := ⟨_, Lib.hid rfl⟩
          rw [HS.out] at xu hsl hbt
          have hbw := bitW S a hsl
          rw [hbt] at hbw
          clear hbt
          have hold := HCS.out j (by omega)
          rw [if_neg (Nat.lt_irrefl j)] at hold
          obtain ⟨b, HBB⟩ : ∃ b, Hid (nthB cs j = b) := ⟨_, Lib.hid rfl⟩
          rw [HBB.out] at y1 hold
          have HOLD := Lib.hid hold
          clear hold
          have hji : (j : Int) < M := by omega
          obtain ⟨c, HCC⟩ : ∃ c, Hid (wk PL (may P) j a a = c) := ⟨_, Lib.hid rfl⟩
          rw [HCC.out] at hbw
          have HV : ∀ v : Bool, v = (b || c) → Hid (∀ k, k ≤ most → nthB (cs.set j v) k = solvA PL (may P) k (if k < j + 1 then a + 1 else a)) := fun v hv => Lib.hid (bs_step (by rw [HCL.out, HM.out]) (by omega) HCS.out (by rw [hv, HOLD.out, HCC.out]))
          have HVH := Lib.hid HV
          clear HV
          cases b with
          | true =>
            clear hbw
            have hs := HC.out.set0 (j := j) (by rw [HCL.out]; exact hjl) true
            have HS2 := Lib.hid hs; clear hs
            go_wp2_with fail
            go_roundw
            case rel => exact ⟨j + 1, _, by omega, by go_num, Lib.hid (by rw [List.length_set]; exact HCL.out), HS2, HVH.out true rfl, by rw [size_setCell]; exact hzc, Lib.hid (IntS.far HU.out (grown_set _ ⟨W1.heap.size, j, none⟩ _) hzu (fun g e => .inl (by cases e; show W1.heap.size < _; omega))), by rw [size_setCell]; exact hzu, Lib.hid (HF5.out.grown (grown_set _ ⟨W1.heap.size, j, none⟩ _) fun g e => .inr (by cases e; exact Nat.le_refl _))⟩
            case measure => simp [intOf]; omega
          | false =>
            cases c with
            | true =>
              have hb' : bits .and .i64 ((S : Int) / 2 ^ a) 1 = 1 := hbw
              clear hbw
              have hs := HC.out.set0 (j := j) (by rw [HCL.out]; exact hjl) true
              have HS2 := Lib.hid hs; clear hs
              go_wp2_with fail
              go_roundw
              case rel => exact ⟨j + 1, _, by omega, by go_num, Lib.hid (by rw [List.length_set]; exact HCL.out), HS2, HVH.out true rfl, by rw [size_setCell]; exact hzc, Lib.hid (IntS.far HU.out (grown_set _ ⟨W1.heap.size, j, none⟩ _) hzu (fun g e => .inl (by cases e; show W1.heap.size < _; omega))), by rw [size_setCell]; exact hzu, Lib.hid (HF5.out.grown (grown_set _ ⟨W1.heap.size, j, none⟩ _) fun g e => .inr (by cases e; exact Nat.le_refl _))⟩
              case measure => simp [intOf]; omega
            | false =>
              have hb' : bits .and .i64 ((S : Int) / 2 ^ a) 1 = 0 := hbw
              clear hbw
              have hs := HC.out.set0 (j := j) (by rw [HCL.out]; exact hjl) false
              have HS2 := Lib.hid hs; clear hs
              go_wp2_with fail
              go_roundw
              case rel => exact ⟨j + 1, _, by omega, by go_num, Lib.hid (by rw [List.length_set]; exact HCL.out), HS2, HVH.out false rfl, by rw [size_setCell]; exact hzc, Lib.hid (IntS.far HU.out (grown_set _ ⟨W1.heap.size, j, none⟩ _) hzu (fun g e => .inl (by cases e; show W1.heap.size < _; omega))), by rw [size_setCell]; exact hzu, Lib.hid (HF5.out.grown (grown_set _ ⟨W1.heap.size, j, none⟩ _) fun g e => .inr (by cases e; exact Nat.le_refl _))⟩
              case measure => simp [intOf]; omega
        obtain rfl : j = M := by omega
        have hji : ¬ (j : Int) < j := by omega
        have HBN := Lib.hid (show ∀ k, k ≤ most → nthB cs k = solvA PL (may P) k (if k < 0 then a + 1 + 1 else a + 1) from fun k hk => by rw [HCS.out k hk, if_pos (by have := HM.out; omega), if_neg (by omega)])
        go_wp2_with fail
        go_roundw
        case rel => exact ⟨a + 1, _, by omega, by go_num, HCL, HC, HBN, hzc, HF5⟩
        case measure => simp [intOf]; omega
    obtain rfl : a = PL := by omega
    have hai : ¬ (a : Int) < a := by omega
    have HBF := Lib.hid (show ∀ k, k ≤ most → nthB bs k = solvA a (may P) k a from fun k hk => by rw [HBS.out k hk, if_neg (by omega)])
    go_wp2_with fail
    skip
    go_loopw [10, 11] (fun vv kv wr => ∃ (k : Nat), 1 ≤ k ∧ k ≤ M ∧ kv = .int .i64 k ∧ Hid (OwnI wr (W1.heap.size + 1) 3 vv (solvL a (may P) (k - 1))) ∧ Hid (BoolS wr W1.heap.size (W1.heap.size + 1) (.slice (some ⟨W1.heap.size, 0, none⟩) M M) bs) ∧ W1.heap.size + 1 ≤ wr.heap.size ∧ Hid (Turned W1.heap.size W1.heap.size W1 wr)) (fun vv kv _ => M - (intOf kv).toNat)
    case atStart => exact ⟨1, Nat.le_refl _, by have := HM.out; omega, rfl, Lib.hid (OwnI.nil _ _ _), HB, hzb, HF3⟩
    case round =>
      clear HF3
      obtain ⟨k, hk1, hk, rfl, HO, HD, hzd, HF7⟩ := hrel
      have hs7 := HF7.out.size
      by_cases hkm : k < M
      case neg =>
        obtain rfl : k = M := by omega
        have hki : ¬ (k : Int) ≤ most := by have := HM.out; omega
        have hkm1 : k - 1 = most := by have := HM.out; omega
        rw [hkm1] at HO
        go_wp2_with fail
        go_ret2
        exact ⟨_, rfl, HO.out.ints.mono (by omega) (Nat.le_refl _), (HF7.out.below_of hbA1 (by omega) (by omega))⟩
      have hki : (k : Int) ≤ most := by have := HM.out; omega
      have hki2 : (k : Int) < M := by omega
      obtain ⟨y1, y2⟩ := HD.out.at0 (j := k) (by rw [HBL.out]; exact hkm)
      rw [HBF.out k (by have := HM.out; omega)] at y1
      have hln := solvL_len a (may P) (k - 1)
      have hsu : solvL a (may P) (k + 1 - 1) = solvL a (may P) (k - 1) ++ if solvA a (may P) k a then [(k : Int)] else [] := by
        rw [show k + 1 - 1 = (k - 1) + 1 by omega, solvL_succ, show k - 1 + 1 = k by omega]
      have HSU := Lib.hid hsu
      clear hsu
      have HLT := Lib.hid HO.out.lt
      obtain ⟨s, HS⟩ : ∃ s, Hid (solvA a (may P) k a = s) := ⟨_, Lib.hid rfl⟩
      rw [HS.out] at y1 HSU
      cases s with
      | false =>
        have HSU2 := Lib.hid (show solvL a (may P) (k + 1 - 1) = solvL a (may P) (k - 1) by rw [HSU.out]; simp)
        go_wp2_with fail
        go_roundw
        case rel => exact ⟨k + 1, by omega, by omega, by go_num, Lib.hid (by rw [HSU2.out]; exact HO.out), HD, hzd, HF7⟩
        case measure => simp [intOf]; omega
      | true =>
        have HSU2 := Lib.hid (show solvL a (may P) (k + 1 - 1) = solvL a (may P) (k - 1) ++ [(k : Int)] by rw [HSU.out]; simp)
        go_wp2_with (at_builtin; refine append_int (s := .tmp 63) Try.underlying29 Try.info3 (by decide) wr rfl _ rfl HO.out k _ rfl (by simp [Act.eval, go_sem]) (by have := HM.out; omega) (by omega) ?_; intro v' w' ho' hg' hat')
        go_roundw
        case rel => exact ⟨k + 1, by omega, by omega, by go_num, Lib.hid (by rw [HSU2.out]; exact ho'), Lib.hid (BoolS.far HD.out hg' (by omega) (fun g e => .inr (HLT.out g e).1)), Nat.le_trans hzd hg'.size, Lib.hid (HF7.out.grown hg' fun g e => .inr (by have := (HLT.out g e).1; omega))⟩
        case measure => simp [intOf]; omega

end Go.Proofs.Ytbfjhehhpgcelaa

/- Contracts: the first labeling of a cycle, the first walk between labels (program). -/
namespace Go.Proofs.Ytbfjhehhpgcelaa
open Go.ChangeShapes Go.WideShapes Go.ChangeAt Go.RowKit
set_option linter.unusedVariables false

def fcOk (L : Int) (P : List (List Int)) (k : Int) : Bool := wkGood L P && (inB k 1 60 && solvA L.toNat (may P) k.toNat L.toNat)
def fcA (L : Int) (P : List (List Int)) (k : Int) : Nat := fstC L.toNat fun a => wk L.toNat (may P) k.toNat a a
def fcL (L : Int) (P : List (List Int)) (k : Int) : List Int := if fcOk L P k then (gw L.toNat (may P) (fcA L P k) k.toNat (fcA L P k)).take k.toNat else []
theorem fcL_no {L : Int} {P : List (List Int)} {k : Int} (h : fcOk L P k = false) : fcL L P k = [] := by unfold fcL; rw [h]; rfl
theorem fcOk_g {L : Int} {P : List (List Int)} {k : Int} (h : wkGood L P = false) : fcOk L P k = false := by unfold fcOk; rw [h]; rfl
theorem fcOk_k {L : Int} {P : List (List Int)} {k : Int} (h : inB k 1 60 = false) : fcOk L P k = false := by unfold fcOk; rw [h]; simp
theorem solvA_none {n k : Nat} {m : Nat → Nat → Bool} (h : ∀ c, c < n → wk n m k c c = false) : solvA n m k n = false := by
  unfold solvA
  cases he : (List.range n).any fun c => wk n m k c c with
  | false => rfl
  | true =>
    obtain ⟨c, h1, h2⟩ := any_iff.1 he
    rw [h c h1] at h2; cases h2
theorem fcOk_none {n k : Nat} {P : List (List Int)} (h : ∀ c, c < n → wk n (may P) k c c = false) : fcOk (n : Int) P (k : Int) = false := by
  unfold fcOk
  rw [Int.toNat_natCast, Int.toNat_natCast, solvA_none h]; simp
theorem fcOk_hit {n k a : Nat} {P : List (List Int)} (hg : wkGood (n : Int) P = true) (hk : inB (k : Int) 1 60 = true) (ha : a < n) (h1 : wk n (may P) k a a = true) (h2 : ∀ c, c < a → wk n (may P) k c c = false) : fcOk (n : Int) P (k : Int) = true ∧ fcL (n : Int) P (k : Int) = (gw n (may P) a k a).take k := by
  have hs : solvA n (may P) k n = true := any_iff.2 ⟨a, ha, h1⟩
  have ho : fcOk (n : Int) P (k : Int) = true := by
    unfold fcOk
    rw [hg, hk, Int.toNat_natCast, Int.toNat_natCast, hs]; rfl
  refine ⟨ho, ?_⟩
  unfold fcL fcA
  rw [if_pos ho, Int.toNat_natCast, Int.toNat_natCast, fstC_is (f := fun c => wk n (may P) k c c) ha h1 h2]
def wbOk (L : Int) (P : List (List Int)) (a b k : Int) : Bool := wkGood L P && ((inB a 0 (L - 1) && inB b 0 (L - 1)) && (inB k 0 199 && wk L.toNat (may P) k.toNat a.toNat b.toNat))
def wbOut (L : Int) (P : List (List Int)) (a b k : Int) : List Int := if wbOk L P a b k then gw L.toNat (may P) b.toNat k.toNat a.toNat else []
theorem wbOut_no {L : Int} {P : List (List Int)} {a b k : Int} (h : wbOk L P a b k = false) : wbOut L P a b k = [] := by unfold wbOut; rw [h]; rfl
theorem wbOk_g {L : Int} {P : List (List Int)} {a b k : Int} (h : wkGood L P = false) : wbOk L P a b k = false := by unfold wbOk; rw [h]; rfl
theorem wbOk_l {L : Int} {P : List (List Int)} {a b k : Int} (h : (inB a 0 (L - 1) && inB b 0 (L - 1)) = false) : wbOk L P a b k = false := by unfold wbOk; rw [h]; simp
theorem wbOk_k {L : Int} {P : List (List Int)} {a b k : Int} (h : inB k 0 199 = false) : wbOk L P a b k = false := by unfold wbOk; rw [h]; simp
theorem wbOk_w {n : Nat} {P : List (List Int)} {a b k : Nat} (hg : wkGood (n : Int) P = true) (ha : a < n) (hb : b < n) (hk : k ≤ 199) : wbOk (n : Int) P (a : Int) (b : Int) (k : Int) = wk n (may P) k a b := by
  unfold wbOk
  rw [hg, inB_true (by omega) (by omega), inB_true (by omega) (by omega), inB_true (by omega) (by omega), Int.toNat_natCast, Int.toNat_natCast, Int.toNat_natCast, Int.toNat_natCast]; simp
theorem wbOut_w {n : Nat} {P : List (List Int)} {a b k : Nat} (hg : wkGood (n : Int) P = true) (ha : a < n) (hb : b < n) (hk : k ≤ 199) : wbOut (n : Int) P (a : Int) (b : Int) (k : Int) = wbL n (may P) a b k := by
  unfold wbOut wbL
  rw [wbOk_w hg ha hb hk]; simp only [Int.toNat_natCast]

set_option maxHeartbeats 4000000 in
set_option maxRecDepth 100000 in
theorem FirstCycleLabeling_impl (PL : Int) (v1 : Value) (P : List (List Int)) (lo1 hi1 : Nat) (k : Int) (w : World) (h1 : IntSS w lo1 hi1 v1 P) (hh1 : hi1 ≤ w.heap.size)  :
    Calls Try.prog 6 #[.agg #[.int .i64 PL, v1], .int .i64 k] w fun e w' => ∃ r, e = .returned (.tuple #[r, .bool (fcOk PL P k)]) ∧ IntS w' w.heap.size w'.heap.size r (fcL PL P k) ∧ Below w.heap.size w w' := by
  have hnn := fun (A : Option Addr) (l c : Nat) (W : World) => run_neq_slice_nil (P := Try.prog) W 29 3 A l c Try.underlying29
  have F1 := Lib.hid h1
  obtain ⟨A1, c1, rfl, hc1, hd1⟩ := h1.dims
  clear h1
  obtain ⟨WA, HWA⟩ : ∃ W, Hid (W = (w.alloc (.cells #[.int .i64 PL, .slice A1 P.length c1] 26))) := ⟨_, Lib.hid rfl⟩
  have hbA : Below w.heap.size w WA := by rw [HWA.out]; exact ((Below.refl _ _).alloc (Nat.le_refl _) _)
  have hsA : w.heap.size + 1 ≤ WA.heap.size := by rw [HWA.out]; simp; try omega
  have bx1 : BoxN WA (w.heap.size) #[.int .i64 PL, .slice A1 P.length c1] 26 := by rw [HWA.out]; exact (BoxN.new' _ _ _ (by simp))
  have G1 := Lib.hid (ISS.below F1.out hbA hh1); clear F1
  go_enter Try.func6, Try.ntmps6
  go_upto_region 1 with (fail)
  rw [← HWA.out]; clear HWA
  have kbx1_0 : WA.cell? ⟨w.heap.size, 0, none⟩ = some (.int .i64 PL) := bx1.cell 0 (by simp)
  have kbx1_1 : WA.cell? ⟨w.heap.size, 1, none⟩ = some (.slice A1 P.length c1) := bx1.cell 1 (by simp)
  go_wp2_with fail
  clear kbx1_0 kbx1_1
  refine (IsWalkProblem_any PL _ P _ _ _ G1.out (by omega)).mono ?_
  rintro e W1 ⟨rfl, hb1⟩
  have hg1 := grown_below hb1; clear hb1
  have hs1 := hg1.size
  have HF1 := Lib.hid ((Turned.refl WA.heap.size WA.heap.size WA).still hg1)
  by_cases hg : wkGood PL P = true
  case neg =>
    have hg' : wkGood PL P = false := by simpa using hg
    rw [hg']
    have HN := Lib.hid (fcOk_g (k := k) hg')
    clear hg hg'
    go_wp2_with fail
    go_ret2
    exact ⟨_, ret_vb HN.out.symm, by rw [fcL_no HN.out]; exact IntS.nil _ _ _, (HF1.out.below_of hbA (by omega) (by omega))⟩
  rw [hg]
  obtain ⟨n, rfl, n1, n12⟩ := good_L hg
  have HG := Lib.hid hg; clear hg
  go_wp2_with fail
  refine (within_any k 1 60 _).mono ?_
  rintro e w' ⟨rfl, rfl⟩
  by_cases hk : inB k 1 60 = true
  case neg =>
    have hk' : inB k 1 60 = false := by simpa using hk
    rw [hk']
    have HN := Lib.hid (fcOk_k (L := n) (P := P) hk')
    clear hk hk'
    go_wp2_with fail
    go_ret2
    exact ⟨_, ret_vb HN.out.symm, by rw [fcL_no HN.out]; exact IntS.nil _ _ _, (HF1.out.below_of hbA (by omega) (by omega))⟩
  rw [hk]
  have HK := Lib.hid hk
  obtain ⟨k1, k60⟩ := inB_le hk
  clear hk
  obtain ⟨q, rfl⟩ : ∃ q : Nat, k = q := ⟨k.toNat, by omega⟩
  have kbx1_0 : W1.cell? ⟨w.heap.size, 0, none⟩ = some (.int .i64 (n : Nat)) := (HF1.out.boxN bx1 (by omega)).cell 0 (by simp)
  have kbx1_1 : W1.cell? ⟨w.heap.size, 1, none⟩ = some (.slice A1 P.length c1) := (HF1.out.boxN bx1 (by omega)).cell 1 (by simp)
  go_wp2_with fail
  clear kbx1_0 kbx1_1
  go_loopw [18] (fun av wr => ∃ (a : Nat), a ≤ n ∧ av = .int .i64 a ∧ Hid (∀ c, c < a → wk n (may P) q c c = false) ∧ Hid (Turned WA.heap.size WA.heap.size WA wr)) (fun av _ => n - (intOf av).toNat)
  case atStart => exact ⟨0, Nat.zero_le _, rfl, Lib.hid (fun c hc => absurd hc (by omega)), HF1⟩
  case round =>
    clear HF1
    obtain ⟨a, ha, rfl, HW, HF2⟩ := hrel
    have hs2 := HF2.out.size
    by_cases hlt : a < n
    case neg =>
      obtain rfl : a = n := by omega
      have hai : ¬ (a : Int) < a := by omega
      have HN := Lib.hid (fcOk_none HW.out)
      go_wp2_with fail
      go_ret2
      exact ⟨_, ret_vb HN.out.symm, by rw [fcL_no HN.out]; exact IntS.nil _ _ _, (HF2.out.below_of hbA (by omega) (by omega))⟩
    have hai : (a : Int) < n := by omega
    have kbx1_0 : wr.cell? ⟨w.heap.size, 0, none⟩ = some (.int .i64 (n : Nat)) := (HF2.out.boxN bx1 (by omega)).cell 0 (by simp)
    have kbx1_1 : wr.cell? ⟨w.heap.size, 1, none⟩ = some (.slice A1 P.length c1) := (HF2.out.boxN bx1 (by omega)).cell 1 (by simp)
    go_wp2_with fail
    clear kbx1_0 kbx1_1
    refine (walkBetween_any n _ P _ _ a a q _ (ISS.turned G1.out HF2.out (by omega) (by omega)) (by omega) HG.out hlt hlt (by omega)).mono ?_
    rintro e W3 ⟨r, rfl, hr, hnil, hb3⟩
    have hg3 := grown_below hb3; clear hb3
    have hs3 := hg3.size
    have HF3 := Lib.hid (HF2.out.still hg3); clear HF2
    have R3 := Lib.hid hr; clear hr
    cases hw : wk n (may P) q a a with
    | false =>
      obtain rfl := hnil hw
      have HWN := Lib.hid (below_succ (p := fun c => wk n (may P) q c c = false) HW.out hw)
      clear hw hnil R3
      go_wp2_with fail
      go_roundw
      case rel => exact ⟨a + 1, by omega, by go_num, HWN, HF3⟩
      case measure => simp [intOf]; omega
    | true =>
      clear hnil
      obtain ⟨f1, f2⟩ := fcOk_hit HG.out HK.out hlt hw HW.out
      have HF1 := Lib.hid f1; have HF2 := Lib.hid f2
      have hwl : wbL n (may P) a a q = gw n (may P) a q a := by unfold wbL; rw [hw]; rfl
      rw [hwl] at R3
      clear f1 f2 hwl hw
      obtain ⟨Ar, cr, rfl, hcr, hdr⟩ := IntS.dims R3.out
      obtain ⟨br, or, rfl, _, hbr, xr, _⟩ := R3.out.opened (j := 0) (by rw [gw_len]; omega)
      have HT := Lib.hid (IntS.take (zs := gw n (may P) a q a) R3.out q (by rw [gw_len]; omega))
      rw [gw_len] at hcr
      rw [gw_len]
      have hq1 : (q : Int) ≤ cr := by omega
      have hq0 : (0 : Int) ≤ (q : Int) := by omega
      clear xr
      go_wp2_with fail
      go_ret2
      exact ⟨_, ret_vb HF1.out.symm, by rw [HF2.out]; exact HT.out.mono (by omega) (by omega), (HF3.out.below_of hbA (by omega) (by omega))⟩

set_option maxHeartbeats 4000000 in
set_option maxRecDepth 100000 in
theorem WalkBetween_impl (PL : Int) (v1 : Value) (P : List (List Int)) (lo1 hi1 : Nat) (a : Int) (b : Int) (k : Int) (w : World) (h1 : IntSS w lo1 hi1 v1 P) (hh1 : hi1 ≤ w.heap.size) (hL0 : -1000 ≤ PL) (hL1 : PL ≤ 1000) :
    Calls Try.prog 15 #[.agg #[.int .i64 PL, v1], .int .i64 a, .int .i64 b, .int .i64 k] w fun e w' => ∃ r, e = .returned (.tuple #[r, .bool (wbOk PL P a b k)]) ∧ IntS w' w.heap.size w'.heap.size r (wbOut PL P a b k) ∧ Below w.heap.size w w' := by
  have hnn := fun (A : Option Addr) (l c : Nat) (W : World) => run_neq_slice_nil (P := Try.prog) W 29 3 A l c Try.underlying29
  have F1 := Lib.hid h1
  obtain ⟨A1, c1, rfl, hc1, hd1⟩ := h1.dims
  clear h1
  obtain ⟨WA, HWA⟩ : ∃ W, Hid (W = (w.alloc (.cells #[.int .i64 PL, .slice A1 P.length c1] 26))) := ⟨_, Lib.hid rfl⟩
  have hbA : Below w.heap.size w WA := by rw [HWA.out]; exact ((Below.refl _ _).alloc (Nat.le_refl _) _)
  have hsA : w.heap.size + 1 ≤ WA.heap.size := by rw [HWA.out]; simp; try omega
  have bx1 : BoxN WA (w.heap.size) #[.int .i64 PL, .slice A1 P.length c1] 26 := by rw [HWA.out]; exact (BoxN.new' _ _ _ (by simp))
  have G1 := Lib.hid (ISS.below F1.out hbA hh1); clear F1
  go_enter Try.func15, Try.ntmps15
  go_upto_region 1 with (fail)
  rw [← HWA.out]; clear HWA
  have kbx1_0 : WA.cell? ⟨w.heap.size, 0, none⟩ = some (.int .i64 PL) := bx1.cell 0 (by simp)
  have kbx1_1 : WA.cell? ⟨w.heap.size, 1, none⟩ = some (.slice A1 P.length c1) := bx1.cell 1 (by simp)
  go_wp2_with fail
  clear kbx1_0 kbx1_1
  refine (IsWalkProblem_any PL _ P _ _ _ G1.out (by omega)).mono ?_
  rintro e W1 ⟨rfl, hb1⟩
  have hg1 := grown_below hb1; clear hb1
  have hs1 := hg1.size
  have HF1 := Lib.hid ((Turned.refl WA.heap.size WA.heap.size WA).still hg1)
  have kbx1_0 : W1.cell? ⟨w.heap.size, 0, none⟩ = some (.int .i64 PL) := (HF1.out.boxN bx1 (by omega)).cell 0 (by simp)
  have kbx1_1 : W1.cell? ⟨w.heap.size, 1, none⟩ = some (.slice A1 P.length c1) := (HF1.out.boxN bx1 (by omega)).cell 1 (by simp)
  by_cases hg : wkGood PL P = true
  case neg =>
    have hg' : wkGood PL P = false := by simpa using hg
    rw [hg']
    have HN := Lib.hid (wbOk_g (a := a) (b := b) (k := k) hg')
    clear hg hg'
    go_wp2_with fail
    go_ret2
    exact ⟨_, ret_vb HN.out.symm, by rw [wbOut_no HN.out]; exact IntS.nil _ _ _, (HF1.out.below_of hbA (by omega) (by omega))⟩
  rw [hg]
  obtain ⟨n, rfl, n1, n12⟩ := good_L hg
  have HG := Lib.hid hg; clear hg
  go_wp2_with fail
  clear kbx1_0 kbx1_1
  refine nameK ?_
  intro W2 HW2
  have hg2 : W1.grownBy W2 none := by rw [HW2.out]; exact grown_alloc _ _
  have hs2 := hg2.size
  have HF2 := Lib.hid (HF1.out.still hg2); clear HF1
  have HI := Lib.hid (show IntS W2 W1.heap.size (W1.heap.size + 1) (.slice (some ⟨W1.heap.size, 0, none⟩) 2 2) [a, b] by rw [HW2.out]; exact IntS.newN W1 [a, b] _ rfl (by simp))
  have hzi : W1.heap.size + 1 ≤ W2.heap.size := by rw [HW2.out]; simp
  clear HW2
  refine (hasLabels_any (n : Int) _ P _ _ _ [a, b] _ _ _ (ISS.turned G1.out HF2.out (by omega) (by omega)) (by omega) HI.out (by omega) (by omega) (by omega)).mono ?_
  rintro e W3 ⟨rfl, hb3⟩
  have hg3 := grown_below hb3; clear hb3
  have hs3 := hg3.size
  have HF3 := Lib.hid (HF2.out.still hg3); clear HF2
  have hal : ([a, b].all fun x => inB x 0 ((n : Int) - 1)) = (inB a 0 ((n : Int) - 1) && inB b 0 ((n : Int) - 1)) := by simp
  rw [hal]
  clear hal HI
  by_cases hl : (inB a 0 ((n : Int) - 1) && inB b 0 ((n : Int) - 1)) = true
  case neg =>
    have hl' : (inB a 0 ((n : Int) - 1) && inB b 0 ((n : Int) - 1)) = false := by simpa using hl
    rw [hl']
    have HN := Lib.hid (wbOk_l (L := n) (P := P) (k := k) hl')
    clear hl hl'
    go_wp2_with fail
    go_ret2
    exact ⟨_, ret_vb HN.out.symm, by rw [wbOut_no HN.out]; exact IntS.nil _ _ _, (HF3.out.below_of hbA (by omega) (by omega))⟩
  rw [hl]
  rw [Bool.and_eq_true] at hl
  obtain ⟨a0, a1⟩ := inB_le hl.1
  obtain ⟨b0, b1⟩ := inB_le hl.2
  clear hl
  obtain ⟨x, rfl⟩ : ∃ x : Nat, a = x := ⟨a.toNat, by omega⟩
  obtain ⟨y, rfl⟩ : ∃ y : Nat, b = y := ⟨b.toNat, by omega⟩
  go_wp2_with fail
  refine (within_any k 0 199 _).mono ?_
  rintro e w' ⟨rfl, rfl⟩
  by_cases hk : inB k 0 199 = true
  case neg =>
    have hk' : inB k 0 199 = false := by simpa using hk
    rw [hk']
    have HN := Lib.hid (wbOk_k (L := n) (P := P) (a := x) (b := y) hk')
    clear hk hk'
    go_wp2_with fail
    go_ret2
    exact ⟨_, ret_vb HN.out.symm, by rw [wbOut_no HN.out]; exact IntS.nil _ _ _, (HF3.out.below_of hbA (by omega) (by omega))⟩
  rw [hk]
  obtain ⟨k1, k60⟩ := inB_le hk
  clear hk
  obtain ⟨q, rfl⟩ : ∃ q : Nat, k = q := ⟨k.toNat, by omega⟩
  have kbx1_0 : W3.cell? ⟨w.heap.size, 0, none⟩ = some (.int .i64 (n : Nat)) := (HF3.out.boxN bx1 (by omega)).cell 0 (by simp)
  have kbx1_1 : W3.cell? ⟨w.heap.size, 1, none⟩ = some (.slice A1 P.length c1) := (HF3.out.boxN bx1 (by omega)).cell 1 (by simp)
  go_wp2_with fail
  clear kbx1_0 kbx1_1
  refine (walkBetween_any n _ P _ _ x y q _ (ISS.turned G1.out HF3.out (by omega) (by omega)) (by omega) HG.out (by omega) (by omega) (by omega)).mono ?_
  rintro e W4 ⟨r, rfl, hr, hnil, hb4⟩
  have hg4 := grown_below hb4; clear hb4
  have hs4 := hg4.size
  have HF4 := Lib.hid (HF3.out.still hg4); clear HF3
  have R4 := Lib.hid hr; clear hr
  have hok := wbOk_w (P := P) (a := x) (b := y) (k := q) HG.out (by omega) (by omega) (by omega)
  have hou := wbOut_w (P := P) (a := x) (b := y) (k := q) HG.out (by omega) (by omega) (by omega)
  have HOK := Lib.hid hok; have HOU := Lib.hid hou
  clear hok hou
  cases hw : wk n (may P) q x y with
  | false =>
    obtain rfl := hnil hw
    rw [hw] at HOK
    clear hnil hw
    go_wp2_with fail
    go_ret2
    exact ⟨_, ret_vb HOK.out.symm, by rw [HOU.out]; exact R4.out.mono (by omega) (Nat.le_refl _), (HF4.out.below_of hbA (by omega) (by omega))⟩
  | true =>
    rw [hw] at HOK
    have hwl : wbL n (may P) x y q = gw n (may P) y q x := by unfold wbL; rw [hw]; rfl
    rw [hwl] at HOU R4
    clear hnil hw hwl
    obtain ⟨Ar, cr, rfl, hcr, hdr⟩ := IntS.dims R4.out
    obtain ⟨br, or, rfl, _, hbr, xr, _⟩ := R4.out.opened (j := 0) (by rw [gw_len]; omega)
    clear xr
    go_wp2_with fail
    go_ret2
    exact ⟨_, ret_vb HOK.out.symm, by rw [HOU.out]; exact R4.out.mono (by omega) (Nat.le_refl _), (HF4.out.below_of hbA (by omega) (by omega))⟩

end Go.Proofs.Ytbfjhehhpgcelaa

/- Contracts: the first walk of a length (reference). -/
namespace Go.Proofs.Ytbfjhehhpgcelaa
open Go.ChangeShapes Go.WideShapes Go.ChangeAt Go.RowKit
set_option linter.unusedVariables false

theorem fstC_min {n j : Nat} {f : Nat → Bool} (hj : j < n) (h : f j = true) : fstC n f ≤ j := by
  induction j using Nat.strongRecOn with
  | _ j ih =>
    by_cases e : ∃ i, i < j ∧ f i = true
    · obtain ⟨i, h1, h2⟩ := e
      have := ih i h1 (by omega) h2
      omega
    · have h0 : ∀ i, i < j → f i = false := fun i hi => by
        cases hf : f i with
        | false => rfl
        | true => exact absurd ⟨i, hi, hf⟩ e
      rw [fstC_is hj h h0]; exact Nat.le_refl _
theorem fstC_lt {n j : Nat} {f : Nat → Bool} {Y : Nat} (hY : fstC n f = Y) (hYn : Y < n) (hj : j < Y) : f j = false := by
  cases hf : f j with
  | false => rfl
  | true => have := fstC_min (f := f) (show j < n by omega) hf; omega

set_option maxHeartbeats 8000000 in
set_option maxRecDepth 100000 in
theorem waBetween_any (PL : Nat) (v1 : Value) (P : List (List Int)) (lo1 hi1 : Nat) (a : Nat) (b : Nat) (k : Nat) (w : World) (h1 : IntSS w lo1 hi1 v1 P) (hh1 : hi1 ≤ w.heap.size) (hg : wkGood (PL : Int) P = true) (ha : a < PL) (hb : b < PL) (hk : k ≤ 199) :
    Calls Try.prog 25 #[.agg #[.int .i64 (PL : Nat), v1], .int .i64 (a : Nat), .int .i64 (b : Nat), .int .i64 (k : Nat)] w fun e w' => ∃ r, e = .returned (.tuple #[r, .bool (wk PL (may P) k a b)]) ∧ IntS w' w.heap.size w'.heap.size r (wbL PL (may P) a b k) ∧ Below w.heap.size w w' := by
  have HG := Lib.hid hg
  obtain ⟨n', hn', n1, n12⟩ := good_L hg
  obtain rfl : PL = n' := by omega
  clear hg hn'
  have F1 := Lib.hid h1
  obtain ⟨A1, c1, rfl, hc1, hd1⟩ := h1.dims
  clear h1
  obtain ⟨WA, HWA⟩ : ∃ W, Hid (W = (w.alloc (.cells #[.int .i64 PL, .slice A1 P.length c1] 26))) := ⟨_, Lib.hid rfl⟩
  have hbA : Below w.heap.size w WA := by rw [HWA.out]; exact ((Below.refl _ _).alloc (Nat.le_refl _) _)
  have hsA : w.heap.size + 1 ≤ WA.heap.size := by rw [HWA.out]; simp; try omega
  have bx1 : BoxN WA (w.heap.size) #[.int .i64 PL, .slice A1 P.length c1] 26 := by rw [HWA.out]; exact (BoxN.new' _ _ _ (by simp))
  have G1 := Lib.hid (ISS.below F1.out hbA hh1); clear F1
  go_enter Try.func25, Try.ntmps25
  go_upto_region 1 with (fail)
  rw [← HWA.out]; clear HWA
  have kbx1_0 : WA.cell? ⟨w.heap.size, 0, none⟩ = some (.int .i64 PL) := bx1.cell 0 (by simp)
  have kbx1_1 : WA.cell? ⟨w.heap.size, 1, none⟩ = some (.slice A1 P.length c1) := bx1.cell 1 (by simp)
  go_wp2_with fail
  clear kbx1_0 kbx1_1
  refine (waPowers_any PL _ P _ _ k _ G1.out (by omega) HG.out (by omega)).mono ?_
  rintro e W1 ⟨pw, rfl, hpw, hb1⟩
  have hg1 := grown_below hb1; clear hb1
  have hs1 := hg1.size
  have HF1 := Lib.hid ((Turned.refl WA.heap.size WA.heap.size WA).still hg1)
  have HPW := Lib.hid hpw; clear hpw
  obtain ⟨Aw, cw, rfl, hcw, hdw⟩ := PwSSx.dims HPW.out
  obtain ⟨bw, ow, u1, rfl, _, hbw, x1, hu1⟩ := PwSSx.openRow HPW.out (j := k) (by rw [powL_len]; omega)
  rw [nthL_powL _ (Nat.le_refl k)] at hu1
  obtain ⟨A1', c1', rfl, hc1', hd1'⟩ := BSSx.dims hu1
  obtain ⟨b2, o2, u2, rfl, _, hb2, x2, hu2⟩ := BSSx.openRow hu1 (j := a) (by rw [relR_len]; exact ha)
  obtain ⟨A2', c2', rfl, hc2', hd2'⟩ := hu2.dims
  obtain ⟨b3, o3, rfl, _, hb3, x3, _⟩ := hu2.opened (j := b) (by rw [relR_row _ ha]; exact hb)
  rw [nthB_relR _ ha hb] at x3
  rw [relR_row _ ha] at x2
  rw [relR_len] at x1
  clear hu1 hu2
  rw [powL_len] at HPW hcw
  rw [powL_len]
  have hki : (k : Int) < ((k + 1 : Nat) : Int) := by omega
  have hai : (a : Int) < PL := by omega
  have hbi : (b : Int) < PL := by omega
  cases hw : wk PL (may P) k a b with
  | false =>
    rw [hw] at x3
    have HWF := Lib.hid hw
    go_wp2_with fail
    go_ret2
    exact ⟨_, ret_vb HWF.out.symm, by rw [show wbL PL (may P) a b k = [] by unfold wbL; rw [HWF.out]; rfl]; exact IntS.nil _ _ _, (HF1.out.below_of hbA (by omega) (by omega))⟩
  | true =>
    rw [hw] at x3
    have HWT := Lib.hid hw
    clear hw
    have kbx1_0 : W1.cell? ⟨w.heap.size, 0, none⟩ = some (.int .i64 PL) := (HF1.out.boxN bx1 (by omega)).cell 0 (by simp)
    have kbx1_1 : W1.cell? ⟨w.heap.size, 1, none⟩ = some (.slice A1 P.length c1) := (HF1.out.boxN bx1 (by omega)).cell 1 (by simp)
    go_wp2_with fail
    clear x1 x2 x3 kbx1_0 kbx1_1
    refine (waMay_any PL _ P _ _ _ (ISS.turned G1.out HF1.out (by omega) (by omega)) (by omega) (good_arcsIn HG.out) n1 n12).mono ?_
    rintro e W2 ⟨m, rfl, hm2, hb2⟩
    have hg2 := grown_below hb2; clear hb2
    have hs2 := hg2.size
    have HF2 := Lib.hid (HF1.out.still hg2); clear HF1
    have PW2 := Lib.hid (PwSSx.still HPW.out hg2 (by omega)); clear HPW
    have M2 := Lib.hid hm2; clear hm2
    obtain ⟨Am, cm, rfl, hcm, hdm⟩ := BSSx.dims M2.out
    obtain ⟨bm, om, _, rfl, _, hbm, _⟩ := BSSx.openRow M2.out (j := a) (by rw [relR_len]; exact ha)
    rw [relR_len] at hcm M2
    rw [relR_len]
    have P_2 := Lib.hid (ISS.turned G1.out HF2.out (by omega) (by omega)); clear G1
    have bx1_2 := HF2.out.boxN bx1 (by omega); clear bx1
    have hbA2 : Below w.heap.size w W2 := (HF2.out.below_of hbA (by omega) (by omega)); clear hbA HF2
    go_upto_region 6 with (fail)
    refine nameC ?_
    intro W3 HW3
    have hg3 : W2.grownBy W3 none := by rw [HW3.out]; exact grown_alloc _ _
    have hs3 := hg3.size
    have HF3 := Lib.hid ((Turned.refl W2.heap.size W2.heap.size W2).still hg3)
    have HO := Lib.hid (show OwnI W3 W2.heap.size 3 (.slice (some ⟨W2.heap.size, 0, none⟩) 1 1) [(a : Int)] by rw [HW3.out]; exact OwnI.one _ _ _ _ rfl (Nat.le_refl _))
    clear HW3
    go_wp2_with fail
    go_loopw [12, 13] (fun vv rv wr => ∃ (r : Nat), r ≤ k ∧ rv = .int .i64 ((r : Int) - 1) ∧ Hid (OwnI wr W2.heap.size 3 vv ((gw PL (may P) b k a).take (k - r + 1))) ∧ Hid (Turned W2.heap.size W2.heap.size W2 wr)) (fun vv rv _ => (intOf rv + 1).toNat)
    case atStart => exact ⟨k, Nat.le_refl _, rfl, Lib.hid (by rw [Nat.sub_self, gw_take1]; exact HO.out), HF3⟩
    case round =>
      clear HF3
      obtain ⟨r, hr, rfl, HO, HF4⟩ := hrel
      have hs4 := HF4.out.size
      obtain ⟨w3, rfl⟩ : ∃ w3 : World, w3 = wr := ⟨_, rfl⟩
      have hgl := gw_len PL (may P) b k a
      by_cases hr0 : r = 0
      case pos =>
        subst hr0
        have htk : (gw PL (may P) b k a).take (k - 0 + 1) = (gw PL (may P) b k a) := List.take_of_length_le (by omega)
        rw [htk] at HO
        go_wp2_with fail
        go_ret2
        exact ⟨_, ret_vb HWT.out.symm, by rw [show wbL PL (may P) a b k = (gw PL (may P) b k a) by unfold wbL; rw [HWT.out]; rfl]; exact HO.out.ints.mono (by omega) (Nat.le_refl _), (HF4.out.below_of hbA2 (by omega) (by omega))⟩
      obtain ⟨x, ex, hx, hwx, hst⟩ := gw_step hb k a ha HWT.out (k - r) (by omega)
      obtain ⟨ey, hmy⟩ := hst (by omega)
      rw [show k - 1 - (k - r) = r - 1 by omega] at ey hmy
      have hri : (r : Int) - 1 = ((r - 1 : Nat) : Int) := by omega
      have hr0i : (0 : Int) ≤ ((r - 1 : Nat) : Int) := by omega
      have htl : ((gw PL (may P) b k a).take (k - r + 1)).length = k - r + 1 := by rw [List.length_take]; omega
      obtain ⟨T, HT⟩ : ∃ T, Hid ((gw PL (may P) b k a).take (k - r + 1) = T) := ⟨_, Lib.hid rfl⟩
      rw [HT.out] at HO htl
      have hlast : nth T (k - r) = (x : Int) := by rw [← HT.out, nth_take (by omega), ex]
      obtain ⟨d, HD⟩ : ∃ d, Hid (k - r = d) := ⟨_, Lib.hid rfl⟩
      rw [HD.out] at htl hlast ey ex
      have hd := HD.out
      obtain ⟨Ao, co, rfl, hco, hdo⟩ := HO.out.ints.dims
      rw [htl] at hco
      obtain ⟨bo, oo, rfl, _, hbo, xo, _⟩ := HO.out.ints.opened (j := d) (by omega)
      rw [hlast] at xo
      rw [htl] at HO
      try rw [htl]
      have hdi : ((d + 1 : Nat) : Int) - 1 = (d : Int) := by omega
      obtain ⟨D1, HD1⟩ : ∃ z, Hid (d + 1 = z) := ⟨_, Lib.hid rfl⟩
      rw [HD1.out] at HO hdi hco htl
      try rw [HD1.out]
      have hd1 := HD1.out
      have hdl : (d : Int) < D1 := by omega
      obtain ⟨r1, HR1⟩ : ∃ z, Hid (r - 1 = z) := ⟨_, Lib.hid rfl⟩
      rw [HR1.out] at hri hr0i ey hmy
      have hr1 := HR1.out
      have hrk : (r1 : Int) < ((k + 1 : Nat) : Int) := by omega
      obtain ⟨c0, e0, hwk⟩ := (wk_left (m := may P) r1 hx hb).1 (by rw [show r1 + 1 = k - (k - r) by omega]; exact hwx)
      obtain ⟨f1, f2, f3, f4⟩ := fstC_of (n := PL) (f := fun c => may P x c && wk PL (may P) r1 c b) ⟨c0, e0, by rw [hwk.1, hwk.2]; rfl⟩
      obtain ⟨Y, HY⟩ : ∃ y, Hid (fstC PL (fun c => may P x c && wk PL (may P) r1 c b) = y) := ⟨_, Lib.hid rfl⟩
      rw [HY.out] at f1 f2 f4 ey
      have HNX := Lib.hid (show (gw PL (may P) b k a).take (k - (r - 1) + 1) = T ++ [(Y : Int)] by rw [← HT.out, show k - (r - 1) + 1 = d + 1 + 1 by omega, gw_take (by omega), ey, show k - r + 1 = d + 1 by omega])
      have HF2 := Lib.hid f2
      have HLT := Lib.hid HO.out.lt
      have hD1b : D1 ≤ 200 := by omega
      clear f2 f3 f4 hwk hmy hwx ex ey hst hlast hd1 hr1 hd
      have hxi : (x : Int) < PL := by omega
      obtain ⟨_, _, um, em, _, _, xm, hum⟩ := BSSx.openRow (BSSx.turned M2.out HF4.out (by omega) (by omega)) (j := x) (by rw [relR_len]; exact hx)
      cases em
      obtain ⟨Au, cu, rfl, hcu, hdu⟩ := hum.dims
      rw [relR_row _ hx] at xm hcu hum
      obtain ⟨bu, ou, rfl, _, hbu, _⟩ := hum.opened (j := 0) (by rw [relR_row _ hx]; omega)
      have HUM := Lib.hid hum; clear hum
      obtain ⟨_, _, up, ep, _, _, xp, hup⟩ := PwSSx.openRow (PwSSx.turned PW2.out HF4.out (by omega) (by omega)) (j := r1) (by rw [powL_len]; omega)
      cases ep
      rw [nthL_powL _ (by omega)] at hup
      obtain ⟨Ap, cp, rfl, hcp, hdp⟩ := BSSx.dims hup
      obtain ⟨bp, op, _, rfl, _, hbp, _⟩ := BSSx.openRow hup (j := 0) (by rw [relR_len]; omega)
      rw [relR_len] at xp hcp hup
      have HUP := Lib.hid hup; clear hup
      go_wp2_with fail
      have kbx1_0 : w3.cell? ⟨w.heap.size, 0, none⟩ = some (.int .i64 PL) := (HF4.out.boxN bx1_2 (by omega)).cell 0 (by simp)
      have kbx1_1 : w3.cell? ⟨w.heap.size, 1, none⟩ = some (.slice A1 P.length c1) := (HF4.out.boxN bx1_2 (by omega)).cell 1 (by simp)
      go_loop [12, 14] (fun yv cv => ∃ (c : Nat), c ≤ Y ∧ yv = .slice (some ⟨bo, oo, none⟩) D1 co ∧ cv = .int .i64 c) (fun yv cv => PL - (intOf cv).toNat)
      case atStart => exact ⟨0, Nat.zero_le _, rfl, rfl⟩
      case round =>
        obtain ⟨c, hc, rfl, rfl⟩ := hrel
        have hcn : c < PL := by omega
        have hci : (c : Int) < PL := by omega
        have xc := (HUM.out.at_ (j := c) (by rw [relR_row _ hx]; exact hcn)).1
        rw [nthB_relR _ hx hcn] at xc
        obtain ⟨_, _, uq, eq_, _, _, xq, huq⟩ := BSSx.openRow HUP.out (j := c) (by rw [relR_len]; exact hcn)
        cases eq_
        obtain ⟨Aq, cq, rfl, hcq, hdq⟩ := huq.dims
        rw [relR_row _ hcn] at xq hcq huq
        obtain ⟨bq, oq, rfl, _, hbq, xb, _⟩ := huq.opened (j := b) (by rw [relR_row _ hcn]; exact hb)
        rw [nthB_relR _ hcn hb] at xb
        clear huq
        obtain ⟨m1, HM1⟩ : ∃ z, Hid (may P x c = z) := ⟨_, Lib.hid rfl⟩
        obtain ⟨m2, HM2⟩ : ∃ z, Hid (wk PL (may P) r1 c b = z) := ⟨_, Lib.hid rfl⟩
        rw [HM1.out] at xc
        rw [HM2.out] at xb
        by_cases hcy : c = Y
        case pos =>
          subst hcy
          have h2 := HF2.out
          rw [Bool.and_eq_true, HM1.out, HM2.out] at h2
          obtain ⟨rfl, rfl⟩ := h2
          go_wp2_with (at_builtin; refine append_int (s := .tmp 69) Try.underlying29 Try.info3 (by decide) w3 rfl _ rfl HO.out c _ rfl (by simp [Act.eval, go_sem]) (by omega) (by omega) ?_; intro v' w' ho' hg' hat')
          go_roundw
          case rel => exact ⟨r1, by have := HR1.out; omega, by go_num, Lib.hid (by rw [← HR1.out, HNX.out]; exact ho'), Lib.hid (HF4.out.grown hg' fun g e => .inr (HLT.out g e).1)⟩
          case measure => simp [intOf]; omega
        have hf := fstC_lt HY.out f1 (show c < Y by omega)
        rw [HM1.out, HM2.out] at hf
        cases m1 with
        | false =>
          go_wp2_with fail
          go_round
          case rel => exact ⟨c + 1, by omega, rfl, by go_num⟩
          case measure => simp [intOf]; omega
        | true =>
          have h2 : m2 = false := by simpa using hf
          subst h2
          go_wp2_with fail
          go_round
          case rel => exact ⟨c + 1, by omega, rfl, by go_num⟩
          case measure => simp [intOf]; omega

end Go.Proofs.Ytbfjhehhpgcelaa

/- Contracts: the first labeling of a cycle, the first walk between labels (reference). -/
namespace Go.Proofs.Ytbfjhehhpgcelaa
open Go.ChangeShapes Go.WideShapes Go.ChangeAt Go.RowKit
set_option linter.unusedVariables false

set_option maxHeartbeats 1000000 in
theorem l1OwnN_any (v : Value) (zs : List Int) (lo hi : Nat) (w : World) (h : IntS w lo hi v zs) (hhi : hi ≤ w.heap.size) (h0 : 0 < zs.length) (hl : zs.length ≤ 1048576) :
    Calls Try.prog 26 #[v] w fun e w' => ∃ r, e = .returned r ∧ IntS w' w.heap.size w'.heap.size r zs ∧ Below w.heap.size w w' := by
  have F := Lib.hid h
  obtain ⟨A, c, rfl, hc, hd⟩ := h.dims
  obtain ⟨b, off, rfl, _, hb, _, _⟩ := h.opened (j := 0) h0
  have HE := Lib.hid (OwnI.empty w w.heap.size 3 rfl (Nat.le_refl _))
  have HC := Lib.hid (show ∀ j, j < zs.length → (w.alloc (.cells #[] 3)).cell? ⟨b, off + j, none⟩ = some (.int .i64 (nth zs j)) from fun j hj => (IntS.at_ (F.out.alloc hhi _) hj).1)
  clear h
  go_enter Try.func26, Try.ntmps26
  go_wp2_with (at_builtin; refine append_ints (s := .tmp 3) Try.underlying29 Try.info3 (by decide) (w.alloc (.cells #[] 3)) rfl (.tmp 4) rfl HE.out rfl (g := b) (off := off) zs rfl rfl HC.out (by simp; omega) (by simp) ?_; intro v1 w1 ho1 hg1; have HO := Lib.hid ho1; have HG1 := Lib.hid hg1; clear ho1 hg1)
  go_ret
  refine ⟨_, rfl, ?_, ?_⟩
  · have := HO.out.ints; simpa using this
  · exact ((Below.refl _ _).alloc (Nat.le_refl _) _).grown HG1.out (by simp) (fun g hg => by have := HE.out.lt g hg; omega)

set_option maxHeartbeats 4000000 in
set_option maxRecDepth 100000 in
theorem FirstCycleLabeling_spec (PL : Int) (v1 : Value) (P : List (List Int)) (lo1 hi1 : Nat) (k : Int) (w : World) (h1 : IntSS w lo1 hi1 v1 P) (hh1 : hi1 ≤ w.heap.size)  :
    Calls Try.prog 7 #[.agg #[.int .i64 PL, v1], .int .i64 k] w fun e w' => ∃ r, e = .returned (.tuple #[r, .bool (fcOk PL P k)]) ∧ IntS w' w.heap.size w'.heap.size r (fcL PL P k) ∧ Below w.heap.size w w' := by
  have F1 := Lib.hid h1
  obtain ⟨A1, c1, rfl, hc1, hd1⟩ := h1.dims
  clear h1
  obtain ⟨WA, HWA⟩ : ∃ W, Hid (W = (w.alloc (.cells #[.int .i64 PL, .slice A1 P.length c1] 26))) := ⟨_, Lib.hid rfl⟩
  have hbA : Below w.heap.size w WA := by rw [HWA.out]; exact ((Below.refl _ _).alloc (Nat.le_refl _) _)
  have hsA : w.heap.size + 1 ≤ WA.heap.size := by rw [HWA.out]; simp; try omega
  have bx1 : BoxN WA (w.heap.size) #[.int .i64 PL, .slice A1 P.length c1] 26 := by rw [HWA.out]; exact (BoxN.new' _ _ _ (by simp))
  have G1 := Lib.hid (ISS.below F1.out hbA hh1); clear F1
  go_enter Try.func7, Try.ntmps7
  go_upto_region 1 with (fail)
  rw [← HWA.out]; clear HWA
  have kbx1_0 : WA.cell? ⟨w.heap.size, 0, none⟩ = some (.int .i64 PL) := bx1.cell 0 (by simp)
  have kbx1_1 : WA.cell? ⟨w.heap.size, 1, none⟩ = some (.slice A1 P.length c1) := bx1.cell 1 (by simp)
  go_wp2_with fail
  clear kbx1_0 kbx1_1
  refine (waGood_any PL _ P _ _ _ G1.out (by omega)).mono ?_
  rintro e W1 ⟨rfl, hb1⟩
  have hg1 := grown_below hb1; clear hb1
  have hs1 := hg1.size
  have HF1 := Lib.hid ((Turned.refl WA.heap.size WA.heap.size WA).still hg1)
  by_cases hg : wkGood PL P = true
  case neg =>
    have hg' : wkGood PL P = false := by simpa using hg
    rw [hg']
    have HN := Lib.hid (fcOk_g (k := k) hg')
    clear hg hg'
    go_wp2_with fail
    go_ret2
    exact ⟨_, ret_vb HN.out.symm, by rw [fcL_no HN.out]; exact IntS.nil _ _ _, (HF1.out.below_of hbA (by omega) (by omega))⟩
  rw [hg]
  obtain ⟨n, rfl, n1, n12⟩ := good_L hg
  have HG := Lib.hid hg; clear hg
  go_wp2_with fail
  refine (l1In_any k 1 60 _).mono ?_
  rintro e w' ⟨rfl, rfl⟩
  by_cases hk : inB k 1 60 = true
  case neg =>
    have hk' : inB k 1 60 = false := by simpa using hk
    rw [hk']
    have HN := Lib.hid (fcOk_k (L := n) (P := P) hk')
    clear hk hk'
    go_wp2_with fail
    go_ret2
    exact ⟨_, ret_vb HN.out.symm, by rw [fcL_no HN.out]; exact IntS.nil _ _ _, (HF1.out.below_of hbA (by omega) (by omega))⟩
  rw [hk]
  have HK := Lib.hid hk
  obtain ⟨k1, k60⟩ := inB_le hk
  clear hk
  obtain ⟨q, rfl⟩ : ∃ q : Nat, k = q := ⟨k.toNat, by omega⟩
  go_wp2_with fail
  go_loopw [6] (fun av wr => ∃ (a : Nat), a ≤ n ∧ av = .int .i64 a ∧ Hid (∀ c, c < a → wk n (may P) q c c = false) ∧ Hid (Turned WA.heap.size WA.heap.size WA wr)) (fun av _ => n - (intOf av).toNat)
  case atStart => exact ⟨0, Nat.zero_le _, rfl, Lib.hid (fun c hc => absurd hc (by omega)), HF1⟩
  case round =>
    clear HF1
    obtain ⟨a, ha, rfl, HW, HF2⟩ := hrel
    have hs2 := HF2.out.size
    have kbx1_0 : wr.cell? ⟨w.heap.size, 0, none⟩ = some (.int .i64 (n : Nat)) := (HF2.out.boxN bx1 (by omega)).cell 0 (by simp)
    have kbx1_1 : wr.cell? ⟨w.heap.size, 1, none⟩ = some (.slice A1 P.length c1) := (HF2.out.boxN bx1 (by omega)).cell 1 (by simp)
    by_cases hlt : a < n
    case neg =>
      obtain rfl : a = n := by omega
      have hai : ¬ (a : Int) < a := by omega
      have HN := Lib.hid (fcOk_none HW.out)
      go_wp2_with fail
      go_ret2
      exact ⟨_, ret_vb HN.out.symm, by rw [fcL_no HN.out]; exact IntS.nil _ _ _, (HF2.out.below_of hbA (by omega) (by omega))⟩
    have hai : (a : Int) < n := by omega
    go_wp2_with fail
    clear kbx1_0 kbx1_1
    refine (waBetween_any n _ P _ _ a a q _ (ISS.turned G1.out HF2.out (by omega) (by omega)) (by omega) HG.out hlt hlt (by omega)).mono ?_
    rintro e W3 ⟨r, rfl, hr, hb3⟩
    have hg3 := grown_below hb3; clear hb3
    have hs3 := hg3.size
    have HF3 := Lib.hid (HF2.out.still hg3); clear HF2
    have R3 := Lib.hid hr; clear hr
    cases hw : wk n (may P) q a a with
    | false =>
      have HWN := Lib.hid (below_succ (p := fun c => wk n (may P) q c c = false) HW.out hw)
      have hwl : wbL n (may P) a a q = [] := by unfold wbL; rw [hw]; rfl
      obtain ⟨Ar, cr, rfl, hcr, hdr⟩ := IntS.dims R3.out
      rw [hwl] at hcr
      rw [hwl]
      clear hw hwl R3
      go_wp2_with fail
      go_roundw
      case rel => exact ⟨a + 1, by omega, by go_num, HWN, HF3⟩
      case measure => simp [intOf]; omega
    | true =>
      obtain ⟨f1, f2⟩ := fcOk_hit HG.out HK.out hlt hw HW.out
      have HF1 := Lib.hid f1; have HF2 := Lib.hid f2
      have hwl : wbL n (may P) a a q = gw n (may P) a q a := by unfold wbL; rw [hw]; rfl
      rw [hwl] at R3
      rw [hwl] at *
      clear f1 f2 hwl hw
      obtain ⟨Ar, cr, rfl, hcr, hdr⟩ := IntS.dims R3.out
      obtain ⟨br, or, rfl, _, hbr, xr, _⟩ := R3.out.opened (j := 0) (by rw [gw_len]; omega)
      have HT := Lib.hid (IntS.take (zs := gw n (may P) a q a) R3.out q (by rw [gw_len]; omega))
      rw [gw_len] at hcr
      rw [gw_len]
      have hq1 : (q : Int) ≤ cr := by omega
      have hq0 : (0 : Int) ≤ (q : Int) := by omega
      have htl : ((gw n (may P) a q a).take q).length = q := by rw [List.length_take, gw_len]; omega
      have HTL := Lib.hid htl
      clear xr htl
      go_wp2_with fail
      refine (l1OwnN_any _ ((gw n (may P) a q a).take q) _ _ _ HT.out (by omega) (by rw [HTL.out]; omega) (by rw [HTL.out]; omega)).mono ?_
      rintro e W4 ⟨r2, rfl, hr2, hb4⟩
      have hg4 := grown_below hb4; clear hb4
      have hs4 := hg4.size
      have HF4 := Lib.hid (HF3.out.still hg4); clear HF3
      have R4 := Lib.hid (IntS.still R3.out hg4 (by omega)); clear R3
      have R24 := Lib.hid hr2; clear hr2
      obtain ⟨Az, cz, rfl, hcz, hdz⟩ := IntS.dims R24.out
      rw [HTL.out] at hcz R24
      rw [HTL.out]
      go_wp2_with fail
      go_ret2
      exact ⟨_, ret_vb HF1.out.symm, by rw [HF2.out]; exact R24.out.mono (by omega) (by omega), (HF4.out.below_of hbA (by omega) (by omega))⟩

set_option maxHeartbeats 4000000 in
set_option maxRecDepth 100000 in
theorem WalkBetween_spec (PL : Int) (v1 : Value) (P : List (List Int)) (lo1 hi1 : Nat) (a : Int) (b : Int) (k : Int) (w : World) (h1 : IntSS w lo1 hi1 v1 P) (hh1 : hi1 ≤ w.heap.size) (hL0 : -1000 ≤ PL) (hL1 : PL ≤ 1000) :
    Calls Try.prog 16 #[.agg #[.int .i64 PL, v1], .int .i64 a, .int .i64 b, .int .i64 k] w fun e w' => ∃ r, e = .returned (.tuple #[r, .bool (wbOk PL P a b k)]) ∧ IntS w' w.heap.size w'.heap.size r (wbOut PL P a b k) ∧ Below w.heap.size w w' := by
  have F1 := Lib.hid h1
  obtain ⟨A1, c1, rfl, hc1, hd1⟩ := h1.dims
  clear h1
  obtain ⟨WA, HWA⟩ : ∃ W, Hid (W = (w.alloc (.cells #[.int .i64 PL, .slice A1 P.length c1] 26))) := ⟨_, Lib.hid rfl⟩
  have hbA : Below w.heap.size w WA := by rw [HWA.out]; exact ((Below.refl _ _).alloc (Nat.le_refl _) _)
  have hsA : w.heap.size + 1 ≤ WA.heap.size := by rw [HWA.out]; simp; try omega
  have bx1 : BoxN WA (w.heap.size) #[.int .i64 PL, .slice A1 P.length c1] 26 := by rw [HWA.out]; exact (BoxN.new' _ _ _ (by simp))
  have G1 := Lib.hid (ISS.below F1.out hbA hh1); clear F1
  go_enter Try.func16, Try.ntmps16
  go_upto_region 1 with (fail)
  rw [← HWA.out]; clear HWA
  have kbx1_0 : WA.cell? ⟨w.heap.size, 0, none⟩ = some (.int .i64 PL) := bx1.cell 0 (by simp)
  have kbx1_1 : WA.cell? ⟨w.heap.size, 1, none⟩ = some (.slice A1 P.length c1) := bx1.cell 1 (by simp)
  go_wp2_with fail
  clear kbx1_0 kbx1_1
  refine (waGood_any PL _ P _ _ _ G1.out (by omega)).mono ?_
  rintro e W1 ⟨rfl, hb1⟩
  have hg1 := grown_below hb1; clear hb1
  have hs1 := hg1.size
  have HF1 := Lib.hid ((Turned.refl WA.heap.size WA.heap.size WA).still hg1)
  have kbx1_0 : W1.cell? ⟨w.heap.size, 0, none⟩ = some (.int .i64 PL) := (HF1.out.boxN bx1 (by omega)).cell 0 (by simp)
  have kbx1_1 : W1.cell? ⟨w.heap.size, 1, none⟩ = some (.slice A1 P.length c1) := (HF1.out.boxN bx1 (by omega)).cell 1 (by simp)
  by_cases hg : wkGood PL P = true
  case neg =>
    have hg' : wkGood PL P = false := by simpa using hg
    rw [hg']
    have HN := Lib.hid (wbOk_g (a := a) (b := b) (k := k) hg')
    clear hg hg'
    go_wp2_with fail
    go_ret2
    exact ⟨_, ret_vb HN.out.symm, by rw [wbOut_no HN.out]; exact IntS.nil _ _ _, (HF1.out.below_of hbA (by omega) (by omega))⟩
  rw [hg]
  obtain ⟨n, rfl, n1, n12⟩ := good_L hg
  have HG := Lib.hid hg; clear hg
  have hwn : IntKind.i64.wrap ((n : Int) - 1) = (n : Int) - 1 := IntWalk.i64_in _ (by omega)
  have kh0 : ∀ q, (W1.alloc (.cells #[.int .i64 a, .int .i64 b] q)).cell? ⟨w.heap.size, 0, none⟩ = some (.int .i64 (n : Nat)) := fun q => ((HF1.out.boxN bx1 (by omega)).still (grown_alloc _ _)).cell 0 (by simp)
  go_wp2_with fail
  clear kbx1_0 kbx1_1 kh0
  refine nameK ?_
  intro W2 HW2
  have hg2 : W1.grownBy W2 none := by rw [HW2.out]; exact grown_alloc _ _
  have hs2 := hg2.size
  have HF2 := Lib.hid (HF1.out.still hg2); clear HF1
  have HI := Lib.hid (show IntS W2 W1.heap.size (W1.heap.size + 1) (.slice (some ⟨W1.heap.size, 0, none⟩) 2 2) [a, b] by rw [HW2.out]; exact IntS.newN W1 [a, b] _ rfl (by simp))
  have hzi : W1.heap.size + 1 ≤ W2.heap.size := by rw [HW2.out]; simp
  clear HW2
  refine (l1All_any _ [a, b] 0 ((n : Int) - 1) _ _ _ HI.out).mono ?_
  rintro e w' ⟨rfl, rfl⟩
  have hal : ([a, b].all fun x => inB x 0 ((n : Int) - 1)) = (inB a 0 ((n : Int) - 1) && inB b 0 ((n : Int) - 1)) := by simp
  rw [hal]
  clear hal HI
  by_cases hl : (inB a 0 ((n : Int) - 1) && inB b 0 ((n : Int) - 1)) = true
  case neg =>
    have hl' : (inB a 0 ((n : Int) - 1) && inB b 0 ((n : Int) - 1)) = false := by simpa using hl
    rw [hl']
    have HN := Lib.hid (wbOk_l (L := n) (P := P) (k := k) hl')
    clear hl hl'
    go_wp2_with fail
    go_ret2
    exact ⟨_, ret_vb HN.out.symm, by rw [wbOut_no HN.out]; exact IntS.nil _ _ _, (HF2.out.below_of hbA (by omega) (by omega))⟩
  rw [hl]
  rw [Bool.and_eq_true] at hl
  obtain ⟨a0, a1⟩ := inB_le hl.1
  obtain ⟨b0, b1⟩ := inB_le hl.2
  clear hl
  obtain ⟨x, rfl⟩ : ∃ x : Nat, a = x := ⟨a.toNat, by omega⟩
  obtain ⟨y, rfl⟩ : ∃ y : Nat, b = y := ⟨b.toNat, by omega⟩
  go_wp2_with fail
  refine (l1In_any k 0 199 _).mono ?_
  rintro e w' ⟨rfl, rfl⟩
  by_cases hk : inB k 0 199 = true
  case neg =>
    have hk' : inB k 0 199 = false := by simpa using hk
    rw [hk']
    have HN := Lib.hid (wbOk_k (L := n) (P := P) (a := x) (b := y) hk')
    clear hk hk'
    go_wp2_with fail
    go_ret2
    exact ⟨_, ret_vb HN.out.symm, by rw [wbOut_no HN.out]; exact IntS.nil _ _ _, (HF2.out.below_of hbA (by omega) (by omega))⟩
  rw [hk]
  obtain ⟨k1, k60⟩ := inB_le hk
  clear hk
  obtain ⟨q, rfl⟩ : ∃ q : Nat, k = q := ⟨k.toNat, by omega⟩
  have kbx1_0 : W2.cell? ⟨w.heap.size, 0, none⟩ = some (.int .i64 (n : Nat)) := (HF2.out.boxN bx1 (by omega)).cell 0 (by simp)
  have kbx1_1 : W2.cell? ⟨w.heap.size, 1, none⟩ = some (.slice A1 P.length c1) := (HF2.out.boxN bx1 (by omega)).cell 1 (by simp)
  go_wp2_with fail
  clear kbx1_0 kbx1_1
  refine (waBetween_any n _ P _ _ x y q _ (ISS.turned G1.out HF2.out (by omega) (by omega)) (by omega) HG.out (by omega) (by omega) (by omega)).mono ?_
  rintro e W3 ⟨r, rfl, hr, hb3⟩
  have hg3 := grown_below hb3; clear hb3
  have hs3 := hg3.size
  have HF3 := Lib.hid (HF2.out.still hg3); clear HF2
  have R3 := Lib.hid hr; clear hr
  have hok := wbOk_w (P := P) (a := x) (b := y) (k := q) HG.out (by omega) (by omega) (by omega)
  have hou := wbOut_w (P := P) (a := x) (b := y) (k := q) HG.out (by omega) (by omega) (by omega)
  have HOK := Lib.hid hok; have HOU := Lib.hid hou
  clear hok hou
  obtain ⟨Ar, cr, rfl, hcr, hdr⟩ := IntS.dims R3.out
  obtain ⟨bw, HBW⟩ : ∃ z, Hid (wk n (may P) q x y = z) := ⟨_, Lib.hid rfl⟩
  obtain ⟨rl, HRL⟩ : ∃ z, Hid ((wbL n (may P) x y q).length = z) := ⟨_, Lib.hid rfl⟩
  rw [HBW.out] at HOK
  rw [HRL.out] at hcr R3
  rw [HBW.out, HRL.out]
  go_wp2_with fail
  go_ret2
  exact ⟨_, ret_vb HOK.out.symm, by rw [HOU.out]; exact R3.out.mono (by omega) (Nat.le_refl _), (HF3.out.below_of hbA (by omega) (by omega))⟩

end Go.Proofs.Ytbfjhehhpgcelaa
