/-
  Several texts in one: CyB, CyI, CyJ, Pow, CyK, Put, CyD, CyC. No condition on any program.
-/
import Derived.Test.YtbfjhehhpgcelaaCvB
import Derived.Laws.AppendOwnNone
import Derived.Test.YtbfjhehhpgcelaaCvA
import Derived.Deep.AppendLies
import Derived.Lib.Hide

/- Contracts: the sets of labels that may follow each label; whether labels are a walk (program). -/
namespace Go.Proofs.Ytbfjhehhpgcelaa
open Go.ChangeShapes Go.WideShapes Go.ChangeAt Go.RowKit
set_option linter.unusedVariables false

def aftL (n : Nat) (m : Nat → Nat → Bool) : List Int := (List.range n).map fun a => ((setOf n (m a) : Nat) : Int)
theorem aftL_len (n : Nat) (m : Nat → Nat → Bool) : (aftL n m).length = n := by simp [aftL]
theorem nth_aftL {n a : Nat} (m : Nat → Nat → Bool) (h : a < n) : nth (aftL n m) a = ((setOf n (m a) : Nat) : Int) := by simp [nth, aftL, h]
theorem aftL_of {n : Nat} {m : Nat → Nat → Bool} {zs : List Int} (hl : zs.length = n) (h : ∀ a, a < n → nth zs a = ((setOf n (m a) : Nat) : Int)) : zs = aftL n m :=
  ext_nth (by rw [hl, aftL_len]) fun j hj => by rw [h j (by omega), nth_aftL m (by omega)]
theorem setOf_12 {n : Nat} (hn : n ≤ 12) (f : Nat → Bool) : setOf n f < 4096 := Nat.lt_of_lt_of_le (setOf_lt n f) (Nat.pow_le_pow_right (by decide : 0 < 2) hn)
theorem orC_i64 (a b : Nat) (ha : a < 4096) (hb : b < 4096) : bits .or .i64 (a : Int) (b : Int) = ((a ||| b : Nat) : Int) := by
  have hx : a ||| b < 2 ^ 12 := Nat.or_lt_two_pow (by omega) (by omega)
  have h1 : (BitVec.ofInt 64 (a : Int)).toNat = a := by
    rw [BitVec.ofInt_natCast, BitVec.toNat_ofNat]; exact Nat.mod_eq_of_lt (by omega)
  have h2 : (BitVec.ofInt 64 (b : Int)).toNat = b := by
    rw [BitVec.ofInt_natCast, BitVec.toNat_ofNat]; exact Nat.mod_eq_of_lt (by omega)
  show IntKind.i64.wrap ((BitVec.ofInt 64 (a : Int) ||| BitVec.ofInt 64 (b : Int)).toNat : Int) = _
  rw [BitVec.toNat_or, h1, h2, IntWalk.i64_in _ (by omega)]
theorem andC2_i64 (a b : Nat) (ha : a < 4096) (hb : b < 4096) : bits .and .i64 (a : Int) (b : Int) = ((a &&& b : Nat) : Int) := by
  have hx : a &&& b < 2 ^ 12 := Nat.and_lt_two_pow _ (by omega)
  have h1 : (BitVec.ofInt 64 (a : Int)).toNat = a := by
    rw [BitVec.ofInt_natCast, BitVec.toNat_ofNat]; exact Nat.mod_eq_of_lt (by omega)
  have h2 : (BitVec.ofInt 64 (b : Int)).toNat = b := by
    rw [BitVec.ofInt_natCast, BitVec.toNat_ofNat]; exact Nat.mod_eq_of_lt (by omega)
  show IntKind.i64.wrap ((BitVec.ofInt 64 (a : Int) &&& BitVec.ofInt 64 (b : Int)).toNat : Int) = _
  rw [BitVec.toNat_and, h1, h2, IntWalk.i64_in _ (by omega)]
theorem orPow (S y : Nat) (hS : S < 4096) (hy : y < 12) : bits .or .i64 (S : Int) (Go.RowKit.wrap64 (2 ^ y)) = ((S ||| 2 ^ y : Nat) : Int) := by
  have hp : 2 ^ y < 4096 := Nat.lt_of_lt_of_le (Nat.pow_lt_pow_right (by decide) hy) (Nat.le_refl _)
  have h1 : Go.RowKit.wrap64 ((2 : Int) ^ y) = ((2 ^ y : Nat) : Int) := by
    rw [show (2 : Int) ^ y = ((2 ^ y : Nat) : Int) by rw [Int.natCast_pow]; rfl]
    generalize 2 ^ y = q at hp
    unfold Go.RowKit.wrap64; omega
  rw [h1, orC_i64 S _ hS hp]
theorem step_set {n x y k : Nat} {P : List (List Int)} {S : Nat} (hS : setOf n (may (P.take k) x) = S) (hx : x < n) (hy : y < n) (hE : nthL P k = [(x : Int), (y : Int)]) : setOf n (fun i => may (P.take k) x i || y == i) = (S ||| 2 ^ y) := by
  rw [← hS, setOf_one hy, setOf_or]
theorem may_at {x y k : Nat} {P : List (List Int)} (hk : k < P.length) (hE : nthL P k = [(x : Int), (y : Int)]) (a b : Nat) : may (P.take (k + 1)) a b = (may (P.take k) a b || (x == a && y == b)) := by
  rw [may_take P hk, hE]; simp [nth]
theorem sets_step {n x y k : Nat} {P : List (List Int)} {zs : List Int} {V : Nat} (hl : zs.length = n) (hx : x < n) (hk : k < P.length) (hE : nthL P k = [(x : Int), (y : Int)]) (h : ∀ a, a < n → nth zs a = ((setOf n (may (P.take k) a) : Nat) : Int)) (hV : setOf n (fun i => may (P.take k) x i || y == i) = V) : ∀ a, a < n → nth (zs.set x (V : Int)) a = ((setOf n (may (P.take (k + 1)) a) : Nat) : Int) := by
  intro a ha
  rw [nth_set _ _ _ _ (by omega)]
  by_cases e : a = x
  · subst e; rw [if_pos rfl, ← hV]; congr 1; exact setOf_congr fun i _ => by rw [may_at hk hE]; simp
  · rw [if_neg e, h a ha]; congr 1; exact setOf_congr fun i _ => by rw [may_at hk hE]; simp [show (x == a) = false by simp; omega]
theorem powW (N i : Nat) : (N : Int) / 2 ^ i = ((N / 2 ^ i : Nat) : Int) := by
  rw [Int.natCast_ediv, Int.natCast_pow]; rfl
theorem andW (m : Nat) (hm : m < 4096) : bits .and .i64 (m : Int) 1 = ((m % 2 : Nat) : Int) := by
  rw [show (1 : Int) = ((1 : Nat) : Int) by rfl, andC2_i64 m 1 hm (by decide), Nat.and_one_is_mod]
theorem bitW (N i : Nat) (hN : N < 4096) : bits .and .i64 ((N : Int) / 2 ^ i) 1 = ((N / 2 ^ i % 2 : Nat) : Int) := by
  rw [powW, andW _ (Nat.lt_of_le_of_lt (Nat.div_le_self _ _) hN)]

set_option maxHeartbeats 2000000 in
set_option maxRecDepth 100000 in
theorem after_any (PL : Nat) (v1 : Value) (P : List (List Int)) (lo1 hi1 : Nat) (w : World) (h1 : IntSS w lo1 hi1 v1 P) (hh1 : hi1 ≤ w.heap.size) (hg : wkGood (PL : Int) P = true) :
    Calls Try.prog 39 #[.agg #[.int .i64 (PL : Nat), v1]] w fun e w' => ∃ r, e = .returned (r) ∧ IntS w' w.heap.size w'.heap.size r (aftL PL (may P)) ∧ Below w.heap.size w w' := by
  have HG := Lib.hid hg
  obtain ⟨n', hn', n1, n12⟩ := good_L hg
  obtain rfl : PL = n' := by omega
  clear hg hn'
  have F1 := Lib.hid h1
  obtain ⟨A1, c1, rfl, hc1, hd1⟩ := h1.dims
  clear h1
  obtain ⟨WA, HWA⟩ : ∃ W, Hid (W = (w.alloc (.cells #[.int .i64 PL, .slice A1 P.length c1] 26))) := ⟨_, Lib.hid rfl⟩
  have hbA : Below w.heap.size w WA := by rw [HWA.out]; exact ((Below.refl _ _).alloc (Nat.le_refl _) _)
  have hsA : w.heap.size + 1 ≤ WA.heap.size := by rw [HWA.out]; simp; try omega
  have bx1 : BoxN WA (w.heap.size) #[.int .i64 PL, .slice A1 P.length c1] 26 := by rw [HWA.out]; exact (BoxN.new' _ _ _ (by simp))
  have G1 := Lib.hid (ISS.below F1.out hbA hh1); clear F1
  go_enter Try.func39, Try.ntmps39
  go_upto_region 1 with (fail)
  rw [← HWA.out]; clear HWA
  have kbx1_0 : WA.cell? ⟨w.heap.size, 0, none⟩ = some (.int .i64 PL) := bx1.cell 0 (by simp)
  have kbx1_1 : WA.cell? ⟨w.heap.size, 1, none⟩ = some (.slice A1 P.length c1) := bx1.cell 1 (by simp)
  have hmk := fun W => run_make_row' (P := Try.prog) 29 3 (.int .i64 0) 8 Try.underlying29 Try.info3 rfl .i64 .i64 PL (by omega) (by omega) W
  go_upto_region 2 with (fail)
  refine nameC ?_
  intro W1 HW1
  have hg1 : WA.grownBy W1 none := by rw [HW1.out]; exact grown_alloc _ _
  have hs1 := hg1.size
  have HF1 := Lib.hid ((Turned.refl WA.heap.size WA.heap.size WA).still hg1)
  have HO := Lib.hid (show IntS W1 WA.heap.size (WA.heap.size + 1) (.slice (some ⟨WA.heap.size, 0, none⟩) PL PL) (List.replicate PL 0) by rw [HW1.out]; exact made_ints _ _ _ rfl (by omega))
  have hz : WA.heap.size + 1 ≤ W1.heap.size := by rw [HW1.out]; simp
  clear HW1 hmk kbx1_0 kbx1_1
  have kbx1_0 : W1.cell? ⟨w.heap.size, 0, none⟩ = some (.int .i64 PL) := (HF1.out.boxN bx1 (by omega)).cell 0 (by simp)
  have kbx1_1 : W1.cell? ⟨w.heap.size, 1, none⟩ = some (.slice A1 P.length c1) := (HF1.out.boxN bx1 (by omega)).cell 1 (by simp)
  go_wp2_with fail
  clear kbx1_0 kbx1_1
  go_loopw [12] (fun iv wr => ∃ (k : Nat) (zs : List Int), k ≤ P.length ∧ iv = .int .i64 k ∧ Hid (IntS wr WA.heap.size (WA.heap.size + 1) (.slice (some ⟨WA.heap.size, 0, none⟩) PL PL) zs) ∧ Hid (zs.length = PL) ∧ Hid (∀ a, a < PL → nth zs a = ((setOf PL (may (P.take k) a) : Nat) : Int)) ∧ WA.heap.size + 1 ≤ wr.heap.size ∧ Hid (Turned WA.heap.size WA.heap.size WA wr)) (fun iv _ => P.length - (intOf iv).toNat)
  case atStart => exact ⟨0, List.replicate PL 0, Nat.zero_le _, rfl, HO, Lib.hid (by simp), Lib.hid fun a ha => by rw [nth_replicate _ _ ha, setOf_congr (g := fun _ => false) (fun i _ => may_zero P a i), setOf_none]; rfl, hz, HF1⟩
  case round =>
    clear HF1
    obtain ⟨k, zs, hk, rfl, HO, HL, HZ, hz, HF2⟩ := hrel
    have hs2 := HF2.out.size
    by_cases hlt : k < P.length
    case neg =>
      go_wp2_with fail
      go_ret
      refine ⟨_, rfl, ?_, (HF2.out.below_of hbA (by omega) (by omega))⟩
      rw [← aftL_of HL.out fun a ha => by rw [HZ.out a ha, may_full (by omega)]]
      exact HO.out.mono (by omega) hz
    obtain ⟨br, or, ur, rfl, _, hbr, zr, hur⟩ := SS.opened G1.out hlt
    replace zr := (HF2.out.cell (by omega) (by omega)).trans zr
    obtain ⟨Ar, cr, rfl, hcr, hdr⟩ := hur.dims
    have Ur := Lib.hid hur; clear hur
    obtain ⟨hl2, x, y, exy, hx, hy⟩ := good_arc HG.out hlt
    rw [Int.toNat_natCast] at hx hy
    have HE := Lib.hid exy
    rw [exy] at hcr Ur zr
    clear hl2 exy
    obtain ⟨b0, o0, rfl, _, hb0', x0, _⟩ := (IntS.turned Ur.out HF2.out (by omega) (by omega)).opened (j := 0) (zs := [(x : Int), (y : Int)]) (Nat.succ_pos _)
    have x1 := ((IntS.turned Ur.out HF2.out (by omega) (by omega)).at_ (j := 1) (zs := [(x : Int), (y : Int)]) (Nat.succ_lt_succ (Nat.succ_pos _))).1
    simp only [nth, List.getD_cons_zero, List.getD_cons_succ, Nat.add_zero] at x0 x1
    obtain ⟨y1, y2⟩ := HO.out.at0 (j := x) (by rw [HL.out]; exact hx)
    rw [HZ.out x hx] at y1
    have hsl := setOf_12 n12 (may (P.take k) x)
    obtain ⟨S, HS⟩ : ∃ s, Hid (setOf PL (may (P.take k) x) = s) := ⟨_, Lib.hid rfl⟩
    rw [HS.out] at y1 hsl
    have hor := orPow S y hsl (by omega)
    have hnew := step_set HS.out hx hy HE.out
    have HNEW := Lib.hid hnew; clear hnew
    obtain ⟨V, HV⟩ : ∃ s, Hid ((S ||| 2 ^ y : Nat) = s) := ⟨_, Lib.hid rfl⟩
    rw [HV.out] at hor
    have hs := IntS.still (HO.out.set0 (j := x) (by rw [HL.out]; exact hx) (V : Int)) (grown_drew _) (by rw [size_setCell]; omega)
    have HS2 := Lib.hid hs; clear hs
    go_wp2_with fail
    go_region
    go_wp2_with fail
    go_roundw
    case rel => exact ⟨k + 1, _, by omega, by go_num, HS2, Lib.hid (by rw [List.length_set]; exact HL.out), Lib.hid (sets_step HL.out hx hlt HE.out HZ.out (by rw [← HV.out]; exact HNEW.out)), by show _ ≤ (wr.setCell _ _).heap.size; rw [size_setCell]; exact hz, Lib.hid (HF2.out.grown (grownBy_trans (grown_set _ ⟨WA.heap.size, x, none⟩ _) (grown_any (grown_drew _))) fun g hg => .inr (by cases hg; exact Nat.le_refl _))⟩
    case measure => simp [intOf]; omega

def inL (n : Nat) (zs : List Int) : Prop := ∀ j, j < zs.length → ∃ x : Nat, nth zs j = x ∧ x < n
def walkB (m : Nat → Nat → Bool) (zs : List Int) : Bool := (List.range (zs.length - 1)).all fun j => m (nth zs j).toNat (nth zs (j + 1)).toNat

set_option maxHeartbeats 2000000 in
set_option maxRecDepth 100000 in
theorem isWalk_any (PL : Nat) (v1 : Value) (P : List (List Int)) (lo1 hi1 : Nat) (v2 : Value) (Z : List Int) (lo2 hi2 : Nat) (w : World) (h1 : IntSS w lo1 hi1 v1 P) (hh1 : hi1 ≤ w.heap.size) (h2 : IntS w lo2 hi2 v2 Z) (hh2 : hi2 ≤ w.heap.size) (hg : wkGood (PL : Int) P = true) (hz : inL PL Z) (hp : 0 < Z.length) :
    Calls Try.prog 29 #[.agg #[.int .i64 (PL : Nat), v1], v2] w fun e w' => e = .returned (.bool (walkB (may P) Z)) ∧ Below w.heap.size w w' := by
  have HG := Lib.hid hg
  obtain ⟨n', hn', n1, n12⟩ := good_L hg
  obtain rfl : PL = n' := by omega
  have HZ := Lib.hid hz
  clear hg hn' hz
  have F1 := Lib.hid h1
  obtain ⟨A1, c1, rfl, hc1, hd1⟩ := h1.dims
  clear h1
  have F2 := Lib.hid h2
  obtain ⟨A2, c2, rfl, hc2, hd2⟩ := h2.dims
  clear h2
  obtain ⟨WA, HWA⟩ : ∃ W, Hid (W = (w.alloc (.cells #[.int .i64 PL, .slice A1 P.length c1] 26))) := ⟨_, Lib.hid rfl⟩
  have hbA : Below w.heap.size w WA := by rw [HWA.out]; exact ((Below.refl _ _).alloc (Nat.le_refl _) _)
  have hsA : w.heap.size + 1 ≤ WA.heap.size := by rw [HWA.out]; simp; try omega
  have bx1 : BoxN WA (w.heap.size) #[.int .i64 PL, .slice A1 P.length c1] 26 := by rw [HWA.out]; exact (BoxN.new' _ _ _ (by simp))
  have G1 := Lib.hid (ISS.below F1.out hbA hh1); clear F1
  have G2 := Lib.hid (IntS.below F2.out hbA hh2); clear F2
  go_enter Try.func29, Try.ntmps29
  go_upto_region 1 with (fail)
  rw [← HWA.out]; clear HWA
  have kbx1_0 : WA.cell? ⟨w.heap.size, 0, none⟩ = some (.int .i64 PL) := bx1.cell 0 (by simp)
  have kbx1_1 : WA.cell? ⟨w.heap.size, 1, none⟩ = some (.slice A1 P.length c1) := bx1.cell 1 (by simp)
  go_wp2_with fail
  clear kbx1_0 kbx1_1
  refine (after_any PL _ P _ _ _ G1.out (by omega) HG.out).mono ?_
  rintro e W1 ⟨r, rfl, hr, hb1⟩
  have hg1 := grown_below hb1; clear hb1
  have hs1 := hg1.size
  have HF1 := Lib.hid ((Turned.refl WA.heap.size WA.heap.size WA).still hg1)
  have R1 := Lib.hid hr; clear hr
  obtain ⟨Ar, cr, rfl, hcr, hdr⟩ := IntS.dims R1.out
  rw [aftL_len] at hcr R1
  rw [aftL_len]
  go_wp2_with fail
  have P_1 := Lib.hid (ISS.turned G1.out HF1.out (by omega) (by omega)); clear G1
  have Z_1 := Lib.hid (IntS.turned G2.out HF1.out (by omega) (by omega)); clear G2
  have bx1_1 := HF1.out.boxN bx1 (by omega); clear bx1
  have hbA1 : Below w.heap.size w W1 := (HF1.out.below_of hbA (by omega) (by omega)); clear hbA HF1
  go_loopw [6] (fun iv wr => ∃ (k : Nat), 1 ≤ k ∧ k ≤ Z.length ∧ iv = .int .i64 k ∧ Hid (∀ j, j < k - 1 → may P (nth Z j).toNat (nth Z (j + 1)).toNat = true) ∧ Hid (Turned W1.heap.size W1.heap.size W1 wr)) (fun iv _ => Z.length - (intOf iv).toNat)
  case atStart => exact ⟨1, Nat.le_refl _, hp, rfl, Lib.hid (fun j hj => absurd hj (by omega)), Lib.hid (Turned.refl W1.heap.size W1.heap.size W1)⟩
  case round =>
    obtain ⟨k, hk1, hk, rfl, HW, HF2⟩ := hrel
    have hs2 := HF2.out.size
    by_cases hlt : k < Z.length
    case neg =>
      go_wp2_with fail
      go_ret
      exact ⟨ret_bool (rangeAll_true fun j hj => HW.out j (by omega)).symm, (HF2.out.below_of hbA1 (by omega) (by omega))⟩
    obtain ⟨x, ex, hx⟩ := HZ.out (k - 1) (by omega)
    obtain ⟨y, ey, hy⟩ := HZ.out k hlt
    have hki : (k : Int) - 1 = ((k - 1 : Nat) : Int) := by omega
    obtain ⟨ba, oa, rfl, _, hba', xa, _⟩ := (IntS.turned Z_1.out HF2.out (by omega) (by omega)).opened (j := k - 1) (by omega)
    have xb := ((IntS.turned Z_1.out HF2.out (by omega) (by omega)).at_ hlt).1
    obtain ⟨bc, oc, rfl, _, hbc', xc, _⟩ := (IntS.turned R1.out HF2.out (by omega) (by omega)).opened (j := x) (by rw [aftL_len]; exact hx)
    rw [nth_aftL _ hx] at xc
    rw [ex] at xa
    rw [ey] at xb
    have hsl := setOf_12 n12 (may P x)
    have hbt := setOf_bit (may P x) hy
    obtain ⟨S, HS⟩ : ∃ s, Hid (setOf PL (may P x) = s) := ⟨_, Lib.hid rfl⟩
    rw [HS.out] at xc hsl hbt
    have hbw := bitW S y hsl
    rw [hbt] at hbw
    have HM := Lib.hid (show may P (nth Z (k - 1)).toNat (nth Z (k - 1 + 1)).toNat = may P x y by rw [show k - 1 + 1 = k by omega, ex, ey, Int.toNat_natCast, Int.toNat_natCast])
    clear hbt ex ey
    have hxi : (x : Int) < PL := by omega
    cases hm : may P x y with
    | false =>
      rw [hm] at hbw HM
      have hbw' : bits .and .i64 ((S : Int) / 2 ^ y) 1 = 0 := hbw
      clear hbw hm
      go_wp2_with fail
      go_quiet (fail)
      go_wp2_with fail
      go_ret
      exact ⟨ret_bool (rangeAll_false (k := k - 1) (by omega) HM.out).symm, below_drewN (HF2.out.below_of hbA1 (by omega) (by omega)) _⟩
    | true =>
      rw [hm] at hbw HM
      have hbw' : bits .and .i64 ((S : Int) / 2 ^ y) 1 = 1 := hbw
      clear hbw hm
      go_wp2_with fail
      go_quiet (fail)
      go_wp2_with fail
      go_roundw
      case rel => exact ⟨k + 1, by omega, by omega, by go_num, Lib.hid (fun j hj => if h : j < k - 1 then HW.out j h else (show j = k - 1 by omega) ▸ HM.out), Lib.hid (HF2.out.still (grown_drewN _ _))⟩
      case measure => simp [intOf]; omega

theorem inL_all {n : Nat} {zs : List Int} (h : inL n zs) : (zs.all fun x => inB x 0 ((n : Int) - 1)) = true :=
  all_nth.2 fun k hk => by
    obtain ⟨x, e, hx⟩ := h k hk
    rw [e]; exact inB_true (by omega) (by omega)
set_option maxHeartbeats 1000000 in
set_option maxRecDepth 100000 in
theorem areWalkLabels_any (PL : Nat) (v1 : Value) (P : List (List Int)) (lo1 hi1 : Nat) (v2 : Value) (Z : List Int) (lo2 hi2 : Nat) (w : World) (h1 : IntSS w lo1 hi1 v1 P) (hh1 : hi1 ≤ w.heap.size) (h2 : IntS w lo2 hi2 v2 Z) (hh2 : hi2 ≤ w.heap.size) (hg : wkGood (PL : Int) P = true) (hz : inL PL Z) (hp : 0 < Z.length) (hp2 : Z.length ≤ 200) :
    Calls Try.prog 28 #[.agg #[.int .i64 (PL : Nat), v1], v2] w fun e w' => e = .returned (.bool true) ∧ Below w.heap.size w w' := by
  have HG := Lib.hid hg
  obtain ⟨n', hn', n1, n12⟩ := good_L hg
  obtain rfl : PL = n' := by omega
  have HZ := Lib.hid hz
  clear hg hn' hz
  have F1 := Lib.hid h1
  obtain ⟨A1, c1, rfl, hc1, hd1⟩ := h1.dims
  clear h1
  have F2 := Lib.hid h2
  obtain ⟨A2, c2, rfl, hc2, hd2⟩ := h2.dims
  clear h2
  obtain ⟨WA, HWA⟩ : ∃ W, Hid (W = (w.alloc (.cells #[.int .i64 PL, .slice A1 P.length c1] 26))) := ⟨_, Lib.hid rfl⟩
  have hbA : Below w.heap.size w WA := by rw [HWA.out]; exact ((Below.refl _ _).alloc (Nat.le_refl _) _)
  have hsA : w.heap.size + 1 ≤ WA.heap.size := by rw [HWA.out]; simp; try omega
  have bx1 : BoxN WA (w.heap.size) #[.int .i64 PL, .slice A1 P.length c1] 26 := by rw [HWA.out]; exact (BoxN.new' _ _ _ (by simp))
  have G1 := Lib.hid (ISS.below F1.out hbA hh1); clear F1
  have G2 := Lib.hid (IntS.below F2.out hbA hh2); clear F2
  go_enter Try.func28, Try.ntmps28
  go_upto_region 1 with (fail)
  rw [← HWA.out]; clear HWA
  have kbx1_0 : WA.cell? ⟨w.heap.size, 0, none⟩ = some (.int .i64 PL) := bx1.cell 0 (by simp)
  have kbx1_1 : WA.cell? ⟨w.heap.size, 1, none⟩ = some (.slice A1 P.length c1) := bx1.cell 1 (by simp)
  have hr : inB (Z.length : Int) 1 200 = true := inB_true (by omega) (by omega)
  go_wp2_with fail
  refine (within_any (Z.length : Int) 1 200 _).mono ?_
  rintro e w' ⟨rfl, rfl⟩
  rw [hr]
  go_wp2_with fail
  refine (hasLabels_any (PL : Int) _ P _ _ _ Z _ _ _ G1.out (by omega) G2.out (by omega) (by omega) (by omega)).mono ?_
  rintro e W1 ⟨rfl, hb1⟩
  have hg1 := grown_below hb1; clear hb1
  have hs1 := hg1.size
  have HF1 := Lib.hid ((Turned.refl WA.heap.size WA.heap.size WA).still hg1)
  rw [inL_all HZ.out]
  go_wp2_with fail
  go_ret
  exact ⟨rfl, (HF1.out.below_of hbA (by omega) (by omega))⟩

set_option maxHeartbeats 1000000 in
set_option maxRecDepth 100000 in
theorem IsPathLabeling_any (PL : Nat) (v1 : Value) (P : List (List Int)) (lo1 hi1 : Nat) (v2 : Value) (Z : List Int) (lo2 hi2 : Nat) (w : World) (h1 : IntSS w lo1 hi1 v1 P) (hh1 : hi1 ≤ w.heap.size) (h2 : IntS w lo2 hi2 v2 Z) (hh2 : hi2 ≤ w.heap.size) (hg : wkGood (PL : Int) P = true) (hz : inL PL Z) (hp : 0 < Z.length) (hp2 : Z.length ≤ 200) :
    Calls Try.prog 17 #[.agg #[.int .i64 (PL : Nat), v1], v2] w fun e w' => e = .returned (.tuple #[.bool (walkB (may P) Z), .bool true]) ∧ Below w.heap.size w w' := by
  have HG := Lib.hid hg
  obtain ⟨n', hn', n1, n12⟩ := good_L hg
  obtain rfl : PL = n' := by omega
  have HZ := Lib.hid hz
  clear hg hn' hz
  have F1 := Lib.hid h1
  obtain ⟨A1, c1, rfl, hc1, hd1⟩ := h1.dims
  clear h1
  have F2 := Lib.hid h2
  obtain ⟨A2, c2, rfl, hc2, hd2⟩ := h2.dims
  clear h2
  obtain ⟨WA, HWA⟩ : ∃ W, Hid (W = (w.alloc (.cells #[.int .i64 PL, .slice A1 P.length c1] 26))) := ⟨_, Lib.hid rfl⟩
  have hbA : Below w.heap.size w WA := by rw [HWA.out]; exact ((Below.refl _ _).alloc (Nat.le_refl _) _)
  have hsA : w.heap.size + 1 ≤ WA.heap.size := by rw [HWA.out]; simp; try omega
  have bx1 : BoxN WA (w.heap.size) #[.int .i64 PL, .slice A1 P.length c1] 26 := by rw [HWA.out]; exact (BoxN.new' _ _ _ (by simp))
  have G1 := Lib.hid (ISS.below F1.out hbA hh1); clear F1
  have G2 := Lib.hid (IntS.below F2.out hbA hh2); clear F2
  go_enter Try.func17, Try.ntmps17
  go_upto_region 1 with (fail)
  rw [← HWA.out]; clear HWA
  have kbx1_0 : WA.cell? ⟨w.heap.size, 0, none⟩ = some (.int .i64 PL) := bx1.cell 0 (by simp)
  have kbx1_1 : WA.cell? ⟨w.heap.size, 1, none⟩ = some (.slice A1 P.length c1) := bx1.cell 1 (by simp)
  go_wp2_with fail
  clear kbx1_0 kbx1_1
  refine (IsWalkProblem_any (PL : Int) _ P _ _ _ G1.out (by omega)).mono ?_
  rintro e W1 ⟨rfl, hb1⟩
  have hg1 := grown_below hb1; clear hb1
  have hs1 := hg1.size
  have HF1 := Lib.hid ((Turned.refl WA.heap.size WA.heap.size WA).still hg1)
  have kbx1_0 : W1.cell? ⟨w.heap.size, 0, none⟩ = some (.int .i64 PL) := (HF1.out.boxN bx1 (by omega)).cell 0 (by simp)
  have kbx1_1 : W1.cell? ⟨w.heap.size, 1, none⟩ = some (.slice A1 P.length c1) := (HF1.out.boxN bx1 (by omega)).cell 1 (by simp)
  rw [HG.out]
  go_wp2_with fail
  clear kbx1_0 kbx1_1
  refine (areWalkLabels_any PL _ P _ _ _ Z _ _ _ (ISS.turned G1.out HF1.out (by omega) (by omega)) (by omega) (IntS.turned G2.out HF1.out (by omega) (by omega)) (by omega) HG.out HZ.out hp hp2).mono ?_
  rintro e W2 ⟨rfl, hb2⟩
  have hg2 := grown_below hb2; clear hb2
  have hs2 := hg2.size
  have HF2 := Lib.hid (HF1.out.still hg2); clear HF1
  have kbx1_0 : W2.cell? ⟨w.heap.size, 0, none⟩ = some (.int .i64 PL) := (HF2.out.boxN bx1 (by omega)).cell 0 (by simp)
  have kbx1_1 : W2.cell? ⟨w.heap.size, 1, none⟩ = some (.slice A1 P.length c1) := (HF2.out.boxN bx1 (by omega)).cell 1 (by simp)
  go_wp2_with fail
  clear kbx1_0 kbx1_1
  refine (isWalk_any PL _ P _ _ _ Z _ _ _ (ISS.turned G1.out HF2.out (by omega) (by omega)) (by omega) (IntS.turned G2.out HF2.out (by omega) (by omega)) (by omega) HG.out HZ.out hp).mono ?_
  rintro e W3 ⟨rfl, hb3⟩
  have hg3 := grown_below hb3; clear hb3
  have hs3 := hg3.size
  have HF3 := Lib.hid (HF2.out.still hg3); clear HF2
  go_wp2_with fail
  go_ret2
  exact ⟨rfl, (HF3.out.below_of hbA (by omega) (by omega))⟩

end Go.Proofs.Ytbfjhehhpgcelaa

/- Contract: the table of the arcs (reference's waMay). -/
namespace Go.Proofs.Ytbfjhehhpgcelaa
open Go.ChangeShapes Go.WideShapes Go.ChangeAt Go.RowKit
set_option linter.unusedVariables false

theorem Try.infoBoolI : (Try.prog.info? 4).map (fun i => (i.zero, i.size, i.bytes)) = some (some (.bool false), 1, 1) := by kernel_rfl
theorem infoBsI : (Try.prog.info? 49).map (fun i => (i.zero, i.size, i.bytes)) = some (some (.slice none 0 0), 1, 24) := by kernel_rfl
def relR (n : Nat) (m : Nat → Nat → Bool) : List (List Bool) := (List.range n).map fun a => (List.range n).map fun b => m a b
theorem relR_len (n : Nat) (m : Nat → Nat → Bool) : (relR n m).length = n := by simp [relR]
theorem nthL_relR {n a : Nat} (m : Nat → Nat → Bool) (h : a < n) : nthL (relR n m) a = (List.range n).map fun b => m a b := by simp [nthL, relR, h]
theorem relR_row {n a : Nat} (m : Nat → Nat → Bool) (h : a < n) : (nthL (relR n m) a).length = n := by rw [nthL_relR m h]; simp
theorem nthB_relR {n a b : Nat} (m : Nat → Nat → Bool) (h : a < n) (hb : b < n) : nthB (nthL (relR n m) a) b = m a b := by rw [nthL_relR m h]; simp [nthB, hb]
structure IsRel (n : Nat) (m : Nat → Nat → Bool) (xss : List (List Bool)) : Prop where
  len : xss.length = n
  row : ∀ a, a < n → (nthL xss a).length = n
  at_ : ∀ a b, a < n → b < n → nthB (nthL xss a) b = m a b
theorem ext_nthB {xs ys : List Bool} (hl : xs.length = ys.length) (h : ∀ j, j < xs.length → nthB xs j = nthB ys j) : xs = ys := by
  apply List.ext_getElem hl
  intro j h1 h2
  have := h j h1
  rwa [nthB_eq h1, nthB_eq h2] at this
theorem IsRel.eq {n : Nat} {m : Nat → Nat → Bool} {xss : List (List Bool)} (h : IsRel n m xss) : xss = relR n m := by
  apply List.ext_getElem (by rw [h.len, relR_len])
  intro a h1 h2
  have ha : a < n := by rw [← h.len]; exact h1
  rw [← nthL_eq h1, ← nthL_eq h2]
  refine ext_nthB (by rw [h.row a ha, relR_row m ha]) fun j hj => ?_
  rw [h.row a ha] at hj
  rw [h.at_ a j ha hj, nthB_relR m ha hj]
theorem IsRel.start (n : Nat) (P : List (List Int)) : IsRel n (may (P.take 0)) (List.replicate n (List.replicate n false)) := by
  have hr : ∀ a, a < n → nthL (List.replicate n (List.replicate n false)) a = List.replicate n false := fun a ha => by simp [nthL, ha]
  exact ⟨by simp, fun a ha => by rw [hr a ha]; simp, fun a b ha hb => by rw [hr a ha, nthB_replicate _ _ hb, may_zero]⟩
theorem IsRel.set {n k x y : Nat} {P : List (List Int)} {xss : List (List Bool)} (h : IsRel n (may (P.take k)) xss) (hk : k < P.length) (hE : nthL P k = [(x : Int), (y : Int)]) (hx : x < n) (hy : y < n) : IsRel n (may (P.take (k + 1))) (setAtB xss x y true) := by
  refine ⟨by rw [setAtB_length, h.len], fun a ha => by rw [setAtB_row xss (by rw [h.len]; exact hx)]; exact h.row a ha, fun a b ha hb => ?_⟩
  rw [nthL_setAtB (by rw [h.len]; exact hx), may_at hk hE]
  by_cases e : a = x
  · subst e
    rw [if_pos rfl, nthB_set _ _ _ _ (by rw [h.row a ha]; exact hy), h.at_ a b ha hb]
    by_cases e2 : b = y
    · subst e2; simp
    · rw [if_neg e2]; simp [show (y == b) = false by simp; omega]
  · rw [if_neg e, h.at_ a b ha hb]; simp [show (x == a) = false by simp; omega]
def arcsIn (n : Nat) (P : List (List Int)) : Prop := ∀ i, i < P.length → ∃ a b : Nat, nthL P i = [(a : Int), (b : Int)] ∧ a < n ∧ b < n
theorem good_arcsIn {n : Nat} {P : List (List Int)} (h : wkGood (n : Int) P = true) : arcsIn n P := fun i hi => by
  obtain ⟨_, a, b, h1, h2, h3⟩ := good_arc h hi
  exact ⟨a, b, h1, by rwa [Int.toNat_natCast] at h2, by rwa [Int.toNat_natCast] at h3⟩

set_option maxHeartbeats 4000000 in
set_option maxRecDepth 100000 in
theorem waMay_any (PL : Nat) (v1 : Value) (P : List (List Int)) (lo1 hi1 : Nat) (w : World) (h1 : IntSS w lo1 hi1 v1 P) (hh1 : hi1 ≤ w.heap.size) (hg : arcsIn PL P) (n1 : 1 ≤ PL) (n12 : PL ≤ 12) :
    Calls Try.prog 42 #[.agg #[.int .i64 (PL : Nat), v1]] w fun e w' => ∃ r, e = .returned (r) ∧ BoolSSx w' w.heap.size w'.heap.size r (relR PL (may P)) ∧ Below w.heap.size w w' := by
  have HG := Lib.hid hg; clear hg
  have F1 := Lib.hid h1
  obtain ⟨A1, c1, rfl, hc1, hd1⟩ := h1.dims
  clear h1
  obtain ⟨WA, HWA⟩ : ∃ W, Hid (W = (w.alloc (.cells #[.int .i64 PL, .slice A1 P.length c1] 26))) := ⟨_, Lib.hid rfl⟩
  have hbA : Below w.heap.size w WA := by rw [HWA.out]; exact ((Below.refl _ _).alloc (Nat.le_refl _) _)
  have hsA : w.heap.size + 1 ≤ WA.heap.size := by rw [HWA.out]; simp; try omega
  have bx1 : BoxN WA (w.heap.size) #[.int .i64 PL, .slice A1 P.length c1] 26 := by rw [HWA.out]; exact (BoxN.new' _ _ _ (by simp))
  have G1 := Lib.hid (ISS.below F1.out hbA hh1); clear F1
  go_enter Try.func42, Try.ntmps42
  go_upto_region 1 with (fail)
  rw [← HWA.out]; clear HWA
  have kbx1_0 : WA.cell? ⟨w.heap.size, 0, none⟩ = some (.int .i64 PL) := bx1.cell 0 (by simp)
  have kbx1_1 : WA.cell? ⟨w.heap.size, 1, none⟩ = some (.slice A1 P.length c1) := bx1.cell 1 (by simp)
  have hmk := fun W => run_make_row' (P := Try.prog) 49 4 (.bool false) 1 Try.underlying49 Try.infoBoolI rfl .i64 .i64 PL (by omega) (by omega) W
  go_wp2_with fail
  clear kbx1_0 kbx1_1
  go_loopw [3, 4] (fun vv av wr => ∃ (a top : Nat), a ≤ PL ∧ av = .int .i64 a ∧ Hid (OwnBS wr WA.heap.size top 49 vv (List.replicate a (List.replicate PL false))) ∧ top ≤ wr.heap.size ∧ WA.heap.size ≤ top ∧ Hid (Turned WA.heap.size WA.heap.size WA wr)) (fun vv av _ => PL - (intOf av).toNat)
  case atStart => exact ⟨0, WA.heap.size, Nat.zero_le _, rfl, Lib.hid (OwnBS.nil _ _ _ _ (Nat.le_refl _) (Nat.le_refl _)), Nat.le_refl _, Nat.le_refl _, Lib.hid (Turned.refl WA.heap.size WA.heap.size WA)⟩
  case round =>
    obtain ⟨a, top, ha, rfl, HO, htp, hta, HF1⟩ := hrel
    have hs1 := HF1.out.size
    obtain ⟨w1, rfl⟩ : ∃ w1 : World, w1 = wr := ⟨_, rfl⟩
    have kbx1_0 : w1.cell? ⟨w.heap.size, 0, none⟩ = some (.int .i64 PL) := (HF1.out.boxN bx1 (by omega)).cell 0 (by simp)
    have kbx1_1 : w1.cell? ⟨w.heap.size, 1, none⟩ = some (.slice A1 P.length c1) := (HF1.out.boxN bx1 (by omega)).cell 1 (by simp)
    have HLT := Lib.hid HO.out.lt
    by_cases hlt : a < PL
    case pos =>
      have hai : (a : Int) < PL := by omega
      have hrep : List.replicate a (List.replicate PL false) ++ [List.replicate PL false] = List.replicate (a + 1) (List.replicate PL false) := by rw [List.replicate_succ']
      have HREP := Lib.hid hrep; clear hrep
      have hll : (List.replicate a (List.replicate PL false)).length < 1099511627776 := by simp; omega
      go_wp2_with (at_builtin; refine append_bs (s := .tmp 13) Try.underlying66 infoBsI (by decide) (w1.alloc (.cells (madeCells #[.bool false] PL) 4)) rfl _ rfl (HO.out.alloc _) (made_bools w1 PL _ rfl (by omega)) htp (by simp) (by omega) (fun g e => .inl (HLT.out g e).2) _ (by simp [Act.eval, go_sem]) (by simp [Act.eval, go_sem]) hll ?_; intro v' w' ho' hg' hat')
      go_roundw
      case rel =>
        have hgs := hg'.size
        have hsz : w1.heap.size + 1 ≤ w'.heap.size := by simpa using hgs
        exact ⟨a + 1, w1.heap.size + 1, by omega, by go_num, Lib.hid (by rw [← HREP.out]; exact ho'), hsz, by omega, Lib.hid ((HF1.out.still (grown_alloc _ _)).grown hg' (fun g e => .inr (HLT.out g e).1))⟩
      case measure => simp [intOf]; omega
    obtain rfl : a = PL := by omega
    have hai : ¬ (a : Int) < a := by omega
    have HX := Lib.hid HO.out.ssx
    obtain ⟨Ab, cb, rfl, hcb, hdb⟩ := BSSx.dims HX.out
    rw [show (List.replicate a (List.replicate a false)).length = a by simp] at hcb HX
    try rw [show (List.replicate a (List.replicate a false)).length = a by simp]
    go_wp2_with fail
    clear kbx1_0 kbx1_1
    go_loopw [22] (fun iv wr => ∃ (k : Nat) (xss : List (List Bool)), k ≤ P.length ∧ iv = .int .i64 k ∧ Hid (BoolSSx wr WA.heap.size w1.heap.size (.slice Ab a cb) xss) ∧ Hid (IsRel a (may (P.take k)) xss) ∧ w1.heap.size ≤ wr.heap.size ∧ Hid (Turned WA.heap.size WA.heap.size WA wr)) (fun iv _ => P.length - (intOf iv).toNat)
    case atStart => exact ⟨0, _, Nat.zero_le _, rfl, HX, Lib.hid (IsRel.start a P), Nat.le_refl _, HF1⟩
    case round =>
      clear HF1
      obtain ⟨k, xss, hk, rfl, HX, HR, hzx, HF2⟩ := hrel
      have hs2 := HF2.out.size
      by_cases hlt2 : k < P.length
      case neg =>
        go_wp2_with fail
        go_ret
        refine ⟨_, rfl, ?_, (HF2.out.below_of hbA (by omega) (by omega))⟩
        have hm := HR.out.eq
        rw [may_full (by omega)] at hm
        rw [← hm]
        exact BSSx.mono HX.out (by omega) hzx
      obtain ⟨br, or, ur, rfl, _, hbr, zr, hur⟩ := SS.opened G1.out hlt2
      replace zr := (HF2.out.cell (by omega) (by omega)).trans zr
      obtain ⟨Ar, cr, rfl, hcr, hdr⟩ := hur.dims
      have Ur := Lib.hid hur; clear hur
      obtain ⟨x, y, exy, hx, hy⟩ := HG.out k hlt2
      have HE := Lib.hid exy
      rw [exy] at hcr Ur zr
      clear exy
      obtain ⟨b0, o0, rfl, _, hb0', x0, _⟩ := (IntS.turned Ur.out HF2.out (by omega) (by omega)).opened (j := 0) (zs := [(x : Int), (y : Int)]) (Nat.succ_pos _)
      have x1 := ((IntS.turned Ur.out HF2.out (by omega) (by omega)).at_ (j := 1) (zs := [(x : Int), (y : Int)]) (Nat.succ_lt_succ (Nat.succ_pos _))).1
      simp only [nth, List.getD_cons_zero, List.getD_cons_succ, Nat.add_zero] at x0 x1
      have hxl := HR.out.len
      have hrl := HR.out.row x hx
      obtain ⟨bb, ob, b2, o2, c2, rfl, l1, l2, l3, l4, q1, q2, q3, q4, q5, hst⟩ := BSSx.place HX.out (by omega) (a := x) (i := y) (by rw [hxl]; exact hx) (by rw [hrl]; exact hy)
      rw [hrl] at q1 q2
      have hs := BSSx.still (hst true) (grown_drew _) (by rw [size_setCell]; omega)
      have HS2 := Lib.hid hs; clear hs hst
      have hxi : (x : Int) < a := by omega
      have hyi : (y : Int) < a := by omega
      clear hrl
      go_wp2_with fail
      go_region
      go_wp2_with fail
      go_roundw
      case rel => exact ⟨k + 1, _, by omega, by go_num, HS2, Lib.hid (HR.out.set hlt2 HE.out hx hy), by show _ ≤ (wr.setCell _ _).heap.size; rw [size_setCell]; exact hzx, Lib.hid (HF2.out.grown (grownBy_trans (grown_set _ ⟨b2, o2 + y, none⟩ _) (grown_any (grown_drew _))) fun g hg => .inr (by cases hg; exact l3))⟩
      case measure => simp [intOf]; omega

end Go.Proofs.Ytbfjhehhpgcelaa

/- Contract: relations of labels composed (reference's waTimes). -/
namespace Go.Proofs.Ytbfjhehhpgcelaa
open Go.ChangeShapes Go.WideShapes Go.ChangeAt Go.RowKit
set_option linter.unusedVariables false

def cmpK (f g : Nat → Nat → Bool) (a c i : Nat) : Bool := (List.range i).any fun k => f a k && g k c
theorem cmpK_succ (f g : Nat → Nat → Bool) (a c i : Nat) : cmpK f g a c (i + 1) = (cmpK f g a c i || (f a i && g i c)) := by
  unfold cmpK; rw [List.range_succ, List.any_append]; simp
def cmpR (n : Nat) (f g : Nat → Nat → Bool) (a c : Nat) : Bool := cmpK f g a c n
theorem relR_take {n k : Nat} (m : Nat → Nat → Bool) (h : k < n) : (relR n m).take (k + 1) = (relR n m).take k ++ [nthL (relR n m) k] := by
  rw [List.take_succ_eq_append_getElem (by rw [relR_len]; exact h), nthL_eq (by rw [relR_len]; exact h)]
theorem row_eq {n a : Nat} {m : Nat → Nat → Bool} (ha : a < n) {bs : List Bool} (hl : bs.length = n) (h : ∀ c, c < n → nthB bs c = m a c) : bs = nthL (relR n m) a :=
  ext_nthB (by rw [hl, relR_row m ha]) fun j hj => by rw [h j (by omega), nthB_relR m ha (by omega)]
theorem cs_step {n a i j : Nat} {f g : Nat → Nat → Bool} {bs : List Bool} (hl : bs.length = n) (hj : j < n) (h : ∀ c, c < n → nthB bs c = cmpK f g a c (if c < j then i + 1 else i)) {v : Bool} (hv : v = (cmpK f g a j i || (f a i && g i j))) : ∀ c, c < n → nthB (bs.set j v) c = cmpK f g a c (if c < j + 1 then i + 1 else i) := by
  intro c hc
  rw [nthB_set bs j c v (by omega)]
  by_cases e : c = j
  · subst e; rw [if_pos rfl, if_pos (by omega), cmpK_succ, hv]
  · rw [if_neg e, h c hc]
    by_cases e2 : c < j
    · rw [if_pos e2, if_pos (by omega)]
    · rw [if_neg e2, if_neg (by omega)]
theorem BSSx.openRow {w : World} {lo hi n c : Nat} {A : Option Addr} {xss : List (List Bool)} (h : BoolSSx w lo hi (.slice A n c) xss) {j : Nat} (hj : j < xss.length) : ∃ b off u, A = some ⟨b, off, none⟩ ∧ lo ≤ b ∧ b < hi ∧ w.cell? ⟨b, off + j, none⟩ = some u ∧ BoolS w lo hi u (nthL xss j) := SS.opened h.ss hj

set_option maxHeartbeats 8000000 in
set_option maxRecDepth 100000 in
theorem waTimes_any (v1 : Value) (X : List (List Bool)) (lo1 hi1 : Nat) (v2 : Value) (Y : List (List Bool)) (lo2 hi2 : Nat) (w : World) (h1 : BoolSSx w lo1 hi1 v1 X) (hh1 : hi1 ≤ w.heap.size) (h2 : BoolSSx w lo2 hi2 v2 Y) (hh2 : hi2 ≤ w.heap.size) (n : Nat) (f g : Nat → Nat → Bool) (hX : X = relR n f) (hY : Y = relR n g) (n1 : 1 ≤ n) (n12 : n ≤ 12) :
    Calls Try.prog 48 #[v1, v2] w fun e w' => ∃ r, e = .returned (r) ∧ BoolSSx w' w.heap.size w'.heap.size r (relR n (cmpR n f g)) ∧ Below w.heap.size w w' := by
  subst hX hY
  have F1 := Lib.hid h1
  obtain ⟨A1, c1, rfl, hc1, hd1⟩ := h1.dims
  clear h1
  have F2 := Lib.hid h2
  obtain ⟨A2, c2, rfl, hc2, hd2⟩ := h2.dims
  clear h2
  go_enter Try.func48, Try.ntmps48
  rw [relR_len] at hc1 hc2 F1 F2
  rw [relR_len, relR_len]
  obtain ⟨b1, o1, _, rfl, _, hb1, _⟩ := BSSx.openRow F1.out (j := 0) (by rw [relR_len]; omega)
  obtain ⟨b2, o2, _, rfl, _, hb2, _⟩ := BSSx.openRow F2.out (j := 0) (by rw [relR_len]; omega)
  have hmk := fun W => run_make_row' (P := Try.prog) 49 4 (.bool false) 1 Try.underlying49 Try.infoBoolI rfl .i64 .i64 n (by omega) (by omega) W
  go_wp2_with fail
  go_loopw [5, 14] (fun vv kv wr => ∃ (a top : Nat), a ≤ n ∧ kv = .int .i64 a ∧ Hid (OwnBS wr w.heap.size top 49 vv ((relR n (cmpR n f g)).take a)) ∧ top ≤ wr.heap.size ∧ w.heap.size ≤ top ∧ Hid (Turned w.heap.size w.heap.size w wr)) (fun vv kv _ => n - (intOf kv).toNat)
  case atStart => exact ⟨0, w.heap.size, Nat.zero_le _, rfl, Lib.hid (OwnBS.nil _ _ _ _ (Nat.le_refl _) (Nat.le_refl _)), Nat.le_refl _, Nat.le_refl _, Lib.hid (Turned.refl w.heap.size w.heap.size w)⟩
  case round =>
    obtain ⟨a, top, ha, rfl, HO, htp, hta, HF1⟩ := hrel
    have hs1 := HF1.out.size
    obtain ⟨w1, rfl⟩ : ∃ w1 : World, w1 = wr := ⟨_, rfl⟩
    have HLT := Lib.hid HO.out.lt
    by_cases hlt : a < n
    case neg =>
      obtain rfl : a = n := by omega
      have htk : (relR a (cmpR a f g)).take a = relR a (cmpR a f g) := List.take_of_length_le (by rw [relR_len]; exact Nat.le_refl _)
      rw [htk] at HO
      go_wp2_with fail
      go_ret
      exact ⟨_, rfl, HO.out.ssx, (HF1.out.below_of (Below.refl _ _) (by omega) (by omega))⟩
    have hai : (a : Int) < n := by omega
    obtain ⟨_, _, u1, e1, _, _, x1, hu1⟩ := BSSx.openRow (BSSx.turned F1.out HF1.out (by omega) (by omega)) (j := a) (by rw [relR_len]; exact hlt)
    cases e1
    obtain ⟨A3, c3, rfl, hc3, hd3⟩ := hu1.dims
    rw [relR_row f hlt] at x1 hc3 hu1
    obtain ⟨b3, o3, rfl, _, hb3, _⟩ := hu1.opened (j := 0) (by rw [relR_row f hlt]; omega)
    have HU1 := Lib.hid hu1; clear hu1
    obtain ⟨Ao, co, rfl, hco, hdo⟩ := HO.out.len
    have htl : ((relR n (cmpR n f g)).take a).length = a := by rw [List.length_take, relR_len]; omega
    rw [htl] at HO hco HLT
    try rw [htl]
    have HTL := Lib.hid htl; clear htl
    go_upto_region 6 with (fail)
    refine nameC ?_
    intro W2 HW2
    have hg2 : w1.grownBy W2 none := by rw [HW2.out]; exact grown_alloc _ _
    have hs2 := hg2.size
    have HF2 := Lib.hid (HF1.out.still hg2); clear HF1
    have HB := Lib.hid (show BoolS W2 w1.heap.size (w1.heap.size + 1) (.slice (some ⟨w1.heap.size, 0, none⟩) n n) (List.replicate n false) by rw [HW2.out]; exact made_bools _ _ _ rfl (by omega))
    have hzb : w1.heap.size + 1 ≤ W2.heap.size := by rw [HW2.out]; simp
    have HO1 := Lib.hid (OwnBS.still HO.out hg2)
    have HU2 := Lib.hid (BoolS.still HU1.out hg2 (by omega))
    clear HW2 HO HU1 x1
    go_wp2_with fail
    go_loopw [23] (fun iv wr => ∃ (i : Nat) (bs : List Bool), i ≤ n ∧ iv = .int .i64 i ∧ Hid (∀ c, c < n → nthB bs c = cmpK f g a c (if c < 0 then i + 1 else i)) ∧ Hid (bs.length = n) ∧ Hid (BoolS wr w1.heap.size (w1.heap.size + 1) (.slice (some ⟨w1.heap.size, 0, none⟩) n n) bs) ∧ w1.heap.size + 1 ≤ wr.heap.size ∧ Hid (OwnBS wr w.heap.size top 49 (.slice Ao a co) ((relR n (cmpR n f g)).take a)) ∧ Hid (BoolS wr lo1 hi1 (.slice (some ⟨b3, o3, none⟩) n c3) (nthL (relR n f) a)) ∧ Hid (Turned w.heap.size w.heap.size w wr)) (fun iv _ => n - (intOf iv).toNat)
    case atStart => exact ⟨0, _, Nat.zero_le _, rfl, Lib.hid (fun c hc => by rw [nthB_replicate _ _ hc]; rfl), Lib.hid (by simp), HB, hzb, HO1, HU2, HF2⟩
    case round =>
      clear HF2
      obtain ⟨i, bs, hi, rfl, HS, HLB, HB, hzb, HO, HU, HF3⟩ := hrel
      have hs3 := HF3.out.size
      obtain ⟨w2, rfl⟩ : ∃ w2 : World, w2 = wr := ⟨_, rfl⟩
      by_cases hin : i < n
      case pos =>
        have hii : (i : Int) < n := by omega
        have x2 := (HU.out.at_ (j := i) (by rw [relR_row f hlt]; exact hin)).1
        rw [nthB_relR f hlt hin] at x2
        obtain ⟨fi, HFI⟩ : ∃ b, Hid (f a i = b) := ⟨_, Lib.hid rfl⟩
        rw [HFI.out] at x2
        go_wp2_with fail
        go_loopw [30] (fun jv wr => ∃ (j : Nat) (cs : List Bool), j ≤ n ∧ jv = .int .i64 j ∧ Hid (∀ c, c < n → nthB cs c = cmpK f g a c (if c < j then i + 1 else i)) ∧ Hid (cs.length = n) ∧ Hid (BoolS wr w1.heap.size (w1.heap.size + 1) (.slice (some ⟨w1.heap.size, 0, none⟩) n n) cs) ∧ w1.heap.size + 1 ≤ wr.heap.size ∧ Hid (OwnBS wr w.heap.size top 49 (.slice Ao a co) ((relR n (cmpR n f g)).take a)) ∧ Hid (BoolS wr lo1 hi1 (.slice (some ⟨b3, o3, none⟩) n c3) (nthL (relR n f) a)) ∧ Hid (Turned w.heap.size w.heap.size w wr)) (fun jv _ => n - (intOf jv).toNat)
        case atStart => exact ⟨0, _, Nat.zero_le _, rfl, HS, HLB, HB, hzb, HO, HU, HF3⟩
        case round =>
          clear HF3
          obtain ⟨j, cs, hj, rfl, HS, HLB, HB, hzb, HO, HU, HF4⟩ := hrel
          have hs4 := HF4.out.size
          by_cases hjn : j < n
          case pos =>
            have hji : (j : Int) < n := by omega
            obtain ⟨y1, y2⟩ := HB.out.at0 (j := j) (by rw [HLB.out]; exact hjn)
            have hold := HS.out j hjn
            rw [if_neg (Nat.lt_irrefl j)] at hold
            obtain ⟨b, HBB⟩ : ∃ b, Hid (nthB cs j = b) := ⟨_, Lib.hid rfl⟩
            rw [HBB.out] at y1 hold
            have HOLD := Lib.hid hold; clear hold
            obtain ⟨gi, HGI⟩ : ∃ b, Hid (g i j = b) := ⟨_, Lib.hid rfl⟩
            obtain ⟨_, _, u4, e4, _, _, x4, hu4⟩ := BSSx.openRow (BSSx.turned F2.out HF4.out (by omega) (by omega)) (j := i) (by rw [relR_len]; exact hin)
            cases e4
            obtain ⟨A4, c4, rfl, hc4, hd4⟩ := hu4.dims
            rw [relR_row g hin] at x4 hc4 hu4
            obtain ⟨b4, o4, rfl, _, hb4, x5, _⟩ := hu4.opened (j := j) (by rw [relR_row g hin]; exact hjn)
            rw [nthB_relR g hin hjn, HGI.out] at x5
            clear hu4
            have HV := Lib.hid (show ∀ v : Bool, v = (b || (fi && gi)) → Hid (∀ c, c < n → nthB (cs.set j v) c = cmpK f g a c (if c < j + 1 then i + 1 else i)) from fun v hv => Lib.hid (cs_step HLB.out hjn HS.out (by rw [hv, HOLD.out, HFI.out, HGI.out])))
            have hlt0 := HLT.out
            cases b with
            | true =>
              have hs := HB.out.set0 (j := j) (by rw [HLB.out]; exact hjn) true
              have HS2 := Lib.hid hs; clear hs
              go_wp2_with fail
              go_roundw
              case rel =>
                have hg9 : wr.grownBy (wr.setCell ⟨w1.heap.size, j, none⟩ (.bool true)) (some (w1.heap.size)) := grown_set _ _ _
                have hs9 := hg9.size
                exact ⟨j + 1, _, by omega, by go_num, HV.out true (by rfl), Lib.hid (by rw [List.length_set]; exact HLB.out), HS2, by omega, Lib.hid (OwnBS.farT HO.out hg9 (fun g e => by cases e; exact ⟨htp, fun h => by have := hlt0 _ h; omega⟩)), Lib.hid (BoolS.far HU.out hg9 (by omega) (fun g e => .inr (by cases e; omega))), Lib.hid (HF4.out.grown hg9 (fun g e => .inr (by cases e; omega)))⟩
              case measure => simp [intOf]; omega
            | false =>
              cases fi with
              | false =>
                have hs := HB.out.set0 (j := j) (by rw [HLB.out]; exact hjn) false
                have HS2 := Lib.hid hs; clear hs
                go_wp2_with fail
                go_roundw
                case rel =>
                  have hg9 : wr.grownBy (wr.setCell ⟨w1.heap.size, j, none⟩ (.bool false)) (some (w1.heap.size)) := grown_set _ _ _
                  have hs9 := hg9.size
                  exact ⟨j + 1, _, by omega, by go_num, HV.out false (by rfl), Lib.hid (by rw [List.length_set]; exact HLB.out), HS2, by omega, Lib.hid (OwnBS.farT HO.out hg9 (fun g e => by cases e; exact ⟨htp, fun h => by have := hlt0 _ h; omega⟩)), Lib.hid (BoolS.far HU.out hg9 (by omega) (fun g e => .inr (by cases e; omega))), Lib.hid (HF4.out.grown hg9 (fun g e => .inr (by cases e; omega)))⟩
                case measure => simp [intOf]; omega
              | true =>
                cases gi with
                | false =>
                  have hs := HB.out.set0 (j := j) (by rw [HLB.out]; exact hjn) false
                  have HS2 := Lib.hid hs; clear hs
                  go_wp2_with fail
                  go_roundw
                  case rel =>
                    have hg9 : wr.grownBy (wr.setCell ⟨w1.heap.size, j, none⟩ (.bool false)) (some (w1.heap.size)) := grown_set _ _ _
                    have hs9 := hg9.size
                    exact ⟨j + 1, _, by omega, by go_num, HV.out false (by rfl), Lib.hid (by rw [List.length_set]; exact HLB.out), HS2, by omega, Lib.hid (OwnBS.farT HO.out hg9 (fun g e => by cases e; exact ⟨htp, fun h => by have := hlt0 _ h; omega⟩)), Lib.hid (BoolS.far HU.out hg9 (by omega) (fun g e => .inr (by cases e; omega))), Lib.hid (HF4.out.grown hg9 (fun g e => .inr (by cases e; omega)))⟩
                  case measure => simp [intOf]; omega
                | true =>
                  have hs := HB.out.set0 (j := j) (by rw [HLB.out]; exact hjn) true
                  have HS2 := Lib.hid hs; clear hs
                  go_wp2_with fail
                  go_roundw
                  case rel =>
                    have hg9 : wr.grownBy (wr.setCell ⟨w1.heap.size, j, none⟩ (.bool true)) (some (w1.heap.size)) := grown_set _ _ _
                    have hs9 := hg9.size
                    exact ⟨j + 1, _, by omega, by go_num, HV.out true (by rfl), Lib.hid (by rw [List.length_set]; exact HLB.out), HS2, by omega, Lib.hid (OwnBS.farT HO.out hg9 (fun g e => by cases e; exact ⟨htp, fun h => by have := hlt0 _ h; omega⟩)), Lib.hid (BoolS.far HU.out hg9 (by omega) (fun g e => .inr (by cases e; omega))), Lib.hid (HF4.out.grown hg9 (fun g e => .inr (by cases e; omega)))⟩
                  case measure => simp [intOf]; omega
          obtain rfl : j = n := by omega
          have hji : ¬ (j : Int) < j := by omega
          have HSN := Lib.hid (show ∀ c, c < j → nthB cs c = cmpK f g a c (if c < 0 then i + 1 + 1 else i + 1) from fun c hc => by rw [HS.out c hc, if_pos hc, if_neg (by omega)])
          go_wp2_with fail
          go_roundw
          case rel => exact ⟨i + 1, _, by omega, by go_num, HSN, HLB, HB, hzb, HO, HU, HF4⟩
          case measure => simp [intOf]; omega
      obtain rfl : i = n := by omega
      have hii : ¬ (i : Int) < i := by omega
      have hrow : bs = nthL (relR i (cmpR i f g)) a := row_eq hlt HLB.out fun c hc => by rw [HS.out c hc, if_neg (by omega)]; rfl
      have HTK := Lib.hid (show (relR i (cmpR i f g)).take (a + 1) = (relR i (cmpR i f g)).take a ++ [bs] by rw [relR_take _ hlt, hrow])
      clear hrow
      have htl := HTL.out
      have hlo := HLT.out
      have hll : ((relR i (cmpR i f g)).take a).length < 1099511627776 := by rw [htl]; omega
      go_wp2_with (at_builtin; refine append_bs (s := .tmp 54) Try.underlying66 infoBsI (by decide) w2 rfl _ rfl HO.out HB.out htp (by omega) (by omega) (fun g e => .inl (hlo g e).2) _ (by simp [Act.eval, go_sem]) (by simp [Act.eval, go_sem]) hll ?_; intro v' w' ho' hg' hat')
      go_roundw
      case rel =>
        have hgs := hg'.size
        exact ⟨a + 1, w1.heap.size + 1, by omega, by go_num, Lib.hid (by rw [HTK.out]; exact ho'), by omega, by omega, Lib.hid (HF3.out.grown hg' (fun g e => .inr (hlo g e).1))⟩
      case measure => simp [intOf]; omega

end Go.Proofs.Ytbfjhehhpgcelaa

/- A slice of tables of booleans that grows by one table. -/
namespace Go.Proofs.Ytbfjhehhpgcelaa
open Go.ChangeShapes Go.WideShapes Go.ChangeAt Go.RowKit
set_option linter.unusedVariables false
abbrev PwSSx := SSx BoolSSx
/-- v is a slice of slices that reads as xss; its own row lies from block base on; its rows lie one behind the other, from base on and below top -/
def OwnPS (w : World) (base top : Nat) (e : TypeId) (v : Value) (xss : List (List (List Bool))) : Prop :=
  ∃ (vs : List Value) (lo hi : Nat → Nat), vs.length = xss.length ∧ Own w base e v vs ∧ base ≤ top ∧ top ≤ w.heap.size ∧
    (∀ j, j < xss.length → ∃ u, vs[j]? = some u ∧ base ≤ lo j ∧ hi j ≤ top ∧ BoolSSx w (lo j) (hi j) u (nthL xss j) ∧ ∀ g, v.ownBlock = some g → g < lo j ∨ hi j ≤ g) ∧
    ∀ i j, i < j → j < xss.length → hi i ≤ lo j


section
variable {w w' : World} {base top : Nat} {e : TypeId} {v : Value} {xss : List (List (List Bool))}
theorem OwnPS.nil (w : World) (base top : Nat) (e : TypeId) (h1 : base ≤ top) (h2 : top ≤ w.heap.size) : OwnPS w base top e (.slice none 0 0) [] :=
  ⟨[], fun _ => 0, fun _ => 0, rfl, Own.nil _ _ _, h1, h2, fun j hj => absurd hj (by simp), fun i j _ hj => absurd hj (by simp)⟩
theorem OwnPS.below (h : OwnPS w base top e v xss) (hb : Below w.heap.size w w') : OwnPS w' base top e v xss := by
  obtain ⟨vs, lo, hi, h1, h2, h3, h4, h5, h6⟩ := h
  refine ⟨vs, lo, hi, h1, h2.kept (row := none) ⟨hb.os, hb.tape, hb.output, hb.size, fun k hk _ => hb.block k hk⟩ (by cases hv : v.ownBlock with
    | none => exact .inl rfl
    | some g => right; simp), h3, Nat.le_trans h4 hb.size, fun j hj => ?_, h6⟩
  obtain ⟨u, a1, a2, a3, a4, a5⟩ := h5 j hj
  exact ⟨u, a1, a2, a3, BSSx.below a4 hb (by omega), a5⟩
theorem OwnPS.alloc (h : OwnPS w base top e v xss) (o : Obj) : OwnPS (w.alloc o) base top e v xss := h.below ((Below.refl _ _).alloc (Nat.le_refl _) o)
theorem OwnPS.drew (h : OwnPS w base top e v xss) : OwnPS w.drew base top e v xss := h
theorem OwnPS.drewN (h : OwnPS w base top e v xss) (k : Nat) : OwnPS (w.drewN k) base top e v xss := h
theorem OwnPS.len (h : OwnPS w base top e v xss) : ∃ A c, v = .slice A xss.length c ∧ xss.length ≤ c ∧ c ≤ maxLen := by
  obtain ⟨vs, lo, hi, h1, h2, _⟩ := h
  obtain ⟨A, c, e, a1, a2, _⟩ := h2.form
  exact ⟨A, c, by rw [e, h1], by omega, a2⟩
theorem OwnPS.lt (h : OwnPS w base top e v xss) : ∀ k, v.ownBlock = some k → base ≤ k ∧ k < w.heap.size := by
  obtain ⟨vs, lo, hi, h1, h2, _⟩ := h
  exact h2.lt
theorem OwnPS.mono (h : OwnPS w base top e v xss) {top' : Nat} (h1 : top ≤ top') (h2 : top' ≤ w.heap.size) : OwnPS w base top' e v xss := by
  obtain ⟨vs, lo, hi, a1, a2, a3, a4, a5, a6⟩ := h
  refine ⟨vs, lo, hi, a1, a2, by omega, h2, fun j hj => ?_, a6⟩
  obtain ⟨u, b1, b2, b3, b4, b5⟩ := a5 j hj
  exact ⟨u, b1, b2, by omega, b4, b5⟩
theorem OwnPS.ssx (h : OwnPS w base top e v xss) : PwSSx w base w.heap.size v xss := by
  obtain ⟨vs, lo, hi, h1, h2, h3, h4, h5, h6⟩ := h
  have hsl : Sl w base w.heap.size 1 v xss.length (fun j => vs.getD j undef) := by
    have := Sl.of_own (f := fun j => vs.getD j undef) h2 (fun j hj => by simp at hj; simp [hj])
    rwa [h1] at this
  have hr : ∀ j, j < xss.length → BoolSSx w (lo j) (hi j) (vs.getD j undef) (nthL xss j) ∧ base ≤ lo j ∧ hi j ≤ top ∧ ∀ g, v.ownBlock = some g → g < lo j ∨ hi j ≤ g := fun j hj => by
    obtain ⟨u, a1, a2, a3, a4, a5⟩ := h5 j hj
    have : vs.getD j undef = u := by simp [a1]
    rw [this]
    exact ⟨a4, a2, a3, a5⟩
  refine ⟨fun j => vs.getD j undef, hsl, fun i hi' => BSSx.mono (hr i hi').1 (hr i hi').2.1 (by have := (hr i hi').2.2.1; omega), fun i j hij hj => ?_, fun i hi' => ?_⟩
  · obtain ⟨a1, _⟩ := hr i (by omega)
    obtain ⟨b1, _⟩ := hr j hj
    rcases Sl.row a1.choose_spec.1 with e1 | ⟨g1, e1, c1, c2⟩
    · exact .inl e1
    · right
      rw [e1]
      rcases Sl.row b1.choose_spec.1 with e2 | ⟨g2, e2, d1, d2⟩
      · rw [e2]; simp
      · rw [e2]; intro e3; injection e3 with e3; have := h6 i j hij hj; omega
  · obtain ⟨a1, _, _, a2⟩ := hr i hi'
    rcases Sl.row a1.choose_spec.1 with e1 | ⟨g1, e1, c1, c2⟩
    · exact .inl e1
    · right
      rw [e1]
      unfold rowOf
      rw [if_neg (by omega)]
      intro e3
      have := a2 g1 e3.symm
      omega
end

/-- append of one row onto a slice of slices of the call's own, the row's slice just laid in a block of its own -/
theorem append_ps {P : Program} {ops : Array Oper} {rest : List Oper} {o : Oper} {a : Act} {Q : Exit → Act → World → Prop} {t e : TypeId} {bytes : Nat}
    (ht : P.underlying t = some (.slice e)) (hinfo : (P.info? e).map (fun i => (i.zero, i.size, i.bytes)) = some (some (.slice none 0 0), 1, bytes)) (hby : bytes ≤ 64)
    (w : World) (hgd : o.guard = none) {s : Operand} (x : Operand) (ho : o.op = .call { callee := .builtin .append, args := #[s, x], argTypes := #[t, t] })
    {base top : Nat} {v : Value} {xss : List (List (List Bool))} (hown : OwnPS w base top e v xss) {u : Value} {xs : List (List Bool)} {lo hi : Nat} (hu : BoolSSx w lo hi u xs) (hlo : top ≤ lo) (hhi : hi ≤ w.heap.size) (hlh : lo ≤ hi) (hfar : ∀ g, v.ownBlock = some g → g < lo ∨ hi ≤ g)
    (te : TypeId) (hs : a.eval s = v) (hx : a.eval x = .slice (some ⟨w.heap.size, 0, none⟩) 1 1) (hlen : xss.length < 1099511627776)
    (h : ∀ v' w', OwnPS w' base hi e v' (xss ++ [xs]) → w.grownBy w' v.ownBlock → (v'.ownBlock = v.ownBlock ∨ v'.ownBlock = some (w.heap.size + 1)) → wpList P ops Q rest (a.put o.dst v') w') :
    wpList P ops Q (o :: rest) a (w.alloc (.cells #[u] te)) := by
  obtain ⟨vs, los, his, h1, h2, h3, h4, h5, h6⟩ := hown
  obtain ⟨A, c, rfl⟩ := (show ∃ A c, u = .slice A xs.length c from let ⟨A, c, e, _⟩ := BSSx.dims hu; ⟨A, c, e⟩)
  refine append1 ht hinfo rfl hby w hgd x ho h2 _ te hs hx rfl (by omega) (by omega) fun v' w' ho' hg' hat' => h v' w' ?_ hg' hat'
  have hgs := hg'.size
  have hold : ∀ j, j < xss.length → ∃ u, vs[j]? = some u ∧ base ≤ los j ∧ his j ≤ top ∧ BoolSSx w' (los j) (his j) u (nthL xss j) ∧ ∀ g, v'.ownBlock = some g → g < los j ∨ his j ≤ g := fun j hj => by
    obtain ⟨u, a1, a2, a3, a4, a5⟩ := h5 j hj
    refine ⟨u, a1, a2, a3, BSSx.far a4 hg' (by omega) a5, fun g hg => ?_⟩
    rcases hat' with e1 | e1
    · exact a5 g (by rw [← e1]; exact hg)
    · rw [e1] at hg; injection hg with hg; omega
  refine ⟨vs ++ [.slice A xs.length c], fun j => if j < xss.length then los j else lo, fun j => if j < xss.length then his j else hi, by simp [h1], ho', by omega, by omega, fun j hj => ?_, fun i j hij hj => ?_⟩
  · dsimp only
    by_cases e1 : j < xss.length
    · obtain ⟨u, a1, a2, a3, a4, a5⟩ := hold j e1
      rw [if_pos e1, if_pos e1, nthL_append_left e1]
      exact ⟨u, by rw [List.getElem?_append_left (by omega)]; exact a1, a2, by omega, a4, a5⟩
    · obtain rfl : j = xss.length := by simp at hj; omega
      rw [if_neg e1, if_neg e1, nthL_append_at]
      refine ⟨.slice A xs.length c, by rw [← h1]; simp, by omega, Nat.le_refl _, BSSx.far hu hg' hhi hfar, fun g hg => ?_⟩
      rcases hat' with e2 | e2
      · exact hfar g (by rw [← e2]; exact hg)
      · rw [e2] at hg; injection hg with hg; omega
  · dsimp only
    rw [if_pos (by simp at hj; omega)]
    by_cases e1 : j < xss.length
    · rw [if_pos e1]; exact h6 i j hij e1
    · rw [if_neg e1]
      obtain ⟨u, _, _, a3, _⟩ := h5 i (by simp at hj; omega)
      omega

theorem OwnPS.far {w w' : World} {base top : Nat} {e : TypeId} {v : Value} {xss : List (List (List Bool))} {row : Option Nat} (h : OwnPS w base top e v xss) (hg : w.grownBy w' row) (hr : ∀ g, row = some g → g < base) : OwnPS w' base top e v xss := by
  obtain ⟨vs, lo, hi, h1, h2, h3, h4, h5, h6⟩ := h
  refine ⟨vs, lo, hi, h1, h2.kept hg ?_, h3, Nat.le_trans h4 hg.size, fun j hj => ?_, h6⟩
  · cases hv : v.ownBlock with
    | none => exact .inl rfl
    | some g =>
      right
      intro e
      have := (h2.lt g hv).1
      have := hr g e.symm
      omega
  · obtain ⟨u, a1, a2, a3, a4, a5⟩ := h5 j hj
    exact ⟨u, a1, a2, a3, BSSx.far a4 hg (by omega) (fun g e => .inl (by have := hr g e; omega)), a5⟩




theorem OwnPS.farT {w w' : World} {base top : Nat} {e : TypeId} {v : Value} {xss : List (List (List Bool))} {row : Option Nat} (h : OwnPS w base top e v xss) (hg : w.grownBy w' row) (hr : ∀ g, row = some g → top ≤ g ∧ v.ownBlock ≠ some g) : OwnPS w' base top e v xss := by
  obtain ⟨vs, lo, hi, h1, h2, h3, h4, h5, h6⟩ := h
  have hgs := hg.size
  refine ⟨vs, lo, hi, h1, Own.kept h2 hg ?_, h3, by omega, fun j hj => ?_, h6⟩
  · cases row with
    | none =>
      cases hv : v.ownBlock with
      | none => exact .inl rfl
      | some k => exact .inr (by simp)
    | some g => exact .inr (hr g rfl).2
  · obtain ⟨u, a1, a2, a3, a4, a5⟩ := h5 j hj
    exact ⟨u, a1, a2, a3, BSSx.far a4 hg (by omega) (fun g e => .inr (by have := (hr g e).1; omega)), a5⟩
theorem OwnPS.still {w w' : World} {base top : Nat} {e : TypeId} {v : Value} {xss : List (List (List Bool))} (h : OwnPS w base top e v xss) (hg : w.grownBy w' none) : OwnPS w' base top e v xss := h.farT hg (fun g e => by cases e)
theorem PwSSx.openRow {w : World} {lo hi n c : Nat} {A : Option Addr} {xss : List (List (List Bool))} (h : PwSSx w lo hi (.slice A n c) xss) {j : Nat} (hj : j < xss.length) : ∃ b off u, A = some ⟨b, off, none⟩ ∧ lo ≤ b ∧ b < hi ∧ w.cell? ⟨b, off + j, none⟩ = some u ∧ BoolSSx w lo hi u (nthL xss j) := SS.opened h.ss hj
theorem PwSSx.far {w w' : World} {lo hi : Nat} {v : Value} {xss : List (List (List Bool))} {row : Option Nat} (h : PwSSx w lo hi v xss) (hg : w.grownBy w' row) (hB : hi ≤ w.heap.size) (hr : ∀ g, row = some g → g < lo ∨ hi ≤ g) : PwSSx w' lo hi v xss :=
  SSx.keep (fun h => BSSx.far h hg hB hr) h fun k h1 hk => hg.block k (by omega) (fun e => by have := hr k e.symm; omega)
theorem PwSSx.still {w w' : World} {lo hi : Nat} {v : Value} {xss : List (List (List Bool))} (h : PwSSx w lo hi v xss) (hg : w.grownBy w' none) (hB : hi ≤ w.heap.size) : PwSSx w' lo hi v xss := PwSSx.far h hg hB (no_row _ _)
theorem PwSSx.turned {w w' : World} {l2 h2 lo hi : Nat} {v : Value} {xss : List (List (List Bool))} (h : PwSSx w lo hi v xss) (hb : Turned l2 h2 w w') (hB : hi ≤ w.heap.size) (hd : hi ≤ l2 ∨ h2 ≤ lo) : PwSSx w' lo hi v xss := SSx.keep (fun h => BSSx.turned h hb hB hd) h fun k h1 hk => hb.block k (by omega) (by omega)
theorem PwSSx.dims {w : World} {lo hi : Nat} {v : Value} {xss : List (List (List Bool))} (h : PwSSx w lo hi v xss) : ∃ A c, v = .slice A xss.length c ∧ xss.length ≤ c ∧ c ≤ 9223372036854775807 := SS.dims h.ss
end Go.Proofs.Ytbfjhehhpgcelaa

/- Contract: for each length the labels that walks lead from and to (reference's waPowers). -/
namespace Go.Proofs.Ytbfjhehhpgcelaa
open Go.ChangeShapes Go.WideShapes Go.ChangeAt Go.RowKit
set_option linter.unusedVariables false

theorem infoTabK : (Try.prog.info? 66).map (fun i => (i.zero, i.size, i.bytes)) = some (some (.slice none 0 0), 1, 24) := by kernel_rfl
theorem Own.one (w : World) (base : Nat) (e : TypeId) (u : Value) {g : Nat} (hg : w.heap.size = g) (hb : base ≤ g) : Own (w.alloc (.cells #[u] e)) base e (.slice (some ⟨g, 0, none⟩) 1 1) [u] := by
  subst hg
  refine ⟨by simp, .inr ⟨w.heap.size, 1, #[u], by simp, hb, heap_alloc_new w _, by simp, by unfold maxLen; omega, rfl, rfl⟩⟩
theorem OwnPS.one {w : World} {base lo hi : Nat} {u : Value} {xs : List (List Bool)} (hu : BoolSSx w lo hi u xs) (e : TypeId) (hb : base ≤ lo) (hlh : lo ≤ hi) (hh : hi ≤ w.heap.size) {g : Nat} (hg : w.heap.size = g) : OwnPS (w.alloc (.cells #[u] e)) base hi e (.slice (some ⟨g, 0, none⟩) 1 1) [xs] := by
  refine ⟨[u], fun _ => lo, fun _ => hi, rfl, Own.one w base e u hg (by omega), by omega, by simp; omega, fun j hj => ?_, fun i j h1 h2 => ?_⟩
  · obtain rfl : j = 0 := by simpa using hj
    refine ⟨u, rfl, hb, Nat.le_refl _, BSSx.still hu (grown_alloc _ _) hh, fun k hk => ?_⟩
    have hk' : g = k := by simpa [Value.ownBlock] using hk
    exact .inr (show hi ≤ k by omega)
  · simp at h2; omega
def lenK : Value → Nat
  | .slice _ n _ => n
  | _ => 0
theorem OwnPS.len' {w : World} {base top : Nat} {e : TypeId} {v : Value} {xss : List (List (List Bool))} (h : OwnPS w base top e v xss) : ∃ A c, v = .slice A xss.length c ∧ xss.length ≤ c ∧ c ≤ maxLen := h.len
def powL (n : Nat) (m : Nat → Nat → Bool) (k : Nat) : List (List (List Bool)) := (List.range (k + 1)).map fun i => relR n (wk n m i)
theorem powL_len (n : Nat) (m : Nat → Nat → Bool) (k : Nat) : (powL n m k).length = k + 1 := by simp [powL]
theorem nthL_powL {n k i : Nat} (m : Nat → Nat → Bool) (h : i ≤ k) : nthL (powL n m k) i = relR n (wk n m i) := by simp [nthL, powL, show i < k + 1 by omega]
theorem powL_succ (n : Nat) (m : Nat → Nat → Bool) (k : Nat) : powL n m (k + 1) = powL n m k ++ [relR n (wk n m (k + 1))] := by
  unfold powL; rw [List.range_succ, List.map_append]; rfl
theorem cmp_wk (n : Nat) (m : Nat → Nat → Bool) (k : Nat) : relR n (cmpR n (wk n m k) m) = relR n (wk n m (k + 1)) := rfl
def diagK (k a b : Nat) : Bool := a == b && decide (a < k)
theorem IsRel.of_relR (n : Nat) (m : Nat → Nat → Bool) : IsRel n m (relR n m) := ⟨relR_len n m, fun a ha => relR_row m ha, fun a b ha hb => nthB_relR m ha hb⟩
theorem IsRel.congr {n : Nat} {m m' : Nat → Nat → Bool} {xss : List (List Bool)} (h : IsRel n m xss) (e : ∀ a b, a < n → b < n → m a b = m' a b) : IsRel n m' xss := ⟨h.len, h.row, fun a b ha hb => (h.at_ a b ha hb).trans (e a b ha hb)⟩
theorem IsRel.diag {n k : Nat} {xss : List (List Bool)} (h : IsRel n (diagK k) xss) (hk : k < n) : IsRel n (diagK (k + 1)) (setAtB xss k k true) := by
  refine ⟨by rw [setAtB_length, h.len], fun a ha => by rw [setAtB_row xss (by rw [h.len]; exact hk)]; exact h.row a ha, fun a b ha hb => ?_⟩
  rw [nthL_setAtB (by rw [h.len]; exact hk)]
  by_cases e : a = k
  · subst e
    rw [if_pos rfl, nthB_set _ _ _ _ (by rw [h.row a ha]; exact hk), h.at_ a b ha hb]
    by_cases e2 : b = a
    · subst e2; simp [diagK]
    · rw [if_neg e2]; simp [diagK, show (a == b) = false by simp; omega]
  · rw [if_neg e, h.at_ a b ha hb]
    unfold diagK
    by_cases e2 : a < k
    · rw [decide_eq_true e2, decide_eq_true (show a < k + 1 by omega)]
    · rw [decide_eq_false e2, decide_eq_false (show ¬ a < k + 1 by omega)]

set_option maxHeartbeats 8000000 in
set_option maxRecDepth 100000 in
theorem waPowers_any (PL : Nat) (v1 : Value) (P : List (List Int)) (lo1 hi1 : Nat) (most : Nat) (w : World) (h1 : IntSS w lo1 hi1 v1 P) (hh1 : hi1 ≤ w.heap.size) (hg : wkGood (PL : Int) P = true) (hm : most ≤ 200) :
    Calls Try.prog 41 #[.agg #[.int .i64 (PL : Nat), v1], .int .i64 (most : Nat)] w fun e w' => ∃ r, e = .returned r ∧ PwSSx w' w.heap.size w'.heap.size r (powL PL (may P) most) ∧ Below w.heap.size w w' := by
  have HG := Lib.hid hg
  obtain ⟨n', hn', n1, n12⟩ := good_L hg
  obtain rfl : PL = n' := by omega
  clear hg hn'
  have F1 := Lib.hid h1
  obtain ⟨A1, c1, rfl, hc1, hd1⟩ := h1.dims
  clear h1
  obtain ⟨WA, HWA⟩ : ∃ W, Hid (W = (w.alloc (.cells #[.int .i64 PL, .slice A1 P.length c1] 26))) := ⟨_, Lib.hid rfl⟩
  have hbA : Below w.heap.size w WA := by rw [HWA.out]; exact ((Below.refl _ _).alloc (Nat.le_refl _) _)
  have hsA : w.heap.size + 1 ≤ WA.heap.size := by rw [HWA.out]; simp; try omega
  have bx1 : BoxN WA (w.heap.size) #[.int .i64 PL, .slice A1 P.length c1] 26 := by rw [HWA.out]; exact (BoxN.new' _ _ _ (by simp))
  have G1 := Lib.hid (ISS.below F1.out hbA hh1); clear F1
  go_enter Try.func41, Try.ntmps41
  go_upto_region 1 with (fail)
  rw [← HWA.out]; clear HWA
  have kbx1_0 : WA.cell? ⟨w.heap.size, 0, none⟩ = some (.int .i64 PL) := bx1.cell 0 (by simp)
  have kbx1_1 : WA.cell? ⟨w.heap.size, 1, none⟩ = some (.slice A1 P.length c1) := bx1.cell 1 (by simp)
  go_wp2_with fail
  clear kbx1_0 kbx1_1
  refine (waMay_any PL _ [] 0 0 _ (SS.nil _ _ _) (Nat.zero_le _) (fun i hi => absurd hi (by simp)) n1 n12).mono ?_
  rintro e W1 ⟨s, rfl, hs, hb1⟩
  have hg1 := grown_below hb1; clear hb1
  have hs1 := hg1.size
  have HF1 := Lib.hid ((Turned.refl WA.heap.size WA.heap.size WA).still hg1)
  have S1 := Lib.hid hs; clear hs
  obtain ⟨As, cs, rfl, hcs, hds⟩ := BSSx.dims S1.out
  rw [relR_len] at hcs S1
  rw [relR_len]
  go_wp2_with fail
  go_loopw [15] (fun iv wr => ∃ (k : Nat) (xss : List (List Bool)), k ≤ PL ∧ iv = .int .i64 k ∧ Hid (BoolSSx wr WA.heap.size W1.heap.size (.slice As PL cs) xss) ∧ Hid (IsRel PL (diagK k) xss) ∧ W1.heap.size ≤ wr.heap.size ∧ Hid (Turned WA.heap.size WA.heap.size WA wr)) (fun iv _ => PL - (intOf iv).toNat)
  case atStart => exact ⟨0, _, Nat.zero_le _, rfl, S1, Lib.hid ((IsRel.of_relR PL (may [])).congr fun a b _ _ => by rw [may_nil]; simp [diagK]), Nat.le_refl _, HF1⟩
  case round =>
    clear HF1
    obtain ⟨k, xss, hk, rfl, HX, HR, hzx, HF2⟩ := hrel
    have hs2 := HF2.out.size
    by_cases hlt : k < PL
    case pos =>
      have hki : (k : Int) < PL := by omega
      have hxl := HR.out.len
      have hrl := HR.out.row k hlt
      obtain ⟨bb, ob, b2, o2, c2, rfl, l1, l2, l3, l4, q1, q2, q3, q4, q5, hst⟩ := BSSx.place HX.out (by omega) (a := k) (i := k) (by rw [hxl]; exact hlt) (by rw [hrl]; exact hlt)
      rw [hrl] at q1 q2
      have HS2 := Lib.hid (hst true); clear hst hrl
      go_wp2_with fail
      go_roundw
      case rel => exact ⟨k + 1, _, by omega, by go_num, HS2, Lib.hid (HR.out.diag hlt), by rw [size_setCell]; exact hzx, Lib.hid (HF2.out.grown (grown_set _ ⟨b2, o2 + k, none⟩ _) fun g hg => .inr (by cases hg; exact l3))⟩
      case measure => simp [intOf]; omega
    obtain rfl : k = PL := by omega
    have hki : ¬ (k : Int) < k := by omega
    have hxe : xss = relR k (wk k (may P) 0) := (HR.out.congr (m' := wk k (may P) 0) fun a b ha hb => by simp [diagK, wk, ha]).eq
    rw [hxe] at HX
    clear hxe HR
    obtain ⟨w1, rfl⟩ : ∃ w1 : World, w1 = wr := ⟨_, rfl⟩
    go_upto_region 8 with (fail)
    refine nameC ?_
    intro W3 HW3
    have hg3 : w1.grownBy W3 none := by rw [HW3.out]; exact grown_alloc _ _
    have hs3 := hg3.size
    have HF3 := Lib.hid (HF2.out.still hg3); clear HF2
    have HO := Lib.hid (show OwnPS W3 WA.heap.size W1.heap.size 66 (.slice (some ⟨w1.heap.size, 0, none⟩) 1 1) [relR k (wk k (may P) 0)] by rw [HW3.out]; exact OwnPS.one HX.out _ (Nat.le_refl _) (by omega) (by omega) rfl)
    have hzo : w1.heap.size + 1 ≤ W3.heap.size := by rw [HW3.out]; simp
    clear HW3 HX
    have kbx1_0 : W3.cell? ⟨w.heap.size, 0, none⟩ = some (.int .i64 (k : Nat)) := (HF3.out.boxN bx1 (by omega)).cell 0 (by simp)
    have kbx1_1 : W3.cell? ⟨w.heap.size, 1, none⟩ = some (.slice A1 P.length c1) := (HF3.out.boxN bx1 (by omega)).cell 1 (by simp)
    go_wp2_with fail
    clear kbx1_0 kbx1_1
    refine (waMay_any k _ P _ _ _ (ISS.turned G1.out HF3.out (by omega) (by omega)) (by omega) (good_arcsIn HG.out) n1 n12).mono ?_
    rintro e W4 ⟨m, rfl, hm2, hb4⟩
    have hg4 := grown_below hb4; clear hb4
    have hs4 := hg4.size
    have HF4 := Lib.hid (HF3.out.still hg4); clear HF3
    have M4 := Lib.hid hm2; clear hm2
    obtain ⟨Am, cm, rfl, hcm, hdm⟩ := BSSx.dims M4.out
    rw [relR_len] at hcm M4
    rw [relR_len]
    have HO2 := Lib.hid (OwnPS.still HO.out hg4)
    have HAP0 := Lib.hid (show ∀ g, Value.ownBlock (.slice (some ⟨w1.heap.size, 0, none⟩) 1 1) = some g → g < W3.heap.size ∨ W4.heap.size ≤ g from fun g e => by
      have e' : w1.heap.size = g := by simpa [Value.ownBlock] using e
      omega)
    go_wp2_with fail
    go_loopw [7] (fun vv wr => ∃ (i top : Nat), i ≤ most ∧ Hid (OwnPS wr WA.heap.size top 66 vv (powL k (may P) i)) ∧ top ≤ wr.heap.size ∧ Hid (BoolSSx wr W3.heap.size W4.heap.size (.slice Am k cm) (relR k (may P))) ∧ W4.heap.size ≤ wr.heap.size ∧ Hid (∀ g, vv.ownBlock = some g → g < W3.heap.size ∨ W4.heap.size ≤ g) ∧ Hid (Turned WA.heap.size WA.heap.size WA wr)) (fun vv _ => most + 2 - lenK vv)
    case atStart => exact ⟨0, W1.heap.size, Nat.zero_le _, HO2, by omega, M4, Nat.le_refl _, HAP0, HF4⟩
    case round =>
      clear HF4
      obtain ⟨i, top, hi, HO, htp, HM, hzm, HAP, HF5⟩ := hrel
      have hs5 := HF5.out.size
      obtain ⟨w2, rfl⟩ : ∃ w2 : World, w2 = wr := ⟨_, rfl⟩
      have HLT := Lib.hid HO.out.lt
      have hpl := powL_len k (may P) i
      obtain ⟨Ao, co, rfl, hco, hdo⟩ := HO.out.len'
      rw [hpl] at HO hco HLT HAP
      try rw [hpl]
      have HPL := Lib.hid hpl
      have hx := HO.out.ssx
      by_cases him : i < most
      case neg =>
        obtain rfl : i = most := by omega
        have hii : ¬ (((i + 1 : Nat) : Int)) ≤ i := by omega
        have HX := Lib.hid hx
        clear hx
        go_wp2_with fail
        go_ret
        exact ⟨_, rfl, SSx.mono (fun h => BSSx.mono h (by omega) (Nat.le_refl _)) HX.out (by omega) (Nat.le_refl _), (HF5.out.below_of hbA (by omega) (by omega))⟩
      obtain ⟨bo, oo, u, rfl, _, _, xu, hu⟩ := PwSSx.openRow hx (j := i) (by rw [HPL.out]; omega)
      rw [nthL_powL (may P) (Nat.le_refl i)] at hu
      have HU := Lib.hid hu
      clear hu hx
      have him2 : (((i + 1 : Nat) : Int)) ≤ most := by omega
      have him3 : ((i + 1 : Nat) : Int) - 1 = (i : Int) := by omega
      obtain ⟨I1, HI1⟩ : ∃ z, Hid (i + 1 = z) := ⟨_, Lib.hid rfl⟩
      rw [HI1.out] at HO hco HLT HAP him2 him3 HPL
      try rw [HI1.out]
      have hI1 := HI1.out
      have hil : (i : Int) < I1 := by omega
      clear hI1
      go_wp2_with fail
      refine (waTimes_any u (relR k (wk k (may P) i)) _ _ _ (relR k (may P)) _ _ _ HU.out (Nat.le_refl _) HM.out (by omega) k (wk k (may P) i) (may P) rfl rfl n1 n12).mono ?_
      rintro e W6 ⟨q, rfl, hq, hb6⟩
      have hg6 := grown_below hb6; clear hb6
      have hs6 := hg6.size
      have HF6 := Lib.hid (HF5.out.still hg6); clear HF5
      have O6 := Lib.hid (OwnPS.still HO.out hg6); clear HO
      have M6 := Lib.hid (BSSx.still HM.out hg6 (by omega)); clear HM
      have Q6 := Lib.hid hq; clear hq
      rw [cmp_wk] at Q6
      obtain ⟨Aq, cq, rfl, hcq, hdq⟩ := BSSx.dims Q6.out
      have HNX := Lib.hid (show powL k (may P) (i + 1) = powL k (may P) i ++ [relR k (wk k (may P) (i + 1))] from powL_succ _ _ _)
      have hlt1 := HLT.out
      have hap1 := HAP.out
      have hll : (powL k (may P) i).length < 1099511627776 := by rw [powL_len]; omega
      go_wp2_with (at_builtin; refine append_ps (s := .tmp 33) Try.underlying64 infoTabK (by decide) W6 rfl _ rfl O6.out Q6.out htp (Nat.le_refl _) (by omega) (fun g e => .inl (hlt1 g e).2) _ (by simp [Act.eval, go_sem]) (by simp [Act.eval, go_sem]) hll ?_; intro v' w' ho' hg' hat')
      go_roundw
      case rel =>
        have hgs := hg'.size
        have hapn : Hid (∀ g, v'.ownBlock = some g → g < W3.heap.size ∨ W4.heap.size ≤ g) := Lib.hid fun g e => by
          rcases hat' with h | h
          · exact hap1 g (h ▸ e)
          · rw [h] at e
            injection e with e
            right
            omega
        exact ⟨i + 1, W6.heap.size, by omega, Lib.hid (by rw [HNX.out]; exact ho'), hgs, Lib.hid (BSSx.far M6.out hg' (by omega) hap1), by omega, hapn, Lib.hid (HF6.out.grown hg' (fun g e => .inr (hlt1 g e).1))⟩
      case measure =>
        obtain ⟨_, _, rfl, _⟩ := ho'.len'
        have hq1 := HI1.out; have hq2 := HPL.out
        simp [lenK, hq2]; omega

end Go.Proofs.Ytbfjhehhpgcelaa

/- Appends of whole slices of numbers onto rows of a call's own; the reference's l1Put: a number put into an increasing list. -/
namespace Go.Proofs.Ytbfjhehhpgcelaa
open Go.ChangeShapes Go.WideShapes Go.ChangeAt Go.RowKit
set_option linter.unusedVariables false

theorem OwnI.lower {w : World} {base b' : Nat} {e : TypeId} {v : Value} {zs : List Int} (h : OwnI w base e v zs) (hb : b' ≤ base) : OwnI w b' e v zs := by
  obtain ⟨h1, h2⟩ := h
  refine ⟨h1, ?_⟩
  rcases h2 with h2 | ⟨g, cap, cur, e1, hg, r⟩
  · exact .inl h2
  · exact .inr ⟨g, cap, cur, e1, by omega, r⟩
theorem OwnI.empty (w : World) (base : Nat) (e : TypeId) {g : Nat} (hg : w.heap.size = g) (hb : base ≤ g) : OwnI (w.alloc (.cells #[] e)) base e (.slice (some ⟨g, 0, none⟩) 0 0) [] := by
  subst hg
  refine ⟨by simp, .inr ⟨w.heap.size, 0, #[], by simp, hb, heap_alloc_new w _, by simp, by simp, by simp, by simp⟩⟩
/-- append of a slice of numbers that is known cell by cell -/
theorem append_ints {P : Program} {ops : Array Oper} {rest : List Oper} {o : Oper} {a : Act} {Q : Exit → Act → World → Prop} {t e : TypeId} {bytes : Nat}
    (ht : P.underlying t = some (.slice e)) (hinfo : (P.info? e).map (fun i => (i.zero, i.size, i.bytes)) = some (some (.int .i64 0), 1, bytes)) (hby : bytes ≤ 64)
    (w : World) (hgd : o.guard = none) {s : Operand} (x : Operand) (ho : o.op = .call { callee := .builtin .append, args := #[s, x], argTypes := #[t, t] })
    {base : Nat} {v : Value} {zs : List Int} (hown : OwnI w base e v zs) (hs : a.eval s = v) {g off m c : Nat} (ys : List Int) (hm : ys.length = m) (hx : a.eval x = .slice (some ⟨g, off, none⟩) m c)
    (hcell : ∀ j, j < m → w.cell? ⟨g, off + j, none⟩ = some (.int .i64 (nth ys j))) (hlen : zs.length + m ≤ 1099511627776) (hbase : base ≤ w.heap.size)
    (h : ∀ v' w', OwnI w' base e v' (zs ++ ys) → w.grownBy w' v.ownBlock → wpList P ops Q rest (a.put o.dst v') w') :
    wpList P ops Q (o :: rest) a w := by
  refine append_row ht hinfo rfl (by omega) hby w hgd x ho hown hs (ys.map (Value.int .i64)) hx (by simp [hm]) ?_ ?_ (by simpa using hlen) hbase fun v' w' a1 a2 _ => h v' w' ?_ a2
  · intro j u hj
    have hjl : j < ys.length := by have := (List.getElem?_eq_some_iff.1 hj).1; simpa using this
    rw [List.getElem?_map, nth_get? hjl] at hj
    rw [show (⟨g, off, none⟩ : Addr).add j = ⟨g, off + j, none⟩ from Go.WideShapes.add_plain g off j, hcell j (by omega)]
    exact hj
  · intro u hu
    obtain ⟨z, _, rfl⟩ := List.mem_map.1 hu
    rfl
  · unfold OwnI Own
    rw [List.map_append]
    simpa [hm] using a1
end Go.Proofs.Ytbfjhehhpgcelaa

/- Contracts: the numbers of a set in order; the sets of labels that walks lead to (program). -/
namespace Go.Proofs.Ytbfjhehhpgcelaa
open Go.ChangeShapes Go.WideShapes Go.ChangeAt Go.RowKit
set_option linter.unusedVariables false

theorem OwnI.one (w : World) (base : Nat) (e : TypeId) (z : Int) {g : Nat} (hg : w.heap.size = g) (hb : base ≤ g) : OwnI (w.alloc (.cells #[.int .i64 z] e)) base e (.slice (some ⟨g, 0, none⟩) 1 1) [z] := by
  subst hg
  refine ⟨by simp, .inr ⟨w.heap.size, 1, #[.int .i64 z], by simp, hb, heap_alloc_new w _, by simp, by unfold maxLen; omega, rfl, rfl⟩⟩
theorem pow64 {y : Nat} (hy : y < 12) : Go.RowKit.wrap64 (2 ^ y) = ((2 ^ y : Nat) : Int) := by
  have hp : 2 ^ y < 4096 := Nat.lt_of_lt_of_le (Nat.pow_lt_pow_right (by decide) hy) (Nat.le_refl _)
  rw [show (2 : Int) ^ y = ((2 ^ y : Nat) : Int) by rw [Int.natCast_pow]; rfl]
  generalize 2 ^ y = q at hp
  unfold Go.RowKit.wrap64; omega

set_option maxHeartbeats 2000000 in
set_option maxRecDepth 100000 in
theorem labelsIn_any (S : Nat) (w : World)  (n : Nat) (f : Nat → Bool) (hS : S = setOf n f) (hn : n ≤ 12) :
    Calls Try.prog 38 #[.int .i64 (S : Nat)] w fun e w' => ∃ r, e = .returned (r) ∧ IntS w' w.heap.size w'.heap.size r (ascI n f) ∧ Below w.heap.size w w' := by
  have HS := Lib.hid hS
  have hsl : S < 4096 := by rw [hS]; exact setOf_12 hn f
  clear hS
  go_enter Try.func38, Try.ntmps38
  go_wp2_with fail
  go_loopw [3, 4] (fun vv av wr => ∃ (a : Nat), a ≤ n ∧ av = .int .i64 a ∧ Hid (OwnI wr w.heap.size 3 vv (ascI a f)) ∧ Hid (Turned w.heap.size w.heap.size w wr)) (fun vv av _ => n - (intOf av).toNat)
  case atStart => exact ⟨0, Nat.zero_le _, rfl, Lib.hid (OwnI.nil _ _ _), Lib.hid (Turned.refl w.heap.size w.heap.size w)⟩
  case round =>
    obtain ⟨a, ha, rfl, HO, HF1⟩ := hrel
    have hs1 := HF1.out.size
    have hdv := powW S a
    obtain ⟨q, HQ⟩ : ∃ q, Hid (S / 2 ^ a = q) := ⟨_, Lib.hid rfl⟩
    have hql : q < 4096 := by rw [← HQ.out]; exact Nat.lt_of_le_of_lt (Nat.div_le_self _ _) hsl
    rw [HQ.out] at hdv
    by_cases hq : q = 0
    case pos =>
      subst hq
      have hE := ascI_end (f := f) (fun j h1 h2 => setOf_end (by rw [← HS.out]; exact HQ.out) h1 h2) ha
      have HE := Lib.hid hE; clear hE
      go_wp2_with fail
      go_ret
      refine ⟨_, rfl, ?_, (HF1.out.below_of (Below.refl _ _) (by omega) (by omega))⟩
      rw [← HE.out]
      exact HO.out.ints
    have hlt : a < n := by
      rcases Nat.lt_or_ge a n with h | h
      · exact h
      · exfalso
        have h2 := setOf_big n f
        rw [← HS.out, ← show a = n by omega, HQ.out] at h2
        exact hq h2
    have hqn : ((q : Int) != 0) = true := by simp; omega
    have hqn2 : ¬ (q : Int) = 0 := by omega
    have hb := andW q hql
    have hbit := setOf_bit f hlt
    rw [← HS.out, HQ.out] at hbit
    rw [hbit] at hb
    have hin := ascI_succ a f
    clear hbit hq
    cases hf : f a with
    | false =>
      rw [hf] at hb hin
      have hb' : bits .and .i64 (q : Int) 1 = 0 := hb
      have HIN := Lib.hid (show ascI (a + 1) f = ascI a f by rw [hin]; simp)
      clear hb hin hf
      go_wp2_with fail
      go_roundw
      case rel => exact ⟨a + 1, by omega, by go_num, Lib.hid (by rw [HIN.out]; exact HO.out), HF1⟩
      case measure => simp [intOf]; omega
    | true =>
      rw [hf] at hb hin
      have hb' : bits .and .i64 (q : Int) 1 = 1 := hb
      have HIN := Lib.hid (show ascI (a + 1) f = ascI a f ++ [(a : Int)] by rw [hin]; simp)
      have hln := ascI_len a f
      have HLT := Lib.hid HO.out.lt
      clear hb hin hf
      go_wp2_with (at_builtin; refine append_int (s := .tmp 16) Try.underlying29 Try.info3 (by decide) wr rfl _ rfl HO.out a _ rfl (by simp [Act.eval, go_sem]) (by omega) (by omega) ?_; intro v' w' ho' hg' hat')
      go_roundw
      case rel => exact ⟨a + 1, by omega, by go_num, Lib.hid (by rw [HIN.out]; exact ho'), Lib.hid (HF1.out.grown hg' fun g e => .inr (HLT.out g e).1)⟩
      case measure => simp [intOf]; omega

def reachL (n : Nat) (m : Nat → Nat → Bool) (a most : Nat) : List Int := (List.range (most + 1)).map fun k => ((setOf n (wk n m k a) : Nat) : Int)
theorem reachL_len (n : Nat) (m : Nat → Nat → Bool) (a k : Nat) : (reachL n m a k).length = k + 1 := by simp [reachL]
theorem nth_reachL {n a most k : Nat} (m : Nat → Nat → Bool) (h : k ≤ most) : nth (reachL n m a most) k = ((setOf n (wk n m k a) : Nat) : Int) := by simp [nth, reachL, show k < most + 1 by omega]
theorem reachL_succ (n : Nat) (m : Nat → Nat → Bool) (a k : Nat) : reachL n m a (k + 1) = reachL n m a k ++ [((setOf n (wk n m (k + 1) a) : Nat) : Int)] := by
  unfold reachL; rw [List.range_succ, List.map_append]; rfl
theorem reach_step {n : Nat} {m : Nat → Nat → Bool} {a k j : Nat} (h : (ascI n (wk n m k a)).length ≤ j) : setOf n (fun c => anyK n (wk n m k a) j fun b => m b c) = setOf n (wk n m (k + 1) a) :=
  setOf_congr fun c hc => by rw [anyK_full h]; rfl
theorem any_step {n j x : Nat} {m : Nat → Nat → Bool} {f : Nat → Bool} (h : (ascN n f)[j]? = some x) : setOf n (fun c => anyK n f (j + 1) fun b => m b c) = (setOf n (fun c => anyK n f j fun b => m b c) ||| setOf n (m x)) := by
  rw [setOf_or]; exact setOf_congr fun c _ => anyK_succ h
theorem any_start (n : Nat) (f : Nat → Bool) (m : Nat → Nat → Bool) : setOf n (fun c => anyK n f 0 fun b => m b c) = 0 := by
  rw [setOf_congr (g := fun _ => false) (fun c _ => anyK_zero n f _), setOf_none]

set_option maxHeartbeats 4000000 in
set_option maxRecDepth 100000 in
theorem reached_any (PL : Nat) (v1 : Value) (P : List (List Int)) (lo1 hi1 : Nat) (a : Nat) (most : Nat) (w : World) (h1 : IntSS w lo1 hi1 v1 P) (hh1 : hi1 ≤ w.heap.size) (hg : wkGood (PL : Int) P = true) (ha : a < PL) (hm : most ≤ 200) :
    Calls Try.prog 31 #[.agg #[.int .i64 (PL : Nat), v1], .int .i64 (a : Nat), .int .i64 (most : Nat)] w fun e w' => ∃ r, e = .returned (r) ∧ IntS w' w.heap.size w'.heap.size r (reachL PL (may P) a most) ∧ Below w.heap.size w w' := by
  have HG := Lib.hid hg
  obtain ⟨n', hn', n1, n12⟩ := good_L hg
  obtain rfl : PL = n' := by omega
  clear hg hn'
  have F1 := Lib.hid h1
  obtain ⟨A1, c1, rfl, hc1, hd1⟩ := h1.dims
  clear h1
  obtain ⟨WA, HWA⟩ : ∃ W, Hid (W = (w.alloc (.cells #[.int .i64 PL, .slice A1 P.length c1] 26))) := ⟨_, Lib.hid rfl⟩
  have hbA : Below w.heap.size w WA := by rw [HWA.out]; exact ((Below.refl _ _).alloc (Nat.le_refl _) _)
  have hsA : w.heap.size + 1 ≤ WA.heap.size := by rw [HWA.out]; simp; try omega
  have bx1 : BoxN WA (w.heap.size) #[.int .i64 PL, .slice A1 P.length c1] 26 := by rw [HWA.out]; exact (BoxN.new' _ _ _ (by simp))
  have G1 := Lib.hid (ISS.below F1.out hbA hh1); clear F1
  go_enter Try.func31, Try.ntmps31
  go_upto_region 1 with (fail)
  rw [← HWA.out]; clear HWA
  have kbx1_0 : WA.cell? ⟨w.heap.size, 0, none⟩ = some (.int .i64 PL) := bx1.cell 0 (by simp)
  have kbx1_1 : WA.cell? ⟨w.heap.size, 1, none⟩ = some (.slice A1 P.length c1) := bx1.cell 1 (by simp)
  go_wp2_with fail
  clear kbx1_0 kbx1_1
  refine (after_any PL _ P _ _ _ G1.out (by omega) HG.out).mono ?_
  rintro e W1 ⟨r, rfl, hr, hb1⟩
  have hg1 := grown_below hb1; clear hb1
  have hs1 := hg1.size
  have HF1 := Lib.hid ((Turned.refl WA.heap.size WA.heap.size WA).still hg1)
  have R1 := Lib.hid hr; clear hr
  obtain ⟨Ar, cr, rfl, hcr, hdr⟩ := IntS.dims R1.out
  rw [aftL_len] at hcr R1
  rw [aftL_len]
  have hp := pow64 (show a < 12 by omega)
  rw [show ((2 ^ a : Nat) : Int) = ((setOf PL (wk PL (may P) 0 a) : Nat) : Int) by rw [setOf_one ha]; rfl] at hp
  obtain ⟨S0, HS0⟩ : ∃ s, Hid (setOf PL (wk PL (may P) 0 a) = s) := ⟨_, Lib.hid rfl⟩
  rw [HS0.out] at hp
  have P_1 := Lib.hid (ISS.turned G1.out HF1.out (by omega) (by omega)); clear G1
  have bx1_1 := HF1.out.boxN bx1 (by omega); clear bx1
  have hbA1 : Below w.heap.size w W1 := (HF1.out.below_of hbA (by omega) (by omega)); clear hbA HF1
  go_upto_region 3 with (fail)
  refine nameC ?_
  intro W2 HW2
  have hg2 : W1.grownBy W2 none := by rw [HW2.out]; exact grown_alloc _ _
  have hs2 := hg2.size
  have HF2 := Lib.hid ((Turned.refl W1.heap.size W1.heap.size W1).still hg2)
  have HO := Lib.hid (show OwnI W2 W1.heap.size 3 (.slice (some ⟨W1.heap.size, 0, none⟩) 1 1) [(S0 : Int)] by rw [HW2.out]; exact OwnI.one _ _ _ _ rfl (Nat.le_refl _))
  clear HW2
  go_wp2_with fail
  go_loopw [8, 19] (fun vv kv wr => ∃ (k : Nat), k ≤ most ∧ kv = .int .i64 k ∧ Hid (OwnI wr W1.heap.size 3 vv (reachL PL (may P) a k)) ∧ Hid (Turned W1.heap.size W1.heap.size W1 wr)) (fun vv kv _ => most - (intOf kv).toNat)
  case atStart => exact ⟨0, Nat.zero_le _, rfl, Lib.hid (by rw [show reachL PL (may P) a 0 = [(S0 : Int)] by rw [← HS0.out]; rfl]; exact HO.out), HF2⟩
  case round =>
    clear HF2
    obtain ⟨k, hk, rfl, HO, HF3⟩ := hrel
    have hs3 := HF3.out.size
    by_cases hlt : k < most
    case neg =>
      obtain rfl : k = most := by omega
      go_wp2_with fail
      go_ret
      exact ⟨_, rfl, HO.out.ints.mono (by omega) (Nat.le_refl _), (HF3.out.below_of hbA1 (by omega) (by omega))⟩
    have hki : (k : Int) < most := by omega
    have hln := reachL_len PL (may P) a k
    have HLT := Lib.hid HO.out.lt
    obtain ⟨Av, cv, rfl, hcv, hdv⟩ := HO.out.ints.dims
    rw [hln] at hcv
    obtain ⟨bv, ov, rfl, _, hbv, xv, _⟩ := HO.out.ints.opened (j := k) (by omega)
    rw [nth_reachL _ (Nat.le_refl _)] at xv
    obtain ⟨S, HS⟩ : ∃ s, Hid (setOf PL (wk PL (may P) k a) = s) := ⟨_, Lib.hid rfl⟩
    rw [HS.out] at xv
    rw [hln] at HO
    try rw [hln]
    go_wp2_with fail
    refine (labelsIn_any S _ PL (wk PL (may P) k a) HS.out.symm n12).mono ?_
    rintro e W4 ⟨u, rfl, hu, hb4⟩
    have hg4 := grown_below hb4; clear hb4
    have hs4 := hg4.size
    have HF4 := Lib.hid (HF3.out.still hg4); clear HF3
    have O4 := Lib.hid (OwnI.still HO.out hg4); clear HO
    have U4 := Lib.hid hu; clear hu
    obtain ⟨Au, cu, rfl, hcu, hdu⟩ := IntS.dims U4.out
    go_wp2_with fail
    go_loop [10, 28] (fun nv jv => ∃ (j N : Nat), j ≤ (ascI PL (wk PL (may P) k a)).length ∧ jv = .int .i64 j ∧ nv = .int .i64 N ∧ Hid (setOf PL (fun c => anyK PL (wk PL (may P) k a) j fun b => may P b c) = N)) (fun nv jv => (ascI PL (wk PL (may P) k a)).length - (intOf jv).toNat)
    case atStart => exact ⟨0, 0, Nat.zero_le _, rfl, rfl, Lib.hid (any_start _ _ _)⟩
    case round =>
      obtain ⟨j, N, hj, rfl, rfl, HN⟩ := hrel
      by_cases hjl : j < (ascI PL (wk PL (may P) k a)).length
      case pos =>
        obtain ⟨x, ex, hx, hfx, hxa⟩ := ascI_at hjl
        have hAN := any_step (m := may P) hxa
        rw [HN.out] at hAN
        have hn1 : N < 4096 := by rw [← HN.out]; exact setOf_12 n12 _
        have hn2 := setOf_12 n12 (may P x)
        obtain ⟨bu, ou, rfl, _, hbu, xu, _⟩ := U4.out.opened hjl
        rw [ex] at xu
        obtain ⟨br, or, rfl, _, hbr, xr, _⟩ := (IntS.turned R1.out HF4.out (by omega) (by omega)).opened (j := x) (by rw [aftL_len]; exact hx)
        rw [nth_aftL _ hx] at xr
        obtain ⟨T1, HT1⟩ : ∃ s, Hid (setOf PL (may P x) = s) := ⟨_, Lib.hid rfl⟩
        rw [HT1.out] at xr hn2 hAN
        have hor := orC_i64 N T1 hn1 hn2
        have HAN := Lib.hid hAN
        clear hAN ex hxa hfx
        have hxi : (x : Int) < PL := by omega
        have hji : (j : Int) < (ascI PL (wk PL (may P) k a)).length := by omega
        go_wp2_with fail
        go_round
        case rel => exact ⟨j + 1, _, by omega, by go_num, rfl, HAN⟩
        case measure => simp [intOf]; omega
      have HNX := Lib.hid (show reachL PL (may P) a (k + 1) = reachL PL (may P) a k ++ [(N : Int)] by rw [reachL_succ, ← reach_step (Nat.le_of_not_lt hjl), HN.out])
      have hjn : ¬ (j : Int) < (ascI PL (wk PL (may P) k a)).length := by omega
      have hbase : W1.heap.size ≤ W4.heap.size := by omega
      go_wp2_with (at_builtin; refine append_int (s := .tmp 39) Try.underlying29 Try.info3 (by decide) W4 rfl _ rfl O4.out N _ rfl (by simp [Act.eval, go_sem]) (by omega) (by omega) ?_; intro v' w' ho' hg' hat')
      go_roundw
      case rel => exact ⟨_, _, _, _, _, ⟨k + 1, by omega, by go_num, Lib.hid (by rw [HNX.out]; exact ho'), Lib.hid (HF4.out.grown hg' fun g e => .inr (by first | exact (HLT.out g e).1 | (have := HLT.out g (by simpa [Value.ownBlock] using e); omega)))⟩, rfl, rfl, rfl, rfl, rfl⟩
      case measure => simp [intOf]; omega

end Go.Proofs.Ytbfjhehhpgcelaa

/- Contract: whether labels are those of a cycle (program). -/
namespace Go.Proofs.Ytbfjhehhpgcelaa
open Go.ChangeShapes Go.WideShapes Go.ChangeAt Go.RowKit
set_option linter.unusedVariables false

theorem own_appY {w : World} {base : Nat} {e : TypeId} {v : Value} {ps : List Int} {z : Int} (h : w.ownsRow base e 1 v (ps.length + 1) (ps.map (Value.int .i64) ++ [.int .i64 z])) : OwnI w base e v (ps ++ [z]) := by
  unfold OwnI Own
  rw [List.map_append]
  simpa using h
theorem inL_app {n : Nat} {zs : List Int} (h : inL n zs) (hp : 0 < zs.length) : inL n (zs ++ [nth zs 0]) := fun j hj => by
  rw [List.length_append, List.length_singleton] at hj
  by_cases e : j < zs.length
  · obtain ⟨x, h1, h2⟩ := h j e
    exact ⟨x, by rw [← h1]; simp [nth, List.getElem?_append_left e], h2⟩
  · obtain rfl : j = zs.length := by omega
    obtain ⟨x, h1, h2⟩ := h 0 hp
    exact ⟨x, by rw [← h1]; simp [nth], h2⟩

set_option maxHeartbeats 4000000 in
set_option maxRecDepth 100000 in
theorem IsCycleLabeling_any (PL : Nat) (v1 : Value) (P : List (List Int)) (lo1 hi1 : Nat) (v2 : Value) (Z : List Int) (lo2 hi2 : Nat) (w : World) (h1 : IntSS w lo1 hi1 v1 P) (hh1 : hi1 ≤ w.heap.size) (h2 : IntS w lo2 hi2 v2 Z) (hh2 : hi2 ≤ w.heap.size) (hg : wkGood (PL : Int) P = true) (hz : inL PL Z) (hp : 0 < Z.length) (hp2 : Z.length ≤ 200) :
    Calls Try.prog 11 #[.agg #[.int .i64 (PL : Nat), v1], v2] w fun e w' => e = .returned (.tuple #[.bool (walkB (may P) (Z ++ [nth Z 0])), .bool true]) ∧ Below w.heap.size w w' := by
  have HG := Lib.hid hg
  obtain ⟨n', hn', n1, n12⟩ := good_L hg
  obtain rfl : PL = n' := by omega
  have HZ := Lib.hid hz
  clear hg hn' hz
  have F1 := Lib.hid h1
  obtain ⟨A1, c1, rfl, hc1, hd1⟩ := h1.dims
  clear h1
  have F2 := Lib.hid h2
  obtain ⟨A2, c2, rfl, hc2, hd2⟩ := h2.dims
  clear h2
  obtain ⟨WA, HWA⟩ : ∃ W, Hid (W = (w.alloc (.cells #[.int .i64 PL, .slice A1 P.length c1] 26))) := ⟨_, Lib.hid rfl⟩
  have hbA : Below w.heap.size w WA := by rw [HWA.out]; exact ((Below.refl _ _).alloc (Nat.le_refl _) _)
  have hsA : w.heap.size + 1 ≤ WA.heap.size := by rw [HWA.out]; simp; try omega
  have bx1 : BoxN WA (w.heap.size) #[.int .i64 PL, .slice A1 P.length c1] 26 := by rw [HWA.out]; exact (BoxN.new' _ _ _ (by simp))
  have G1 := Lib.hid (ISS.below F1.out hbA hh1); clear F1
  have G2 := Lib.hid (IntS.below F2.out hbA hh2); clear F2
  go_enter Try.func11, Try.ntmps11
  go_upto_region 1 with (fail)
  rw [← HWA.out]; clear HWA
  have kbx1_0 : WA.cell? ⟨w.heap.size, 0, none⟩ = some (.int .i64 PL) := bx1.cell 0 (by simp)
  have kbx1_1 : WA.cell? ⟨w.heap.size, 1, none⟩ = some (.slice A1 P.length c1) := bx1.cell 1 (by simp)
  go_wp2_with fail
  clear kbx1_0 kbx1_1
  refine (IsWalkProblem_any (PL : Int) _ P _ _ _ G1.out (by omega)).mono ?_
  rintro e W1 ⟨rfl, hb1⟩
  have hg1 := grown_below hb1; clear hb1
  have hs1 := hg1.size
  have HF1 := Lib.hid ((Turned.refl WA.heap.size WA.heap.size WA).still hg1)
  have kbx1_0 : W1.cell? ⟨w.heap.size, 0, none⟩ = some (.int .i64 PL) := (HF1.out.boxN bx1 (by omega)).cell 0 (by simp)
  have kbx1_1 : W1.cell? ⟨w.heap.size, 1, none⟩ = some (.slice A1 P.length c1) := (HF1.out.boxN bx1 (by omega)).cell 1 (by simp)
  rw [HG.out]
  go_wp2_with fail
  clear kbx1_0 kbx1_1
  refine (areWalkLabels_any PL _ P _ _ _ Z _ _ _ (ISS.turned G1.out HF1.out (by omega) (by omega)) (by omega) (IntS.turned G2.out HF1.out (by omega) (by omega)) (by omega) HG.out HZ.out hp hp2).mono ?_
  rintro e W2 ⟨rfl, hb2⟩
  have hg2 := grown_below hb2; clear hb2
  have hs2 := hg2.size
  have HF2 := Lib.hid (HF1.out.still hg2); clear HF1
  obtain ⟨i1, hi1', hz1⟩ := Option.map_eq_some_iff.1 Try.info3
  simp only [Prod.mk.injEq] at hz1
  obtain ⟨hz1a, hz1b, hz1c⟩ := hz1
  have HI1 := Lib.hid hz1a; have HI2 := Lib.hid hz1b; have HI3 := Lib.hid hz1c; have HII := Lib.hid hi1'
  clear hz1a hz1b hz1c hi1'
  go_wp2_with fail
  obtain ⟨bz, oz, rfl, _, hbz, xz, _⟩ := G2.out.opened (j := 0) hp
  rw [Nat.add_zero] at xz
  obtain ⟨z0, HZ0⟩ : ∃ z, Hid (nth Z 0 = z) := ⟨_, Lib.hid rfl⟩
  rw [HZ0.out] at xz
  refine wp_region_U (fun w' => w'.cell? ⟨w.heap.size, 0, none⟩ = some (.int .i64 PL) ∧ w'.cell? ⟨w.heap.size, 1, none⟩ = some (.slice A1 P.length c1) ∧ w'.cell? ⟨bz, oz, none⟩ = some (.int .i64 z0)) [] (by kernel_rfl) ?_
  refine nameU ?_
  intro W3 HW3
  have hg3 : W2.grownBy W3 none := by rw [HW3.out]; exact grown_drew _
  clear HW3
  have hs3 := hg3.size
  have HF3 := Lib.hid (HF2.out.still hg3); clear HF2
  have hS4 : W3.cell? ⟨w.heap.size, 0, none⟩ = some (.int .i64 PL) ∧ W3.cell? ⟨w.heap.size, 1, none⟩ = some (.slice A1 P.length c1) ∧ W3.cell? ⟨bz, oz, none⟩ = some (.int .i64 z0) := ⟨(HF3.out.boxN bx1 (by omega)).cell 0 (by simp), (HF3.out.boxN bx1 (by omega)).cell 1 (by simp), ((HF3.out.cell (by omega) (by omega)).trans xz)⟩
  refine anyU_take (i := 0) (v := .agg #[.int .i64 PL, .slice A1 P.length c1]) rfl (by kernel_rfl) (by kernel_rfl) (by kernel_rfl) (fun _ _ _ h => h) ⟨by rfl, fun w' hS' => (by obtain ⟨s1, s2, s3⟩ := hS'; go_simp)⟩ hS4 ?_
  simp only [List.getElem_toArray, List.getElem_cons_zero, Act.put, List.setIfInBounds_toArray, List.set_cons_zero, List.set_cons_succ]
  refine anyU_take (i := 1) (v := .slice (some ⟨bz, oz, none⟩) Z.length c2) rfl (by kernel_rfl) (by kernel_rfl) (by kernel_rfl) (fun _ _ _ h => h) ⟨by rfl, fun w' hS' => (by obtain ⟨s1, s2, s3⟩ := hS'; go_simp)⟩ hS4 ?_
  simp only [List.getElem_toArray, List.getElem_cons_succ, List.getElem_cons_zero, Act.put, List.setIfInBounds_toArray, List.set_cons_zero, List.set_cons_succ]
  refine anyU_take (i := 3) (v := .slice (some ⟨bz, oz, none⟩) Z.length c2) rfl (by kernel_rfl) (by kernel_rfl) (by kernel_rfl) (fun _ _ _ h => h) ⟨by rfl, fun w' hS' => (by obtain ⟨s1, s2, s3⟩ := hS'; go_simp)⟩ hS4 ?_
  simp only [List.getElem_toArray, List.getElem_cons_succ, List.getElem_cons_zero, Act.put, List.setIfInBounds_toArray, List.set_cons_zero, List.set_cons_succ]
  refine anyU_take (i := 4) (v := .pointer (some ⟨bz, oz, none⟩)) rfl (by kernel_rfl) (by kernel_rfl) (by kernel_rfl) (fun _ _ _ h => h) ⟨by rfl, fun w' hS' => (by obtain ⟨s1, s2, s3⟩ := hS'; go_simp)⟩ hS4 ?_
  simp only [List.getElem_toArray, List.getElem_cons_succ, List.getElem_cons_zero, Act.put, List.setIfInBounds_toArray, List.set_cons_zero, List.set_cons_succ]
  refine anyU_take (i := 5) (v := .int .i64 z0) rfl (by kernel_rfl) (by kernel_rfl) (by kernel_rfl) (fun _ _ _ h => h) ⟨by rfl, fun w' hS' => (by obtain ⟨s1, s2, s3⟩ := hS'; go_simp)⟩ hS4 ?_
  simp only [List.getElem_toArray, List.getElem_cons_succ, List.getElem_cons_zero, Act.put, List.setIfInBounds_toArray, List.set_cons_zero, List.set_cons_succ]
  refine anyU_ready (rs := [2, 6]) (by kernel_rfl) (by simp) ?_
  refine ReadyU.cons (i := 2) rfl (fun K hK => ?_) ?_
  · skip
    simp only [List.getElem_toArray, List.getElem_cons_succ, List.getElem_cons_zero]
    refine ite_is (by rfl) ?_
    simp [go_sem]
    refine (clone_any _ Z _ _ _ (IntS.turned G2.out HF3.out (by omega) (by omega)) (by omega)).mono ?_
    rintro e W5 ⟨r6, rfl, hr6, hb5⟩
    have hg5 := grown_below hb5; clear hb5
    have hs5 := hg5.size
    have HF5 := Lib.hid (HF3.out.still hg5); clear HF3
    have O5 := Lib.hid hr6; clear hr6
    have LO := Lib.hid O5.out.lt
    have hS6 : W5.cell? ⟨w.heap.size, 0, none⟩ = some (.int .i64 PL) ∧ W5.cell? ⟨w.heap.size, 1, none⟩ = some (.slice A1 P.length c1) ∧ W5.cell? ⟨bz, oz, none⟩ = some (.int .i64 z0) := ⟨(HF5.out.boxN bx1 (by omega)).cell 0 (by simp), (HF5.out.boxN bx1 (by omega)).cell 1 (by simp), ((HF5.out.cell (by omega) (by omega)).trans xz)⟩
    refine hK.out _ _ ⟨fun _ => hS6, ?_⟩
    clear hK K hS4
    try simp only [List.getElem_toArray, List.getElem_cons_succ, List.getElem_cons_zero, Act.put, List.setIfInBounds_toArray, List.set_cons_zero, List.set_cons_succ]
    refine anyU_ready (rs := [6]) (by kernel_rfl) (by simp) ?_
    refine ReadyU.cons (i := 6) rfl (fun K hK => ?_) ?_
    · skip
      simp only [List.getElem_toArray, List.getElem_cons_succ, List.getElem_cons_zero]
      refine ite_is (by rfl) ?_
      simp [go_sem]
      refine hK.out _ _ ⟨fun _ => ⟨((HF5.out.boxN bx1 (by omega)).still (grown_alloc _ _)).cell 0 (by simp), ((HF5.out.boxN bx1 (by omega)).still (grown_alloc _ _)).cell 1 (by simp), (World.cell?_alloc_old _ _ _ (by have := HF5.out.size; show bz ≠ _; omega)).trans ((HF5.out.cell (by omega) (by omega)).trans xz)⟩, ?_⟩
      clear hK K
      try simp only [List.getElem_toArray, List.getElem_cons_succ, List.getElem_cons_zero, Act.put, List.setIfInBounds_toArray, List.set_cons_zero, List.set_cons_succ]
      refine nameU ?_
      intro W7 HW7
      have hg7 : W5.grownBy W7 none := by rw [HW7.out]; exact grown_alloc _ _
      have BV7 := Lib.hid (show BoxN W7 W5.heap.size #[.int .i64 z0] 3 by rw [HW7.out]; exact BoxN.new _ _ _)
      have hz7 : W5.heap.size < W7.heap.size := BV7.out.lt
      clear HW7
      have hs7 := hg7.size
      have HF7 := Lib.hid (HF5.out.still hg7); clear HF5
      have O7 := Lib.hid (OwnI.still O5.out hg7); clear O5
      have hS8 : W7.cell? ⟨w.heap.size, 0, none⟩ = some (.int .i64 PL) ∧ W7.cell? ⟨w.heap.size, 1, none⟩ = some (.slice A1 P.length c1) ∧ W7.cell? ⟨bz, oz, none⟩ = some (.int .i64 z0) := ⟨(HF7.out.boxN bx1 (by omega)).cell 0 (by simp), (HF7.out.boxN bx1 (by omega)).cell 1 (by simp), ((HF7.out.cell (by omega) (by omega)).trans xz)⟩
      clear hS6
      refine anyU_ready (rs := [7]) (by kernel_rfl) (by simp) ?_
      refine ReadyU.cons (i := 7) rfl (fun K hK => ?_) ReadyU.nil
      have LOX := Lib.hid O7.out.lt
      refine step_append_lies W7 (by rfl) _ _ _ (by rfl) W3.heap.size 3 i1 _ 1 _ Try.underlying29 HII.out HI1.out HI2.out HI3.out rfl (by omega) r6 _ (Z.map (Value.int .i64)) (by rfl) O7.out ⟨W5.heap.size, 0, none⟩ 1 1 [.int .i64 z0] (by rfl) (by rfl) (World.news_of_block BV7.out) (by simp [Value.oneCell']) (by omega) (by rw [List.length_map]; unfold maxLen; omega) (by rw [List.length_map]; omega) (by omega) _ rfl ?_
      intro gp cp W9 hown hg9 hatp hltp
      simp only [List.length_map] at hown ⊢
      have hs9 := hg9.size
      have HF9 := Lib.hid (HF7.out.grown hg9 (fun g hg => .inr (by have := LO.out g hg; omega))); clear HF7
      have HOO := Lib.hid (own_appY hown)
      clear hown LOX
      have hS10 : W9.cell? ⟨w.heap.size, 0, none⟩ = some (.int .i64 PL) ∧ W9.cell? ⟨w.heap.size, 1, none⟩ = some (.slice A1 P.length c1) ∧ W9.cell? ⟨bz, oz, none⟩ = some (.int .i64 z0) := ⟨(HF9.out.boxN bx1 (by omega)).cell 0 (by simp), (HF9.out.boxN bx1 (by omega)).cell 1 (by simp), ((HF9.out.cell (by omega) (by omega)).trans xz)⟩
      refine hK.out _ _ ⟨fun _ => hS10, ?_⟩
      clear hK K hS8
      try simp only [List.getElem_toArray, List.getElem_cons_succ, List.getElem_cons_zero, Act.put, List.setIfInBounds_toArray, List.set_cons_zero, List.set_cons_succ]
      have hal : (Z ++ [z0]).length = Z.length + 1 := by simp
      have HIA := Lib.hid (show inL PL (Z ++ [z0]) by rw [← HZ0.out]; exact inL_app HZ.out hp)
      refine anyU_ready (rs := [8]) (by kernel_rfl) (by simp) ?_
      refine ReadyU.cons (i := 8) rfl (fun K hK => ?_) ReadyU.nil
      simp only [List.getElem_toArray, List.getElem_cons_succ, List.getElem_cons_zero]
      refine ite_is (by rfl) ?_
      simp [go_sem]
      skip
      refine (isWalk_any PL _ P _ _ _ (Z ++ [z0]) _ _ _ (ISS.turned G1.out HF9.out (by omega) (by omega)) (by omega) HOO.out.ints (Nat.le_refl _) HG.out HIA.out (by omega)).mono ?_
      rintro e W11 ⟨rfl, hb11⟩
      have hg11 := grown_below hb11; clear hb11
      have hs11 := hg11.size
      have HF11 := Lib.hid (HF9.out.still hg11); clear HF9
      have O11 := Lib.hid (OwnI.still HOO.out hg11); clear HOO
      have hS12 : W11.cell? ⟨w.heap.size, 0, none⟩ = some (.int .i64 PL) ∧ W11.cell? ⟨w.heap.size, 1, none⟩ = some (.slice A1 P.length c1) ∧ W11.cell? ⟨bz, oz, none⟩ = some (.int .i64 z0) := ⟨(HF11.out.boxN bx1 (by omega)).cell 0 (by simp), (HF11.out.boxN bx1 (by omega)).cell 1 (by simp), ((HF11.out.cell (by omega) (by omega)).trans xz)⟩
      refine hK.out _ _ ⟨fun _ => hS12, ?_⟩
      clear hK K hS10
      try simp only [List.getElem_toArray, List.getElem_cons_succ, List.getElem_cons_zero, Act.put, List.setIfInBounds_toArray, List.set_cons_zero, List.set_cons_succ]
      refine anyU_ready (rs := [9]) (by kernel_rfl) (by simp) ?_
      refine ReadyU.cons (i := 9) rfl (fun K hK => ?_) ReadyU.nil
      simp only [List.getElem_toArray, List.getElem_cons_succ, List.getElem_cons_zero]
      refine ite_is (by rfl) ?_
      simp [go_sem]
      refine hK.out _ _ ⟨fun _ => hS12, ?_⟩
      clear hK K
      try simp only [List.getElem_toArray, List.getElem_cons_succ, List.getElem_cons_zero, Act.put, List.setIfInBounds_toArray, List.set_cons_zero, List.set_cons_succ]
      refine anyU_ready (rs := [10]) (by kernel_rfl) (by simp) ?_
      refine ReadyU.cons (i := 10) rfl (fun K hK => ?_) ReadyU.nil
      simp only [List.getElem_toArray, List.getElem_cons_succ, List.getElem_cons_zero]
      refine ite_is (by rfl) ?_
      simp [go_sem]
      refine hK.out _ _ ⟨fun _ => hS12, ?_⟩
      clear hK K
      try simp only [List.getElem_toArray, List.getElem_cons_succ, List.getElem_cons_zero, Act.put, List.setIfInBounds_toArray, List.set_cons_zero, List.set_cons_succ]
      clear hS12
      refine anyU_done (by kernel_rfl) ?_ _
      go_wp2_with fail
      go_ret2
      exact ⟨ret_bb (by rw [HZ0.out]) rfl, (HF11.out.below_of hbA (by omega) (by omega))⟩
    exact ReadyU.nil
  refine ReadyU.cons (i := 6) rfl (fun K hK => ?_) ?_
  · skip
    simp only [List.getElem_toArray, List.getElem_cons_succ, List.getElem_cons_zero]
    refine ite_is (by rfl) ?_
    simp [go_sem]
    refine hK.out _ _ ⟨fun _ => ⟨((HF3.out.boxN bx1 (by omega)).still (grown_alloc _ _)).cell 0 (by simp), ((HF3.out.boxN bx1 (by omega)).still (grown_alloc _ _)).cell 1 (by simp), (World.cell?_alloc_old _ _ _ (by have := HF3.out.size; show bz ≠ _; omega)).trans ((HF3.out.cell (by omega) (by omega)).trans xz)⟩, ?_⟩
    clear hK K
    try simp only [List.getElem_toArray, List.getElem_cons_succ, List.getElem_cons_zero, Act.put, List.setIfInBounds_toArray, List.set_cons_zero, List.set_cons_succ]
    refine nameU ?_
    intro W13 HW13
    have hg13 : W3.grownBy W13 none := by rw [HW13.out]; exact grown_alloc _ _
    have BV13 := Lib.hid (show BoxN W13 W3.heap.size #[.int .i64 z0] 3 by rw [HW13.out]; exact BoxN.new _ _ _)
    have hz13 : W3.heap.size < W13.heap.size := BV13.out.lt
    clear HW13
    have hs13 := hg13.size
    have HF13 := Lib.hid (HF3.out.still hg13); clear HF3
    have hS14 : W13.cell? ⟨w.heap.size, 0, none⟩ = some (.int .i64 PL) ∧ W13.cell? ⟨w.heap.size, 1, none⟩ = some (.slice A1 P.length c1) ∧ W13.cell? ⟨bz, oz, none⟩ = some (.int .i64 z0) := ⟨(HF13.out.boxN bx1 (by omega)).cell 0 (by simp), (HF13.out.boxN bx1 (by omega)).cell 1 (by simp), ((HF13.out.cell (by omega) (by omega)).trans xz)⟩
    clear hS4
    refine anyU_ready (rs := [2]) (by kernel_rfl) (by simp) ?_
    refine ReadyU.cons (i := 2) rfl (fun K hK => ?_) ?_
    · skip
      simp only [List.getElem_toArray, List.getElem_cons_succ, List.getElem_cons_zero]
      refine ite_is (by rfl) ?_
      simp [go_sem]
      refine (clone_any _ Z _ _ _ (IntS.turned G2.out HF13.out (by omega) (by omega)) (by omega)).mono ?_
      rintro e W15 ⟨r6, rfl, hr6, hb15⟩
      have hg15 := grown_below hb15; clear hb15
      have hs15 := hg15.size
      have HF15 := Lib.hid (HF13.out.still hg15); clear HF13
      have BV15 := Lib.hid (BoxN.still BV13.out hg15); clear BV13
      have O15 := Lib.hid hr6; clear hr6
      have LO := Lib.hid O15.out.lt
      have hS16 : W15.cell? ⟨w.heap.size, 0, none⟩ = some (.int .i64 PL) ∧ W15.cell? ⟨w.heap.size, 1, none⟩ = some (.slice A1 P.length c1) ∧ W15.cell? ⟨bz, oz, none⟩ = some (.int .i64 z0) := ⟨(HF15.out.boxN bx1 (by omega)).cell 0 (by simp), (HF15.out.boxN bx1 (by omega)).cell 1 (by simp), ((HF15.out.cell (by omega) (by omega)).trans xz)⟩
      refine hK.out _ _ ⟨fun _ => hS16, ?_⟩
      clear hK K hS14
      try simp only [List.getElem_toArray, List.getElem_cons_succ, List.getElem_cons_zero, Act.put, List.setIfInBounds_toArray, List.set_cons_zero, List.set_cons_succ]
      refine anyU_ready (rs := [7]) (by kernel_rfl) (by simp) ?_
      refine ReadyU.cons (i := 7) rfl (fun K hK => ?_) ReadyU.nil
      have LOX := Lib.hid O15.out.lt
      refine step_append_lies W15 (by rfl) _ _ _ (by rfl) W13.heap.size 3 i1 _ 1 _ Try.underlying29 HII.out HI1.out HI2.out HI3.out rfl (by omega) r6 _ (Z.map (Value.int .i64)) (by rfl) O15.out ⟨W3.heap.size, 0, none⟩ 1 1 [.int .i64 z0] (by rfl) (by rfl) (World.news_of_block BV15.out) (by simp [Value.oneCell']) (by omega) (by rw [List.length_map]; unfold maxLen; omega) (by rw [List.length_map]; omega) (by omega) _ rfl ?_
      intro gp cp W17 hown hg17 hatp hltp
      simp only [List.length_map] at hown ⊢
      have hs17 := hg17.size
      have HF17 := Lib.hid (HF15.out.grown hg17 (fun g hg => .inr (by have := LO.out g hg; omega))); clear HF15
      have HOO := Lib.hid (own_appY hown)
      clear hown LOX
      have hS18 : W17.cell? ⟨w.heap.size, 0, none⟩ = some (.int .i64 PL) ∧ W17.cell? ⟨w.heap.size, 1, none⟩ = some (.slice A1 P.length c1) ∧ W17.cell? ⟨bz, oz, none⟩ = some (.int .i64 z0) := ⟨(HF17.out.boxN bx1 (by omega)).cell 0 (by simp), (HF17.out.boxN bx1 (by omega)).cell 1 (by simp), ((HF17.out.cell (by omega) (by omega)).trans xz)⟩
      refine hK.out _ _ ⟨fun _ => hS18, ?_⟩
      clear hK K hS16
      try simp only [List.getElem_toArray, List.getElem_cons_succ, List.getElem_cons_zero, Act.put, List.setIfInBounds_toArray, List.set_cons_zero, List.set_cons_succ]
      have hal : (Z ++ [z0]).length = Z.length + 1 := by simp
      have HIA := Lib.hid (show inL PL (Z ++ [z0]) by rw [← HZ0.out]; exact inL_app HZ.out hp)
      refine anyU_ready (rs := [8]) (by kernel_rfl) (by simp) ?_
      refine ReadyU.cons (i := 8) rfl (fun K hK => ?_) ReadyU.nil
      simp only [List.getElem_toArray, List.getElem_cons_succ, List.getElem_cons_zero]
      refine ite_is (by rfl) ?_
      simp [go_sem]
      skip
      refine (isWalk_any PL _ P _ _ _ (Z ++ [z0]) _ _ _ (ISS.turned G1.out HF17.out (by omega) (by omega)) (by omega) HOO.out.ints (Nat.le_refl _) HG.out HIA.out (by omega)).mono ?_
      rintro e W19 ⟨rfl, hb19⟩
      have hg19 := grown_below hb19; clear hb19
      have hs19 := hg19.size
      have HF19 := Lib.hid (HF17.out.still hg19); clear HF17
      have O19 := Lib.hid (OwnI.still HOO.out hg19); clear HOO
      have hS20 : W19.cell? ⟨w.heap.size, 0, none⟩ = some (.int .i64 PL) ∧ W19.cell? ⟨w.heap.size, 1, none⟩ = some (.slice A1 P.length c1) ∧ W19.cell? ⟨bz, oz, none⟩ = some (.int .i64 z0) := ⟨(HF19.out.boxN bx1 (by omega)).cell 0 (by simp), (HF19.out.boxN bx1 (by omega)).cell 1 (by simp), ((HF19.out.cell (by omega) (by omega)).trans xz)⟩
      refine hK.out _ _ ⟨fun _ => hS20, ?_⟩
      clear hK K hS18
      try simp only [List.getElem_toArray, List.getElem_cons_succ, List.getElem_cons_zero, Act.put, List.setIfInBounds_toArray, List.set_cons_zero, List.set_cons_succ]
      refine anyU_ready (rs := [9]) (by kernel_rfl) (by simp) ?_
      refine ReadyU.cons (i := 9) rfl (fun K hK => ?_) ReadyU.nil
      simp only [List.getElem_toArray, List.getElem_cons_succ, List.getElem_cons_zero]
      refine ite_is (by rfl) ?_
      simp [go_sem]
      refine hK.out _ _ ⟨fun _ => hS20, ?_⟩
      clear hK K
      try simp only [List.getElem_toArray, List.getElem_cons_succ, List.getElem_cons_zero, Act.put, List.setIfInBounds_toArray, List.set_cons_zero, List.set_cons_succ]
      refine anyU_ready (rs := [10]) (by kernel_rfl) (by simp) ?_
      refine ReadyU.cons (i := 10) rfl (fun K hK => ?_) ReadyU.nil
      simp only [List.getElem_toArray, List.getElem_cons_succ, List.getElem_cons_zero]
      refine ite_is (by rfl) ?_
      simp [go_sem]
      refine hK.out _ _ ⟨fun _ => hS20, ?_⟩
      clear hK K
      try simp only [List.getElem_toArray, List.getElem_cons_succ, List.getElem_cons_zero, Act.put, List.setIfInBounds_toArray, List.set_cons_zero, List.set_cons_succ]
      clear hS20
      refine anyU_done (by kernel_rfl) ?_ _
      go_wp2_with fail
      go_ret2
      exact ⟨ret_bb (by rw [HZ0.out]) rfl, (HF19.out.below_of hbA (by omega) (by omega))⟩
    exact ReadyU.nil
  exact ReadyU.nil

end Go.Proofs.Ytbfjhehhpgcelaa
