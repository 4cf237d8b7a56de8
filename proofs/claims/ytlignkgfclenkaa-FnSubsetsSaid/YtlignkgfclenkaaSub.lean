/-
  Contracts: binomial numbers, subsets by rank and ranks, all subsets (program and reference).
-/
import Derived.Test.YtlignkgfclenkaaSubP
import Derived.Test.YtlignkgfclenkaaBin2
import Derived.Test.YtlignkgfclenkaaOwnSS
import Derived.Test.YtlignkgfclenkaaNearP
namespace Go.Proofs.Ytlignkgfclenkaa
open Go.ChangeShapes Go.WideShapes Go.ChangeAt Go.RowKit
set_option linter.unusedVariables false

theorem ret_ivn {x y : Int} {c d : Bool} (h : x = y) (h2 : c = d) : Ending.returned (.tuple #[.int .i64 x, .bool c]) = .returned (.tuple #[.int .i64 y, .bool d]) := by rw [h, h2]
theorem Try.infoRowS : (Try.prog.info? 53).map (fun i => (i.zero, i.size, i.bytes)) = some (some (.slice none 0 0), 1, 24) := by kernel_rfl

set_option maxHeartbeats 1000000 in
set_option maxRecDepth 100000 in
theorem Binomial_any (n : Int) (k : Int) (w : World)   :
    Calls Try.prog 27 #[.int .i64 n, .int .i64 k] w fun e w' => e = .returned (.tuple #[.int .i64 (binV n k : Nat), .bool (binOk n k)]) ∧ Below w.heap.size w w' := by
  go_enter Try.func27, Try.ntmps27
  go_wp2_with fail
  refine (within_any n 0 60 _).mono ?_
  rintro e w' ⟨rfl, rfl⟩
  by_cases g1 : inB n 0 60 = true
  case neg =>
    have g1' : inB n 0 60 = false := by simpa using g1
    rw [g1']
    have G1 := Lib.hid g1'; clear g1 g1'
    go_wp2_with fail
    go_ret2
    exact ⟨ret_ivn (by rw [binV_no (show binOk n k = false by unfold binOk; rw [G1.out]; rfl)]; rfl) (show binOk n k = false by unfold binOk; rw [G1.out]; rfl).symm, (Below.refl _ _)⟩
  rw [g1]
  have G1 := Lib.hid g1; clear g1
  go_wp2_with fail
  refine (within_any k 0 60 _).mono ?_
  rintro e w' ⟨rfl, rfl⟩
  by_cases g2 : inB k 0 60 = true
  case neg =>
    have g2' : inB k 0 60 = false := by simpa using g2
    rw [g2']
    have G2 := Lib.hid g2'; clear g2 g2'
    go_wp2_with fail
    go_ret2
    exact ⟨ret_ivn (by rw [binV_no (show binOk n k = false by unfold binOk; rw [G2.out]; simp)]; rfl) (show binOk n k = false by unfold binOk; rw [G2.out]; simp).symm, (Below.refl _ _)⟩
  rw [g2]
  have G2 := Lib.hid g2; clear g2
  have HOK := Lib.hid (show binOk n k = true by unfold binOk; rw [G1.out, G2.out]; rfl)
  obtain ⟨h1, h2, h3, h4⟩ := binOk_parts HOK.out
  go_wp2_with fail
  refine (binomial_int n k n.toNat k.toNat _ (by omega) (by omega) (by omega) (by omega)).mono ?_
  rintro e w1 ⟨rfl, hb1⟩
  rw [← binV_yes HOK.out]
  obtain ⟨b, HB⟩ : ∃ b, Hid (binV n k = b) := ⟨_, Lib.hid rfl⟩
  rw [HB.out]
  go_wp2_with fail
  go_ret2
  exact ⟨ret_ivn (by rw [HB.out]) HOK.out.symm, hb1⟩

set_option maxHeartbeats 1000000 in
set_option maxRecDepth 100000 in
theorem nuSixty_any (n : Int) (k : Int) (w : World)   :
    Calls Try.prog 62 #[.int .i64 n, .int .i64 k] w fun e w' => e = .returned (.bool (binOk n k)) ∧ w = w' := by
  go_enter Try.func62, Try.ntmps62
  go_wp2_with fail
  refine (l1In_any n 0 60 _).mono ?_
  rintro e w' ⟨rfl, rfl⟩
  cases g1 : inB n 0 60 with
  | false =>
    have G1 := Lib.hid g1; clear g1
    go_wp2_with fail
    go_ret
    exact ⟨ret_bool (by unfold binOk; rw [G1.out]; rfl), rfl⟩
  | true =>
    have G1 := Lib.hid g1; clear g1
    go_wp2_with fail
    refine (l1In_any k 0 60 _).mono ?_
    rintro e w' ⟨rfl, rfl⟩
    go_wp2_with fail
    go_ret
    exact ⟨ret_bool (by unfold binOk; rw [G1.out]; rfl), rfl⟩

set_option maxHeartbeats 1000000 in
set_option maxRecDepth 100000 in
theorem SubsetAt_any (n : Int) (k : Int) (r : Int) (w : World)   :
    Calls Try.prog 29 #[.int .i64 n, .int .i64 k, .int .i64 r] w fun e w' => ∃ q, e = .returned (.tuple #[q, .bool (atOk n k r)]) ∧ IntS w' w.heap.size w'.heap.size q (atV n k r) ∧ Below w.heap.size w w' := by
  go_enter Try.func29, Try.ntmps29
  go_wp2_with fail
  refine (Binomial_any n k _).mono ?_
  rintro e W1 ⟨rfl, hb1⟩
  have hg1 := grown_below hb1; clear hb1
  have hs1 := hg1.size
  have HF1 := Lib.hid ((Turned.refl w.heap.size w.heap.size w).still hg1)
  have hbl := binV_le n k
  obtain ⟨b, HB⟩ : ∃ b, Hid (binV n k = b) := ⟨_, Lib.hid rfl⟩
  rw [HB.out] at hbl
  rw [HB.out]
  have hbw : IntKind.i64.wrap ((b : Int) - 1) = (b : Int) - 1 := IntWalk.i64_in _ (by omega)
  cases g1 : binOk n k with
  | false =>
    have HNO := Lib.hid (show atOk n k r = false by unfold atOk; rw [g1]; rfl)
    clear g1
    go_wp2_with fail
    go_ret2
    exact ⟨_, ret_vb HNO.out.symm, by unfold atV; rw [HNO.out]; exact IntS.nil _ _ _, (HF1.out.below_of (Below.refl _ _) (by omega) (by omega))⟩
  | true =>
    have G1 := Lib.hid g1; clear g1
    go_wp2_with fail
    refine (within_any r 0 ((b : Int) - 1) _).mono ?_
    rintro e w' ⟨rfl, rfl⟩
    cases g2 : inB r 0 ((b : Int) - 1) with
    | false =>
      have HNO := Lib.hid (show atOk n k r = false by unfold atOk; rw [HB.out, g2]; simp)
      clear g2
      go_wp2_with fail
      go_ret2
      exact ⟨_, ret_vb HNO.out.symm, by unfold atV; rw [HNO.out]; exact IntS.nil _ _ _, (HF1.out.below_of (Below.refl _ _) (by omega) (by omega))⟩
    | true =>
      have hr := inB_le g2
      have HOK := Lib.hid (show atOk n k r = true by unfold atOk; rw [G1.out, HB.out, g2]; rfl)
      clear g2
      obtain ⟨h1, h2, h3, h4⟩ := binOk_parts G1.out
      obtain ⟨n', rfl⟩ : ∃ m : Nat, n = m := ⟨n.toNat, by omega⟩
      obtain ⟨k', rfl⟩ : ∃ m : Nat, k = m := ⟨k.toNat, by omega⟩
      obtain ⟨r', rfl⟩ : ∃ m : Nat, r = m := ⟨r.toNat, by omega⟩
      have HRB := Lib.hid (show r' < ch n' k' by have := binV_yes G1.out; rw [HB.out] at this; simp only [Int.toNat_natCast] at this; omega)
      go_wp2_with fail
      refine (subsetAt_any n' k' r' _ (by omega) HRB.out).mono ?_
      rintro e W2 ⟨q, rfl, hq, hb2⟩
      have hg2 := grown_below hb2; clear hb2
      have hs2 := hg2.size
      have HF2 := Lib.hid (HF1.out.still hg2); clear HF1
      have Q2 := Lib.hid hq; clear hq
      go_wp2_with fail
      go_ret2
      exact ⟨_, ret_vb HOK.out.symm, by unfold atV; rw [if_pos HOK.out]; exact IntS.mono Q2.out (by omega) (by omega), (HF2.out.below_of (Below.refl _ _) (by omega) (by omega))⟩

set_option maxHeartbeats 2000000 in
set_option maxRecDepth 100000 in
theorem SubsetsOf_impl (n : Int) (k : Int) (w : World)   :
    Calls Try.prog 24 #[.int .i64 n, .int .i64 k] w fun e w' => ∃ q, e = .returned (.tuple #[q, .bool (subsOk n k)]) ∧ IntSS w' w.heap.size w'.heap.size q (subsL n k) ∧ Below w.heap.size w w' := by
  go_enter Try.func24, Try.ntmps24
  go_wp2_with fail
  refine (Binomial_any n k _).mono ?_
  rintro e W1 ⟨rfl, hb1⟩
  have hg1 := grown_below hb1; clear hb1
  have hs1 := hg1.size
  have HF1 := Lib.hid ((Turned.refl w.heap.size w.heap.size w).still hg1)
  have hbl := binV_le n k
  obtain ⟨b, HB⟩ : ∃ b, Hid (binV n k = b) := ⟨_, Lib.hid rfl⟩
  rw [HB.out] at hbl
  rw [HB.out]
  cases g1 : binOk n k with
  | false =>
    have HNO := Lib.hid (show subsOk n k = false by unfold subsOk; rw [g1]; rfl)
    clear g1
    go_wp2_with fail
    go_ret2
    exact ⟨_, ret_vb HNO.out.symm, by unfold subsL; rw [HNO.out]; exact SS.nil _ _ _, (HF1.out.below_of (Below.refl _ _) (by omega) (by omega))⟩
  | true =>
    have G1 := Lib.hid g1; clear g1
    obtain ⟨h1, h2, h3, h4⟩ := binOk_parts G1.out
    obtain ⟨n', rfl⟩ : ∃ m : Nat, n = m := ⟨n.toNat, by omega⟩
    obtain ⟨k', rfl⟩ : ∃ m : Nat, k = m := ⟨k.toNat, by omega⟩
    have HBC := Lib.hid (show ch n' k' = b by have := binV_yes G1.out; rw [HB.out] at this; simp only [Int.toNat_natCast] at this; exact this.symm)
    by_cases hb : b ≤ 1000
    case neg =>
      have hbd : decide ((1000 : Int) < (b : Int)) = true := decide_eq_true (by omega)
      have hbi : (1000 : Int) < (b : Int) := by omega
      have HNO := Lib.hid (show subsOk (n' : Int) (k' : Int) = false by unfold subsOk; rw [HB.out, decide_eq_false hb]; simp)
      clear hb
      go_wp2_with fail
      go_ret2
      exact ⟨_, ret_vb HNO.out.symm, by unfold subsL; rw [HNO.out]; exact SS.nil _ _ _, (HF1.out.below_of (Below.refl _ _) (by omega) (by omega))⟩
    have hbd : decide ((1000 : Int) < (b : Int)) = false := decide_eq_false (by omega)
    have hbi : ¬ (1000 : Int) < (b : Int) := by omega
    have HOK := Lib.hid (show subsOk (n' : Int) (k' : Int) = true by unfold subsOk; rw [G1.out, HB.out, decide_eq_true hb]; rfl)
    have HLL := Lib.hid (show subsL (n' : Int) (k' : Int) = (List.range b).map fun r => subN n' 0 k' r by rw [subsL_yes HOK.out, HB.out]; simp)
    go_wp2_with fail
    go_loopw [8, 23] (fun ov iv wr => ∃ (r top : Nat) (xss : List (List Int)), r ≤ b ∧ iv = .int .i64 r ∧ Hid (OwnSS wr w.heap.size top 53 ov xss) ∧ Hid (xss = (List.range r).map fun r => subN n' 0 k' r) ∧ Hid (Below w.heap.size w wr)) (fun ov iv _ => b - (intOf iv).toNat)
    case atStart => exact ⟨0, w.heap.size, [], Nat.zero_le _, rfl, Lib.hid (OwnSS.nil _ _ _ _ (Nat.le_refl _) (by omega)), Lib.hid rfl, Lib.hid (HF1.out.below_of (Below.refl _ _) (by omega) (by omega))⟩
    case round =>
      obtain ⟨r, top, xss, hr, rfl, HO, HX, HBW⟩ := hrel
      have hbs := HBW.out.size
      have hxl : xss.length = r := by rw [HX.out]; simp
      have HXL := Lib.hid hxl; clear hxl
      obtain ⟨Ao, co, rfl, hco, hdo⟩ := HO.out.len
      obtain ⟨lx, HLX⟩ : ∃ l, Hid (xss.length = l) := ⟨_, Lib.hid rfl⟩
      rw [HLX.out] at hco
      by_cases hlt : r < b
      case neg =>
        go_wp2_with fail
        go_ret2
        refine ⟨_, ret_vb HOK.out.symm, ?_, HBW.out⟩
        have er : r = b := by omega
        have e : subsL (n' : Int) (k' : Int) = xss := by rw [HLL.out, HX.out, er]
        rw [e]
        exact SSx.ss HO.out.ssx
      have hri : (r : Int) < b := by omega
      have HRB := Lib.hid (show r < ch n' k' by rw [HBC.out]; exact hlt)
      go_wp2_with fail
      refine (subsetAt_any n' k' r _ (by omega) HRB.out).mono ?_
      rintro e W5 ⟨q, rfl, hq, hb5⟩
      obtain ⟨qs, HQS⟩ : ∃ l, Hid (subN n' 0 k' r = l) := ⟨_, Lib.hid rfl⟩
      rw [HQS.out] at hq
      have HQ := Lib.hid hq; clear hq
      obtain ⟨Aq, cq, rfl, hcq, hdq⟩ := HQ.out.dims
      have HO5 := Lib.hid (HO.out.below hb5 : OwnSS W5 w.heap.size top 53 (.slice Ao xss.length co) xss)
      have HB5 := Lib.hid (HBW.out.trans (hb5.mono (by have := HBW.out.size; omega)))
      have hs5 := hb5.size
      have hlv := HO.out.lt
      have hlv5 := HO5.out.lt
      have htop : top ≤ wr.heap.size := by obtain ⟨_, _, _, _, _, _, h, _⟩ := HO.out; exact h
      clear hb5
      go_wp2_with (at_builtin; refine append_ss (s := .tmp 26) Try.underlying46 Try.infoRowS (by decide) W5 rfl _ rfl HO5.out (lo := wr.heap.size) (hi := W5.heap.size) HQ.out htop (Nat.le_refl _) hs5 (fun g hg => .inl (hlv g hg).2) _ rfl (by simp [Act.eval, go_sem]) (by rw [HXL.out]; omega) ?_; intro v' w' ho' hg' hat')
      go_roundw
      case rel =>
        refine ⟨r + 1, _, _, hlt, by go_num, Lib.hid ho', Lib.hid ?_, Lib.hid ?_⟩
        · rw [HX.out, List.range_succ, List.map_append, ← HQS.out]; rfl
        · exact HB5.out.grown hg' HB5.out.size fun g hg => (hlv5 g hg).1
      case measure => simp [intOf]; omega

set_option maxHeartbeats 2000000 in
set_option maxRecDepth 100000 in
theorem SubsetsOf_spec (n : Int) (k : Int) (w : World)   :
    Calls Try.prog 25 #[.int .i64 n, .int .i64 k] w fun e w' => ∃ q, e = .returned (.tuple #[q, .bool (subsOk n k)]) ∧ IntSS w' w.heap.size w'.heap.size q (subsL n k) ∧ Below w.heap.size w w' := by
  go_enter Try.func25, Try.ntmps25
  go_wp2_with fail
  refine (nuSixty_any n k _).mono ?_
  rintro e w' ⟨rfl, rfl⟩
  have hbl := binV_le n k
  obtain ⟨b, HB⟩ : ∃ b, Hid (binV n k = b) := ⟨_, Lib.hid rfl⟩
  rw [HB.out] at hbl
  cases g1 : binOk n k with
  | false =>
    have HNO := Lib.hid (show subsOk n k = false by unfold subsOk; rw [g1]; rfl)
    clear g1
    go_wp2_with fail
    go_ret2
    exact ⟨_, ret_vb HNO.out.symm, by unfold subsL; rw [HNO.out]; exact SS.nil _ _ _, (Below.refl _ _)⟩
  | true =>
    have G1 := Lib.hid g1; clear g1
    obtain ⟨h1, h2, h3, h4⟩ := binOk_parts G1.out
    obtain ⟨n', rfl⟩ : ∃ m : Nat, n = m := ⟨n.toNat, by omega⟩
    obtain ⟨k', rfl⟩ : ∃ m : Nat, k = m := ⟨k.toNat, by omega⟩
    have HBC := Lib.hid (show ch n' k' = b by have := binV_yes G1.out; rw [HB.out] at this; simp only [Int.toNat_natCast] at this; exact this.symm)
    go_wp2_with fail
    refine (nuChoose_int _ _ n' k' _ rfl rfl (by omega) (by omega)).mono ?_
    rintro e W1 ⟨rfl, hb1⟩
    have hg1 := grown_below hb1; clear hb1
    have hs1 := hg1.size
    have HF1 := Lib.hid ((Turned.refl w.heap.size w.heap.size w).still hg1)
    rw [HBC.out]
    by_cases hb : b ≤ 1000
    case neg =>
      have hbd : decide ((1000 : Int) < (b : Int)) = true := decide_eq_true (by omega)
      have hbi : (1000 : Int) < (b : Int) := by omega
      have HNO := Lib.hid (show subsOk (n' : Int) (k' : Int) = false by unfold subsOk; rw [HB.out, decide_eq_false hb]; simp)
      clear hb
      go_wp2_with fail
      go_ret2
      exact ⟨_, ret_vb HNO.out.symm, by unfold subsL; rw [HNO.out]; exact SS.nil _ _ _, (HF1.out.below_of (Below.refl _ _) (by omega) (by omega))⟩
    have hbd : decide ((1000 : Int) < (b : Int)) = false := decide_eq_false (by omega)
    have hbi : ¬ (1000 : Int) < (b : Int) := by omega
    have HOK := Lib.hid (show subsOk (n' : Int) (k' : Int) = true by unfold subsOk; rw [G1.out, HB.out, decide_eq_true hb]; rfl)
    have HLL := Lib.hid (show subsL (n' : Int) (k' : Int) = (List.range b).map fun r => subN n' 0 k' r by rw [subsL_yes HOK.out, HB.out]; simp)
    go_wp2_with fail
    go_loopw [6, 7] (fun ov iv wr => ∃ (r top : Nat) (xss : List (List Int)), r ≤ b ∧ iv = .int .i64 r ∧ Hid (OwnSS wr w.heap.size top 53 ov xss) ∧ Hid (xss = (List.range r).map fun r => subN n' 0 k' r) ∧ Hid (Below w.heap.size w wr)) (fun ov iv _ => b - (intOf iv).toNat)
    case atStart => exact ⟨0, w.heap.size, [], Nat.zero_le _, rfl, Lib.hid (OwnSS.nil _ _ _ _ (Nat.le_refl _) (by omega)), Lib.hid rfl, Lib.hid (HF1.out.below_of (Below.refl _ _) (by omega) (by omega))⟩
    case round =>
      obtain ⟨r, top, xss, hr, rfl, HO, HX, HBW⟩ := hrel
      have hbs := HBW.out.size
      have hxl : xss.length = r := by rw [HX.out]; simp
      have HXL := Lib.hid hxl; clear hxl
      obtain ⟨Ao, co, rfl, hco, hdo⟩ := HO.out.len
      obtain ⟨lx, HLX⟩ : ∃ l, Hid (xss.length = l) := ⟨_, Lib.hid rfl⟩
      rw [HLX.out] at hco
      by_cases hlt : r < b
      case neg =>
        have hrd : ¬ (r : Int) < (b : Int) := by omega
        go_wp2_with fail
        refine (nuChoose_int _ _ n' k' _ rfl rfl (by omega) (by omega)).mono ?_
        rintro e WX ⟨rfl, hbx⟩
        rw [HBC.out]
        have HO2 := Lib.hid (HO.out.below hbx)
        have HBW2 := Lib.hid (HBW.out.trans (hbx.mono hbs))
        have hbs2 := hbx.size
        clear hbx
        go_wp2_with fail
        go_ret2
        refine ⟨_, ret_vb HOK.out.symm, ?_, HBW2.out⟩
        have er : r = b := by omega
        have e : subsL (n' : Int) (k' : Int) = xss := by rw [HLL.out, HX.out, er]
        rw [e]
        exact SSx.ss HO2.out.ssx
      have hri : (r : Int) < b := by omega
      have HRB := Lib.hid (show r < ch n' k' by rw [HBC.out]; exact hlt)
      go_wp2_with fail
      refine (nuChoose_int _ _ n' k' _ rfl rfl (by omega) (by omega)).mono ?_
      rintro e WX ⟨rfl, hbx⟩
      rw [HBC.out]
      have HO2 := Lib.hid (HO.out.below hbx)
      have HBW2 := Lib.hid (HBW.out.trans (hbx.mono hbs))
      have hbs2 := hbx.size
      clear hbx
      go_wp2_with fail
      refine (nuAt_any n' k' r _ (by omega) HRB.out).mono ?_
      rintro e W5 ⟨q, rfl, hq, hb5⟩
      obtain ⟨qs, HQS⟩ : ∃ l, Hid (subN n' 0 k' r = l) := ⟨_, Lib.hid rfl⟩
      rw [HQS.out] at hq
      have HQ := Lib.hid hq; clear hq
      obtain ⟨Aq, cq, rfl, hcq, hdq⟩ := HQ.out.dims
      have HO5 := Lib.hid (HO2.out.below hb5 : OwnSS W5 w.heap.size top 53 (.slice Ao xss.length co) xss)
      have HB5 := Lib.hid (HBW2.out.trans (hb5.mono (by have := HBW2.out.size; omega)))
      have hs5 := hb5.size
      have hlv := HO2.out.lt
      have hlv5 := HO5.out.lt
      have htop : top ≤ WX.heap.size := by obtain ⟨_, _, _, _, _, _, h, _⟩ := HO2.out; exact h
      clear hb5
      go_wp2_with (at_builtin; refine append_ss (s := .tmp 25) Try.underlying46 Try.infoRowS (by decide) W5 rfl _ rfl HO5.out (lo := WX.heap.size) (hi := W5.heap.size) HQ.out htop (Nat.le_refl _) hs5 (fun g hg => .inl (hlv g hg).2) _ rfl (by simp [Act.eval, go_sem]) (by rw [HXL.out]; omega) ?_; intro v' w' ho' hg' hat')
      go_roundw
      case rel =>
        refine ⟨r + 1, _, _, hlt, by go_num, Lib.hid ho', Lib.hid ?_, Lib.hid ?_⟩
        · rw [HX.out, List.range_succ, List.map_append, ← HQS.out]; rfl
        · exact HB5.out.grown hg' HB5.out.size fun g hg => (hlv5 g hg).1
      case measure => simp [intOf]; omega

end Go.Proofs.Ytlignkgfclenkaa
