/-
  Contracts: SumsTo and ConductorOf, the program's and the reference's.
-/
import Derived.Test.YtanikenkfnhicaaSums2
import Derived.Test.YtanikenkfnhicaaQueue
import Derived.Test.YtanikenkfnhicaaOwnSS
namespace Go.Proofs.Ytanikenkfnhicaa
open Go.ChangeShapes Go.WideShapes Go.ChangeAt Go.RowKit
set_option linter.unusedVariables false

theorem natL_drop (l : List Nat) (k : Nat) : natL (l.drop k) = (natL l).drop k := by unfold natL; rw [List.map_drop]
theorem natL_append (a b : List Nat) : natL (a ++ b) = natL a ++ natL b := by unfold natL; rw [List.map_append]
theorem natL_inj {a b : List Nat} (h : natL a = natL b) : a = b := by rw [← natL_toNat (l := a), h, natL_toNat]
theorem wrap64_nat {d : Nat} (h : d ≤ 2000) : Go.RowKit.wrap64 (d : Int) = (d : Int) := by unfold Go.RowKit.wrap64; omega
theorem tdivN (a b : Nat) : Int.tdiv (a : Int) (b : Int) = ((a / b : Nat) : Int) := (Int.ofNat_tdiv a b).symm
theorem IntS.dropV {w : World} {lo hi n c b off k : Nat} {zs : List Int} {A' : Option Addr} {n' c' : Nat} (h : IntS w lo hi (.slice (some ⟨b, off, none⟩) n c) zs) (hk : k ≤ zs.length) (hA : k < zs.length → A' = some ⟨b, off + k, none⟩) (hn : n' = n - k) (hc : c' = c - k) : IntS w lo hi (.slice A' n' c') (zs.drop k) := by
  subst hn hc
  obtain ⟨A, c', e, h1, h2, h3⟩ := h
  injection e with e1 e2 e3
  subst e1 e2 e3
  refine ⟨A', c - k, by rw [List.length_drop], by rw [List.length_drop]; omega, by omega, fun hp => ?_⟩
  rw [List.length_drop] at hp
  obtain ⟨b', off', e2, h4, h5, h6⟩ := h3 (by omega)
  injection e2 with e2
  injection e2 with e2 e3
  subst e2 e3
  refine ⟨b, off + k, hA (by omega), h4, h5, fun t ht => ?_⟩
  rw [List.length_drop] at ht
  have := h6 (k + t) (by omega)
  rw [show off + k + t = off + (k + t) by omega]
  show w.cell? _ = some (Value.int .i64 (nth (zs.drop k) t)) ∧ _
  rw [show nth (zs.drop k) t = nth zs (k + t) by simp [nth]]
  exact this
def sumsOk (z : List Int) (n : Int) : Bool := lensB z && inB n 0 2000 && rb (z.map Int.toNat) n.toNat
def sumsV (z : List Int) (n : Int) : List Int := if sumsOk z n then natL (partsN (z.map Int.toNat) n.toNat) else []
theorem sumsV_no {z : List Int} {n : Int} (h : sumsOk z n = false) : sumsV z n = [] := by unfold sumsV; rw [h]; rfl
theorem topN_self {p : Nat → Bool} {c : Nat} (h : p c = true) : topN p c = c := by cases c with
  | zero => rfl
  | succ c => simp only [topN]; rw [if_pos h]
theorem topN_less {p : Nat → Bool} {c : Nat} (h : p (c + 1) = false) : topN p (c + 1) = topN p c := by simp only [topN]; rw [h]; rfl
/-- the test of a count -/
def cntP (l : List Nat) (x m c : Nat) : Bool := rb l (m - c * x)
theorem cntP_top {x : Nat} {l : List Nat} {m : Nat} (hl : ∀ y ∈ x :: l, 1 ≤ y) (h : Rch (x :: l) m) : cntP l x m (topN (cntP l x m) (m / x)) = true ∧ topN (cntP l x m) (m / x) * x ≤ m := top_ok hl h
theorem partsN_cons (x : Nat) (l : List Nat) (m : Nat) : partsN (x :: l) m = topN (cntP l x m) (m / x) :: partsN l (m - topN (cntP l x m) (m / x) * x) := rfl
theorem set_pre {pre : List Nat} {zl i c : Nat} (hl : pre.length = i) (hi : i < zl) : ((natL pre ++ List.replicate (zl - i) 0).set i (c : Int)) = natL (pre ++ [c]) ++ List.replicate (zl - (i + 1)) 0 := by
  rw [show zl - i = (zl - (i + 1)) + 1 by omega, List.replicate_succ, List.set_append_right _ _ (by rw [natL_length]; omega), natL_length, hl, Nat.sub_self, List.set_cons_zero, natL_append, List.append_assoc]
  rfl
theorem pre_length {pre : List Nat} {zl i : Nat} (hl : pre.length = i) (hi : i ≤ zl) : (natL pre ++ List.replicate (zl - i) 0).length = zl := by
  rw [List.length_append, natL_length, List.length_replicate]; omega
def cndZ (z : List Int) : Int := if lensB z then (cndN (z.map Int.toNat) : Nat) else 0
theorem cndZ_nat {l : List Nat} (h : lensB (natL l) = true) : cndZ (natL l) = (cndN l : Nat) := by unfold cndZ; rw [if_pos h, natL_toNat]
theorem cndZ_no {z : List Int} (h : lensB z = false) : cndZ z = 0 := by unfold cndZ; rw [h]; rfl
/-- where the loop over the lengths stands -/
structure PrtI (l : List Nat) (n i m : Nat) (pre : List Nat) : Prop where
  parts : pre ++ partsN (l.drop i) m = partsN l n
  rch : Rch (l.drop i) m
  le : m ≤ n
  len : pre.length = i
theorem PrtI.start {l : List Nat} {n : Nat} (h : Rch l n) : PrtI l n 0 n [] := ⟨rfl, h, Nat.le_refl _, rfl⟩
theorem PrtI.fin {l : List Nat} {n m : Nat} {pre : List Nat} (h : PrtI l n l.length m pre) : pre = partsN l n := by
  have := h.parts
  rwa [List.drop_length, show partsN [] m = [] from rfl, List.append_nil] at this
theorem dropN_at {l : List Nat} {i : Nat} (h : i < l.length) : l.drop i = l.getD i 0 :: l.drop (i + 1) := by rw [List.drop_eq_getElem_cons h]; simp [h]
theorem PrtI.top {l : List Nat} {n i m : Nat} {pre : List Nat} (hl : ∀ y ∈ l, 1 ≤ y) (h : PrtI l n i m pre) (hi : i < l.length) : cntP (l.drop (i + 1)) (l.getD i 0) m (topN (cntP (l.drop (i + 1)) (l.getD i 0) m) (m / l.getD i 0)) = true ∧ topN (cntP (l.drop (i + 1)) (l.getD i 0) m) (m / l.getD i 0) * l.getD i 0 ≤ m := by
  have hr := h.rch
  rw [dropN_at hi] at hr
  exact cntP_top (fun y hy => hl y (by rw [← dropN_at hi] at hy; exact List.mem_of_mem_drop hy)) hr
theorem PrtI.next {l : List Nat} {n i m c : Nat} {pre : List Nat} (hl : ∀ y ∈ l, 1 ≤ y) (h : PrtI l n i m pre) (hi : i < l.length) (hc : c = topN (cntP (l.drop (i + 1)) (l.getD i 0) m) (m / l.getD i 0)) : PrtI l n (i + 1) (m - c * l.getD i 0) (pre ++ [c]) := by
  obtain ⟨t1, t2⟩ := h.top hl hi
  refine ⟨?_, ?_, by have := h.le; omega, by simp [h.len]⟩
  · have hp := h.parts
    rw [dropN_at hi, partsN_cons, ← hc] at hp
    rw [List.append_assoc]; exact hp
  · rw [← hc] at t1
    exact (rb_iff (fun y hy => hl y (List.mem_of_mem_drop hy)) _).1 t1

set_option maxHeartbeats 4000000 in
set_option maxRecDepth 100000 in
theorem SumsTo_impl (v1 : Value) (z : List Int) (lo1 hi1 : Nat) (n : Int) (w : World) (h1 : IntS w lo1 hi1 v1 z) (hh1 : hi1 ≤ w.heap.size) (hz : z.length ≤ 1048576) :
    Calls Try.prog 6 #[v1, .int .i64 n] w fun e w' => ∃ r, e = .returned (.tuple #[r, .bool (sumsOk z n)]) ∧ IntS w' w.heap.size w'.heap.size r (sumsV z n) ∧ Below w.heap.size w w' := by
  have F1 := Lib.hid h1
  obtain ⟨A1, c1, rfl, hc1, hd1⟩ := h1.dims
  clear h1
  go_enter Try.func6, Try.ntmps6
  by_cases hb : lensB z = true
  case neg =>
    have hb' : lensB z = false := by simpa using hb
    have HE := Lib.hid (show sumsOk z n = false by unfold sumsOk; rw [hb']; rfl)
    have HV := Lib.hid (sumsV_no HE.out)
    clear hb
    go_wp2_with fail
    refine (areLengths_any _ z _ _ _ F1.out (by omega)).mono ?_
    rintro e w' ⟨rfl, rfl⟩
    rw [hb']
    go_wp2_with fail
    go_ret2
    exact ⟨_, ret_vb HE.out.symm, by rw [HV.out]; exact IntS.nil _ _ _, Below.refl _ _⟩
  by_cases hin : inB n 0 2000 = true
  case neg =>
    have hin' : inB n 0 2000 = false := by simpa using hin
    have HE := Lib.hid (show sumsOk z n = false by unfold sumsOk; rw [hb, hin']; rfl)
    have HV := Lib.hid (sumsV_no HE.out)
    clear hin
    go_wp2_with fail
    refine (areLengths_any _ z _ _ _ F1.out (by omega)).mono ?_
    rintro e w' ⟨rfl, rfl⟩
    rw [hb]
    go_wp2_with fail
    refine (within_any _ _ _ _).mono ?_
    rintro e w' ⟨rfl, rfl⟩
    rw [hin']
    go_wp2_with fail
    go_ret2
    exact ⟨_, ret_vb HE.out.symm, by rw [HV.out]; exact IntS.nil _ _ _, Below.refl _ _⟩
  have HOK := Lib.hid (show sumsOk z n = rb (z.map Int.toNat) n.toNat by unfold sumsOk; rw [hb, hin]; rfl)
  have hn0 : 0 ≤ n ∧ n ≤ 2000 := by unfold inB at hin; simpa using hin
  obtain ⟨N, rfl⟩ : ∃ N : Nat, n = N := ⟨n.toNat, by omega⟩
  have hN : N ≤ 2000 := by omega
  obtain ⟨l, hzl, hl⟩ := lensB_of hb
  have HV := Lib.hid (fun h : rb l N = true => (show sumsV z (N : Int) = natL (partsN l N) by unfold sumsV; rw [HOK.out, hzl, natL_toNat, Int.toNat_natCast, h]; rfl))
  replace HOK := Lib.hid (show sumsOk z (N : Int) = rb l N by rw [HOK.out, hzl, natL_toNat, Int.toNat_natCast])
  have hlz : z.length = l.length := by rw [hzl, natL_length]
  have HZL := Lib.hid hzl
  have HL := Lib.hid hl
  clear hzl hl
  have HBZ := Lib.hid hb
  have HIN := Lib.hid hin
  clear hb hin
  obtain ⟨zl, HLL⟩ : ∃ c : Nat, Hid (l.length = c) := ⟨_, Lib.hid rfl⟩
  have hll : zl ≤ 1048576 := by rw [← HLL.out, ← hlz]; exact hz
  rw [HLL.out] at hlz
  rw [hlz]
  go_wp2_with fail
  refine (areLengths_any _ z _ _ _ (by have := F1.out; rw [hlz] at this; exact this) (by omega)).mono ?_
  rintro e w' ⟨rfl, rfl⟩
  rw [HBZ.out]
  go_wp2_with fail
  refine (within_any _ _ _ _).mono ?_
  rintro e w' ⟨rfl, rfl⟩
  rw [HIN.out]
  go_wp2_with fail
  have F1' := Lib.hid (show IntS w lo1 hi1 (.slice A1 zl c1) z by have := F1.out; rw [hlz] at this; exact this)
  clear F1
  refine (sumsUpTo_any _ z _ _ N _ F1'.out (by omega) l HZL.out (fun x hx => by have := HL.out.is x hx; omega) (by omega) (by rw [HLL.out]; exact hll)).mono ?_
  rintro e W1 ⟨q1, rfl, hq1, hb1⟩
  have hg1 := grown_below hb1; clear hb1
  have hs1 := hg1.size
  have HF1 := Lib.hid ((Turned.refl w.heap.size w.heap.size w).still hg1)
  have Q1 := Lib.hid hq1; clear hq1
  obtain ⟨Aq, cq, rfl, hcq, hdq⟩ := BoolS.dims Q1.out
  have hrl := rbL_length l N
  obtain ⟨bq, oq, rfl, _, hbq, xq, _⟩ := BoolS.opened Q1.out (j := N) (by rw [hrl]; omega)
  rw [rbL_nth l (Nat.le_refl _)] at xq
  obtain ⟨ql, HQL⟩ : ∃ c : Nat, Hid ((rbL l N).length = c) := ⟨_, Lib.hid rfl⟩
  have hql : (N : Int) < (ql : Int) := by rw [← HQL.out, hrl]; omega
  rw [HQL.out]
  clear hrl
  by_cases hr : rb l N = true
  case neg =>
    have hr' : rb l N = false := by simpa using hr
    rw [hr'] at xq
    have HE := Lib.hid (show sumsOk z (N : Int) = false by rw [HOK.out, hr'])
    clear hr' hr
    go_wp2_with fail
    go_ret2
    exact ⟨_, ret_vb HE.out.symm, by rw [sumsV_no HE.out]; exact IntS.nil _ _ _, (HF1.out.below_of (Below.refl _ _) (by omega) (by omega))⟩
  rw [hr] at xq
  have HE := Lib.hid (show sumsOk z (N : Int) = true by rw [HOK.out, hr])
  have HR := Lib.hid ((rb_iff (fun x hx => (HL.out.is x hx).1) _).1 hr)
  replace HV := Lib.hid (HV.out hr)
  clear hr
  go_wp2_with fail
  clear xq
  have z_1 := Lib.hid (IntS.turned F1'.out HF1.out (by omega) (by omega)); clear F1'
  have hbA1 : Below w.heap.size w W1 := (HF1.out.below_of (Below.refl _ _) (by omega) (by omega)); clear  HF1
  go_loopw [1, 6, 30] (fun nv ov iv wr => ∃ (i m : Nat) (pre : List Nat), i ≤ zl ∧ nv = .int .i64 m ∧ iv = .int .i64 i ∧ Hid (OwnI wr W1.heap.size 3 ov (natL pre)) ∧ Hid (PrtI l N i m pre) ∧ W1.heap.size ≤ wr.heap.size ∧ Hid (Turned W1.heap.size W1.heap.size W1 wr)) (fun nv ov iv _ => zl - (intOf iv).toNat)
  case atStart => exact ⟨0, N, [], Nat.zero_le _, rfl, rfl, Lib.hid (OwnI.nil _ _ _), Lib.hid (PrtI.start HR.out), Nat.le_refl _, Lib.hid (Turned.refl W1.heap.size W1.heap.size W1)⟩
  case round =>
    obtain ⟨i, m, pre, hi, rfl, rfl, HO, HPI, hz, HF2⟩ := hrel
    have hs2 := HF2.out.size
    have hpl := HPI.out.len
    obtain ⟨Ao, co, rfl, hco, hdo⟩ := HO.out.ints.dims
    rw [natL_length, hpl] at hco
    by_cases hil : i < zl
    case neg =>
      obtain rfl : i = zl := by omega
      have HPE := Lib.hid (show pre = partsN l N from PrtI.fin (by rw [HLL.out]; exact HPI.out))
      rw [natL_length, hpl]
      go_wp2_with fail
      go_ret2
      refine ⟨_, ret_vb HE.out.symm, ?_, (HF2.out.below_of hbA1 (by omega) (by omega))⟩
      rw [HV.out, ← HPE.out]
      have := HO.out.ints
      rw [natL_length, hpl] at this
      exact this.mono (by omega) (Nat.le_refl _)
    have hx := HL.out.is _ (getD_mem (show i < l.length by rw [HLL.out]; exact hil))
    obtain ⟨x, HX⟩ : ∃ x, Hid (l.getD i 0 = x) := ⟨_, Lib.hid rfl⟩
    obtain ⟨l2, HL2⟩ : ∃ l2, Hid (l.drop (i + 1) = l2) := ⟨_, Lib.hid rfl⟩
    have HLX := Lib.hid (fun x hx => (HL.out.is x hx).1)
    have HTOP := Lib.hid (HPI.out.top HLX.out (show i < l.length by rw [HLL.out]; exact hil))
    have HNX := Lib.hid (fun c hc => HPI.out.next (c := c) HLX.out (show i < l.length by rw [HLL.out]; exact hil) hc)
    rw [HX.out] at hx
    rw [HX.out, HL2.out] at HTOP HNX
    have hm2 := HPI.out.le
    have hxz : ¬ (x : Int) = 0 := by omega
    have hxe : ((x : Int) == 0) = false := by simp; omega
    have htd := tdivN m x
    have hmi : m / x * x ≤ m := Nat.div_mul_le_self m x
    obtain ⟨d, HD⟩ : ∃ d, Hid (m / x = d) := ⟨_, Lib.hid rfl⟩
    rw [HD.out] at htd hmi HTOP HNX
    have hil2 : (i : Int) < zl := by omega
    have hdb : d ≤ 2000 := Nat.le_trans (Nat.le_mul_of_pos_right d hx.1) (Nat.le_trans hmi (Nat.le_trans hm2 hN))
    obtain ⟨wq, rfl⟩ : ∃ wq : World, wq = wr := ⟨_, rfl⟩
    obtain ⟨b1, o1, rfl, _, hbb, x1, _⟩ := IntS.opened (IntS.turned z_1.out HF2.out (by omega) (by omega)) (j := i) (by rw [HZL.out, natL_length, HLL.out]; exact hil)
    rw [HZL.out, natL_nth (show i < l.length by rw [HLL.out]; exact hil), HX.out] at x1
    have hl2l : l2.length = zl - (i + 1) := by rw [← HL2.out, List.length_drop, HLL.out]
    have HL2B := Lib.hid (fun y (hy : y ∈ l2) => HL.out.is y (by rw [← HL2.out] at hy; exact List.mem_of_mem_drop hy))
    by_cases hcc : c1 = i + 1
    case pos =>
      have HSL := Lib.hid (show IntS wq lo1 hi1 (.slice (some ⟨b1, o1, none⟩) (zl - (i + 1)) 0) (natL l2) by
        have := IntS.dropV (A' := (some ⟨b1, o1, none⟩)) (n' := zl - (i + 1)) (c' := 0) (IntS.turned z_1.out HF2.out (by omega) (by omega)) (k := i + 1) (by rw [HZL.out, natL_length, HLL.out]; omega) (fun h => by rw [HZL.out, natL_length, HLL.out] at h; omega) rfl (by omega)
        rwa [HZL.out, ← natL_drop, HL2.out] at this)
      subst hcc
      go_wp2_with fail
      clear x1
      refine (sumsUpTo_any _ (natL l2) _ _ m _ HSL.out (by omega) l2 rfl (fun y hy => by have := HL2B.out y hy; omega) (by omega) (by omega)).mono ?_
      rintro e W3 ⟨q2, rfl, hq2, hb3⟩
      have hg3 := grown_below hb3; clear hb3
      have hs3 := hg3.size
      have HF3 := Lib.hid (HF2.out.still hg3); clear HF2
      have O3 := Lib.hid (OwnI.still HO.out hg3); clear HO
      have R3 := Lib.hid hq2; clear hq2
      clear HSL
      obtain ⟨Ar, cr, rfl, hcr, hdr⟩ := BoolS.dims R3.out
      obtain ⟨rl, HRL⟩ : ∃ c : Nat, Hid ((rbL l2 m).length = c) := ⟨_, Lib.hid rfl⟩
      have hrl0 := rbL_length l2 m
      obtain ⟨br, orr, rfl, _, hbr, _, _⟩ := BoolS.opened R3.out (j := 0) (by rw [hrl0]; omega)
      clear hrl0
      rw [HRL.out]
      go_wp2_with fail
      go_loop [10] (fun cv => ∃ (c : Nat), c ≤ d ∧ cv = .int .i64 c ∧ Hid (topN (cntP l2 x m) d = topN (cntP l2 x m) c)) (fun cv => (intOf cv).toNat)
      case atStart => exact ⟨d, Nat.le_refl _, rfl, Lib.hid rfl⟩
      case round =>
        obtain ⟨c, hc, rfl, HT⟩ := hrel
        obtain ⟨e, HEC⟩ : ∃ e, Hid (c * x = e) := ⟨_, Lib.hid rfl⟩
        have hcx : c * x ≤ d * x := Nat.mul_le_mul_right x hc
        rw [HEC.out] at hcx
        obtain ⟨y, HY⟩ : ∃ y, Hid (m - e = y) := ⟨_, Lib.hid rfl⟩
        have hym : y ≤ m := by have := HY.out; omega
        have hcb : c ≤ 1000000 := by have h1 := Nat.le_mul_of_pos_right c (show 0 < x by omega); have := HEC.out; omega
        have hw1 : IntKind.i64.wrap ((c : Int) * (x : Int)) = (e : Int) := by rw [IntWalk.i64_in _ (by rw [← Int.natCast_mul, HEC.out]; omega), ← Int.natCast_mul, HEC.out]
        have hw2 : IntKind.i64.wrap ((m : Int) - (e : Int)) = (y : Int) := by rw [IntWalk.i64_in _ (by omega)]; have := HY.out; omega
        have hyl : (y : Int) < (rl : Int) := by rw [← HRL.out, rbL_length]; omega
        have HPC := Lib.hid (show cntP l2 x m c = rb l2 y by unfold cntP; rw [HEC.out, HY.out])
        obtain ⟨yr, _⟩ := BoolS.at_ R3.out (j := y) (by rw [rbL_length]; omega)
        rw [rbL_nth l2 hym, ← HPC.out] at yr
        cases hpc : cntP l2 x m c with
        | false =>
          rw [hpc] at yr
          obtain ⟨c0, HC0⟩ : ∃ c0, Hid (c = c0 + 1) := by
            rcases c with _ | c0
            · exfalso
              have h1 := HTOP.out.1
              rw [HT.out, show topN (cntP l2 x m) 0 = 0 from rfl, hpc] at h1
              cases h1
            · exact ⟨c0, Lib.hid rfl⟩
          have HT2 := Lib.hid (show topN (cntP l2 x m) d = topN (cntP l2 x m) c0 by rw [HT.out, HC0.out]; exact topN_less (by rw [← HC0.out]; exact hpc))
          have hw3 : IntKind.i64.wrap ((c : Int) - 1) = (c0 : Int) := by rw [IntWalk.i64_in _ (by omega)]; have := HC0.out; omega
          have hcc0 : c0 < c := by have := HC0.out; omega
          clear hpc
          go_wp2_with fail
          go_round
          case rel => exact ⟨c0, by omega, by go_num, HT2⟩
          case measure => simp [intOf]; omega
        | true =>
        rw [hpc] at yr
        have HCT := Lib.hid (show c = topN (cntP l2 x m) d by rw [HT.out]; exact (topN_self hpc).symm)
        have HPN := Lib.hid (HNX.out c HCT.out)
        rw [HEC.out, HY.out] at HPN
        clear hpc
        have hlv := O3.out.lt
        have HPL2 := Lib.hid (show (natL pre).length = i by rw [natL_length]; exact hpl)
        go_wp2_with (at_builtin; refine append_int (s := .tmp 55) Try.underlying24 Try.info3 (by decide) W3 rfl _ rfl O3.out c _ rfl (by simp [Act.eval, go_sem]) (by have := HPL2.out; omega) (by omega) ?_; intro v' w' ho' hg' hat')
        go_roundw
        case rel =>
          have hgs := hg'.size
          refine ⟨i + 1, y, pre ++ [c], by omega, rfl, by go_num, Lib.hid (by rw [natL_append]; exact ho'), HPN, by omega, Lib.hid (HF3.out.grown hg' fun g hg => .inr (by have := hlv g hg; omega))⟩
        case measure => simp [intOf]; omega
    case neg =>
      have HSL := Lib.hid (show IntS wq lo1 hi1 (.slice (some ⟨b1, o1 + (i + 1), none⟩) (zl - (i + 1)) (c1 - (i + 1))) (natL l2) by
        have := IntS.dropV (A' := (some ⟨b1, o1 + (i + 1), none⟩)) (n' := zl - (i + 1)) (c' := (c1 - (i + 1))) (IntS.turned z_1.out HF2.out (by omega) (by omega)) (k := i + 1) (by rw [HZL.out, natL_length, HLL.out]; omega) (fun _ => rfl) rfl rfl
        rwa [HZL.out, ← natL_drop, HL2.out] at this)
      skip
      go_wp2_with fail
      clear x1
      refine (sumsUpTo_any _ (natL l2) _ _ m _ HSL.out (by omega) l2 rfl (fun y hy => by have := HL2B.out y hy; omega) (by omega) (by omega)).mono ?_
      rintro e W5 ⟨q2, rfl, hq2, hb5⟩
      have hg5 := grown_below hb5; clear hb5
      have hs5 := hg5.size
      have HF5 := Lib.hid (HF2.out.still hg5); clear HF2
      have O5 := Lib.hid (OwnI.still HO.out hg5); clear HO
      have R5 := Lib.hid hq2; clear hq2
      clear HSL
      obtain ⟨Ar, cr, rfl, hcr, hdr⟩ := BoolS.dims R5.out
      obtain ⟨rl, HRL⟩ : ∃ c : Nat, Hid ((rbL l2 m).length = c) := ⟨_, Lib.hid rfl⟩
      have hrl0 := rbL_length l2 m
      obtain ⟨br, orr, rfl, _, hbr, _, _⟩ := BoolS.opened R5.out (j := 0) (by rw [hrl0]; omega)
      clear hrl0
      rw [HRL.out]
      go_wp2_with fail
      go_loop [10] (fun cv => ∃ (c : Nat), c ≤ d ∧ cv = .int .i64 c ∧ Hid (topN (cntP l2 x m) d = topN (cntP l2 x m) c)) (fun cv => (intOf cv).toNat)
      case atStart => exact ⟨d, Nat.le_refl _, rfl, Lib.hid rfl⟩
      case round =>
        obtain ⟨c, hc, rfl, HT⟩ := hrel
        obtain ⟨e, HEC⟩ : ∃ e, Hid (c * x = e) := ⟨_, Lib.hid rfl⟩
        have hcx : c * x ≤ d * x := Nat.mul_le_mul_right x hc
        rw [HEC.out] at hcx
        obtain ⟨y, HY⟩ : ∃ y, Hid (m - e = y) := ⟨_, Lib.hid rfl⟩
        have hym : y ≤ m := by have := HY.out; omega
        have hcb : c ≤ 1000000 := by have h1 := Nat.le_mul_of_pos_right c (show 0 < x by omega); have := HEC.out; omega
        have hw1 : IntKind.i64.wrap ((c : Int) * (x : Int)) = (e : Int) := by rw [IntWalk.i64_in _ (by rw [← Int.natCast_mul, HEC.out]; omega), ← Int.natCast_mul, HEC.out]
        have hw2 : IntKind.i64.wrap ((m : Int) - (e : Int)) = (y : Int) := by rw [IntWalk.i64_in _ (by omega)]; have := HY.out; omega
        have hyl : (y : Int) < (rl : Int) := by rw [← HRL.out, rbL_length]; omega
        have HPC := Lib.hid (show cntP l2 x m c = rb l2 y by unfold cntP; rw [HEC.out, HY.out])
        obtain ⟨yr, _⟩ := BoolS.at_ R5.out (j := y) (by rw [rbL_length]; omega)
        rw [rbL_nth l2 hym, ← HPC.out] at yr
        cases hpc : cntP l2 x m c with
        | false =>
          rw [hpc] at yr
          obtain ⟨c0, HC0⟩ : ∃ c0, Hid (c = c0 + 1) := by
            rcases c with _ | c0
            · exfalso
              have h1 := HTOP.out.1
              rw [HT.out, show topN (cntP l2 x m) 0 = 0 from rfl, hpc] at h1
              cases h1
            · exact ⟨c0, Lib.hid rfl⟩
          have HT2 := Lib.hid (show topN (cntP l2 x m) d = topN (cntP l2 x m) c0 by rw [HT.out, HC0.out]; exact topN_less (by rw [← HC0.out]; exact hpc))
          have hw3 : IntKind.i64.wrap ((c : Int) - 1) = (c0 : Int) := by rw [IntWalk.i64_in _ (by omega)]; have := HC0.out; omega
          have hcc0 : c0 < c := by have := HC0.out; omega
          clear hpc
          go_wp2_with fail
          go_round
          case rel => exact ⟨c0, by omega, by go_num, HT2⟩
          case measure => simp [intOf]; omega
        | true =>
        rw [hpc] at yr
        have HCT := Lib.hid (show c = topN (cntP l2 x m) d by rw [HT.out]; exact (topN_self hpc).symm)
        have HPN := Lib.hid (HNX.out c HCT.out)
        rw [HEC.out, HY.out] at HPN
        clear hpc
        have hlv := O5.out.lt
        have HPL2 := Lib.hid (show (natL pre).length = i by rw [natL_length]; exact hpl)
        go_wp2_with (at_builtin; refine append_int (s := .tmp 55) Try.underlying24 Try.info3 (by decide) W5 rfl _ rfl O5.out c _ rfl (by simp [Act.eval, go_sem]) (by have := HPL2.out; omega) (by omega) ?_; intro v' w' ho' hg' hat')
        go_roundw
        case rel =>
          have hgs := hg'.size
          refine ⟨i + 1, y, pre ++ [c], by omega, rfl, by go_num, Lib.hid (by rw [natL_append]; exact ho'), HPN, by omega, Lib.hid (HF5.out.grown hg' fun g hg => .inr (by have := hlv g hg; omega))⟩
        case measure => simp [intOf]; omega

set_option maxHeartbeats 4000000 in
set_option maxRecDepth 100000 in
theorem nuParts_any (v1 : Value) (z : List Int) (lo1 hi1 : Nat) (n : Nat) (w : World) (h1 : IntS w lo1 hi1 v1 z) (hh1 : hi1 ≤ w.heap.size) (l : List Nat) (hzl : z = natL l) (hl : Lens l) (hR : Rch l n) (hn : n ≤ 2000) (hz : z.length ≤ 1048576) :
    Calls Try.prog 23 #[v1, .int .i64 (n : Nat)] w fun e w' => ∃ r, e = .returned (r) ∧ IntS w' w.heap.size w'.heap.size r (natL (partsN l n)) ∧ Below w.heap.size w w' := by
  have HL := Lib.hid hl; clear hl
  have HZL := Lib.hid hzl
  have HR := Lib.hid hR; clear hR
  have hlz : z.length = l.length := by rw [hzl, natL_length]
  clear hzl
  obtain ⟨N, HNN⟩ : ∃ N, Hid (n = N) := ⟨_, Lib.hid rfl⟩
  obtain ⟨zl, HLL⟩ : ∃ c : Nat, Hid (l.length = c) := ⟨_, Lib.hid rfl⟩
  have hll : zl ≤ 1048576 := by rw [← HLL.out, ← hlz]; exact hz
  rw [HLL.out] at hlz
  have hmk := fun W => run_make_row' (P := Try.prog) 24 3 (.int .i64 0) 8 Try.underlying24 Try.info3 rfl .i64 .i64 zl (by omega) (by omega) W
  obtain ⟨W1, HW1⟩ : ∃ W, Hid (W = w.alloc (.cells (madeCells #[.int .i64 0] zl) 3)) := ⟨_, Lib.hid rfl⟩
  have HG0 := Lib.hid (show w.grownBy W1 none by rw [HW1.out]; exact grown_alloc _ _)
  have hz1 : w.heap.size + 1 ≤ W1.heap.size := by rw [HW1.out]; simp
  have HM1 := Lib.hid (show IntS W1 w.heap.size (w.heap.size + 1) (.slice (some ⟨w.heap.size, 0, none⟩) zl zl) (List.replicate zl 0) by rw [HW1.out]; exact made_ints _ _ _ rfl (by omega))
  have F1 := Lib.hid h1
  obtain ⟨A1, c1, rfl, hc1, hd1⟩ := h1.dims
  clear h1
  go_enter Try.func23, Try.ntmps23
  have F1' := Lib.hid (show IntS w lo1 hi1 (.slice A1 zl c1) z by have := F1.out; rw [hlz] at this; exact this)
  clear F1
  rw [hlz]
  go_upto_region 2 with (fail)
  rw [← HW1.out]; clear HW1 hmk
  have HG0' := HG0.out
  have hs1 := HG0'.size
  have HF1 := Lib.hid ((Turned.refl w.heap.size w.heap.size w).still HG0')
  go_wp2_with fail
  have z_1 := Lib.hid (IntS.turned F1'.out HF1.out (by omega) (by omega)); clear F1'
  have hbA1 : Below w.heap.size w W1 := (HF1.out.below_of (Below.refl _ _) (by omega) (by omega)); clear  HF1
  go_loopw [1, 15] (fun nv iv wr => ∃ (i m : Nat) (pre : List Nat), i ≤ zl ∧ nv = .int .i64 m ∧ iv = .int .i64 i ∧ Hid (IntS wr w.heap.size (w.heap.size + 1) (.slice (some ⟨w.heap.size, 0, none⟩) zl zl) (natL pre ++ List.replicate (zl - i) 0)) ∧ Hid (PrtI l n i m pre) ∧ W1.heap.size ≤ wr.heap.size ∧ Hid (Turned w.heap.size (w.heap.size + 1) W1 wr)) (fun nv iv _ => zl - (intOf iv).toNat)
  case atStart => exact ⟨0, n, [], Nat.zero_le _, rfl, rfl, HM1, Lib.hid (PrtI.start HR.out), Nat.le_refl _, Lib.hid (Turned.refl w.heap.size (w.heap.size + 1) W1)⟩
  case round =>
    obtain ⟨i, m, pre, hi, rfl, rfl, HO, HPI, hz2, HF2⟩ := hrel
    have hs2 := HF2.out.size
    have hpl := HPI.out.len
    by_cases hil : i < zl
    case neg =>
      obtain rfl : i = zl := by omega
      have HPE := Lib.hid (show pre = partsN l n from PrtI.fin (by rw [HLL.out]; exact HPI.out))
      go_wp2_with fail
      go_ret
      refine ⟨_, rfl, ?_, (HF2.out.below_of hbA1 (by omega) (by omega))⟩
      have := HO.out
      rw [Nat.sub_self, List.replicate_zero, List.append_nil, HPE.out] at this
      exact this.mono (Nat.le_refl _) (by omega)
    have hx := HL.out.is _ (getD_mem (show i < l.length by rw [HLL.out]; exact hil))
    obtain ⟨x, HX⟩ : ∃ x, Hid (l.getD i 0 = x) := ⟨_, Lib.hid rfl⟩
    obtain ⟨l2, HL2⟩ : ∃ l2, Hid (l.drop (i + 1) = l2) := ⟨_, Lib.hid rfl⟩
    have HLX := Lib.hid (fun x hx => (HL.out.is x hx).1)
    have HTOP := Lib.hid (HPI.out.top HLX.out (show i < l.length by rw [HLL.out]; exact hil))
    have HNX := Lib.hid (fun c hc => HPI.out.next (c := c) HLX.out (show i < l.length by rw [HLL.out]; exact hil) hc)
    rw [HX.out] at hx
    rw [HX.out, HL2.out] at HTOP HNX
    have hm2 := HPI.out.le
    have hxz : ¬ (x : Int) = 0 := by omega
    have hxe : ((x : Int) == 0) = false := by simp; omega
    have htd := tdivN m x
    have hmi : m / x * x ≤ m := Nat.div_mul_le_self m x
    obtain ⟨d, HD⟩ : ∃ d, Hid (m / x = d) := ⟨_, Lib.hid rfl⟩
    rw [HD.out] at htd hmi HTOP HNX
    have hil2 : (i : Int) < zl := by omega
    have hdb : d ≤ 2000 := Nat.le_trans (Nat.le_mul_of_pos_right d hx.1) (Nat.le_trans hmi (Nat.le_trans hm2 hn))
    have HN2K := Lib.hid hn
    obtain ⟨wq, rfl⟩ : ∃ wq : World, wq = wr := ⟨_, rfl⟩
    obtain ⟨b1, o1, rfl, _, hbb, x1, _⟩ := IntS.opened (IntS.turned z_1.out HF2.out (by omega) (by omega)) (j := i) (by rw [HZL.out, natL_length, HLL.out]; exact hil)
    rw [HZL.out, natL_nth (show i < l.length by rw [HLL.out]; exact hil), HX.out] at x1
    have hl2l : l2.length = zl - (i + 1) := by rw [← HL2.out, List.length_drop, HLL.out]
    have HL2B := Lib.hid (fun y (hy : y ∈ l2) => HL.out.is y (by rw [← HL2.out] at hy; exact List.mem_of_mem_drop hy))
    by_cases hcc : c1 = i + 1
    case pos =>
      have HSL := Lib.hid (show IntS wq lo1 hi1 (.slice (some ⟨b1, o1, none⟩) (zl - (i + 1)) 0) (natL l2) by
        have := IntS.dropV (A' := (some ⟨b1, o1, none⟩)) (n' := zl - (i + 1)) (c' := 0) (IntS.turned z_1.out HF2.out (by omega) (by omega)) (k := i + 1) (by rw [HZL.out, natL_length, HLL.out]; omega) (fun h => by rw [HZL.out, natL_length, HLL.out] at h; omega) rfl (by omega)
        rwa [HZL.out, ← natL_drop, HL2.out] at this)
      subst hcc
      go_wp2_with fail
      clear x1
      refine (nuSums_any _ (natL l2) _ _ m _ HSL.out (by omega) l2 rfl (fun y hy => by have := HL2B.out y hy; omega) (by omega) (by omega)).mono ?_
      rintro e W3 ⟨q2, rfl, hq2, hb3⟩
      have hg3 := grown_below hb3; clear hb3
      have hs3 := hg3.size
      have HF3 := Lib.hid (HF2.out.still hg3); clear HF2
      have O3 := Lib.hid (IntS.still HO.out hg3 (by omega)); clear HO
      have R3 := Lib.hid hq2; clear hq2
      clear HSL
      obtain ⟨Ar, cr, rfl, hcr, hdr⟩ := BoolS.dims R3.out
      obtain ⟨rl, HRL⟩ : ∃ c : Nat, Hid ((rbL l2 m).length = c) := ⟨_, Lib.hid rfl⟩
      have hrl0 := rbL_length l2 m
      obtain ⟨br, orr, rfl, _, hbr, _, _⟩ := BoolS.opened R3.out (j := 0) (by rw [hrl0]; omega)
      clear hrl0
      rw [HRL.out]
      go_wp2_with fail
      go_loop [9] (fun cv => ∃ (c : Nat), c ≤ d ∧ cv = .int .i64 c ∧ Hid (topN (cntP l2 x m) d = topN (cntP l2 x m) c)) (fun cv => (intOf cv).toNat)
      case atStart => exact ⟨d, Nat.le_refl _, rfl, Lib.hid rfl⟩
      case round =>
        obtain ⟨c, hc, rfl, HT⟩ := hrel
        obtain ⟨e, HEC⟩ : ∃ e, Hid (c * x = e) := ⟨_, Lib.hid rfl⟩
        have hcx : c * x ≤ d * x := Nat.mul_le_mul_right x hc
        rw [HEC.out] at hcx
        obtain ⟨y, HY⟩ : ∃ y, Hid (m - e = y) := ⟨_, Lib.hid rfl⟩
        have hym : y ≤ m := by have := HY.out; omega
        have hcb : c ≤ 1000000 := by have h1 := Nat.le_mul_of_pos_right c (show 0 < x by omega); have := HEC.out; omega
        have hw1 : IntKind.i64.wrap ((c : Int) * (x : Int)) = (e : Int) := by rw [IntWalk.i64_in _ (by rw [← Int.natCast_mul, HEC.out]; omega), ← Int.natCast_mul, HEC.out]
        have hw2 : IntKind.i64.wrap ((m : Int) - (e : Int)) = (y : Int) := by rw [IntWalk.i64_in _ (by omega)]; have := HY.out; omega
        have hyl : (y : Int) < (rl : Int) := by rw [← HRL.out, rbL_length]; omega
        have HPC := Lib.hid (show cntP l2 x m c = rb l2 y by unfold cntP; rw [HEC.out, HY.out])
        obtain ⟨yr, _⟩ := BoolS.at_ R3.out (j := y) (by rw [rbL_length]; omega)
        rw [rbL_nth l2 hym, ← HPC.out] at yr
        cases hpc : cntP l2 x m c with
        | false =>
          rw [hpc] at yr
          obtain ⟨c0, HC0⟩ : ∃ c0, Hid (c = c0 + 1) := by
            rcases c with _ | c0
            · exfalso
              have h1 := HTOP.out.1
              rw [HT.out, show topN (cntP l2 x m) 0 = 0 from rfl, hpc] at h1
              cases h1
            · exact ⟨c0, Lib.hid rfl⟩
          have HT2 := Lib.hid (show topN (cntP l2 x m) d = topN (cntP l2 x m) c0 by rw [HT.out, HC0.out]; exact topN_less (by rw [← HC0.out]; exact hpc))
          have hw3 : IntKind.i64.wrap ((c : Int) - 1) = (c0 : Int) := by rw [IntWalk.i64_in _ (by omega)]; have := HC0.out; omega
          have hcc0 : c0 < c := by have := HC0.out; omega
          clear hpc
          go_wp2_with fail
          go_round
          case rel => exact ⟨c0, by omega, by go_num, HT2⟩
          case measure => simp [intOf]; omega
        | true =>
        rw [hpc] at yr
        have HCT := Lib.hid (show c = topN (cntP l2 x m) d by rw [HT.out]; exact (topN_self hpc).symm)
        have HPN := Lib.hid (HNX.out c HCT.out)
        rw [HEC.out, HY.out] at HPN
        clear hpc
        have hol := pre_length (zl := zl) hpl (by omega : i ≤ zl)
        obtain ⟨yo, yf⟩ := IntS.at0 O3.out (j := i) (by rw [hol]; exact hil)
        obtain ⟨ov, HOV⟩ : ∃ ov, Hid (nth (natL pre ++ List.replicate (zl - i) 0) i = ov) := ⟨_, Lib.hid rfl⟩
        rw [HOV.out] at yo
        have HOS := Lib.hid (show IntS (W3.setCell ⟨w.heap.size, i, none⟩ (.int .i64 c)) w.heap.size (w.heap.size + 1) (.slice (some ⟨w.heap.size, 0, none⟩) zl zl) (natL (pre ++ [c]) ++ List.replicate (zl - (i + 1)) 0) by rw [← set_pre hpl hil]; exact IntS.set0 O3.out (by rw [hol]; exact hil) _)
        clear hol
        go_wp2_with fail
        go_roundw
        case rel =>
          refine ⟨i + 1, y, pre ++ [c], by omega, rfl, by go_num, HOS, HPN, by simp; omega, Lib.hid (HF3.out.setCell (p := ⟨w.heap.size, i, none⟩) (Nat.le_refl _) (Nat.lt_succ_self _) _)⟩
        case measure => simp [intOf]; omega
    case neg =>
      have HSL := Lib.hid (show IntS wq lo1 hi1 (.slice (some ⟨b1, o1 + (i + 1), none⟩) (zl - (i + 1)) (c1 - (i + 1))) (natL l2) by
        have := IntS.dropV (A' := (some ⟨b1, o1 + (i + 1), none⟩)) (n' := zl - (i + 1)) (c' := (c1 - (i + 1))) (IntS.turned z_1.out HF2.out (by omega) (by omega)) (k := i + 1) (by rw [HZL.out, natL_length, HLL.out]; omega) (fun _ => rfl) rfl rfl
        rwa [HZL.out, ← natL_drop, HL2.out] at this)
      skip
      go_wp2_with fail
      clear x1
      refine (nuSums_any _ (natL l2) _ _ m _ HSL.out (by omega) l2 rfl (fun y hy => by have := HL2B.out y hy; omega) (by omega) (by omega)).mono ?_
      rintro e W5 ⟨q2, rfl, hq2, hb5⟩
      have hg5 := grown_below hb5; clear hb5
      have hs5 := hg5.size
      have HF5 := Lib.hid (HF2.out.still hg5); clear HF2
      have O5 := Lib.hid (IntS.still HO.out hg5 (by omega)); clear HO
      have R5 := Lib.hid hq2; clear hq2
      clear HSL
      obtain ⟨Ar, cr, rfl, hcr, hdr⟩ := BoolS.dims R5.out
      obtain ⟨rl, HRL⟩ : ∃ c : Nat, Hid ((rbL l2 m).length = c) := ⟨_, Lib.hid rfl⟩
      have hrl0 := rbL_length l2 m
      obtain ⟨br, orr, rfl, _, hbr, _, _⟩ := BoolS.opened R5.out (j := 0) (by rw [hrl0]; omega)
      clear hrl0
      rw [HRL.out]
      go_wp2_with fail
      go_loop [9] (fun cv => ∃ (c : Nat), c ≤ d ∧ cv = .int .i64 c ∧ Hid (topN (cntP l2 x m) d = topN (cntP l2 x m) c)) (fun cv => (intOf cv).toNat)
      case atStart => exact ⟨d, Nat.le_refl _, rfl, Lib.hid rfl⟩
      case round =>
        obtain ⟨c, hc, rfl, HT⟩ := hrel
        obtain ⟨e, HEC⟩ : ∃ e, Hid (c * x = e) := ⟨_, Lib.hid rfl⟩
        have hcx : c * x ≤ d * x := Nat.mul_le_mul_right x hc
        rw [HEC.out] at hcx
        obtain ⟨y, HY⟩ : ∃ y, Hid (m - e = y) := ⟨_, Lib.hid rfl⟩
        have hym : y ≤ m := by have := HY.out; omega
        have hcb : c ≤ 1000000 := by have h1 := Nat.le_mul_of_pos_right c (show 0 < x by omega); have := HEC.out; omega
        have hw1 : IntKind.i64.wrap ((c : Int) * (x : Int)) = (e : Int) := by rw [IntWalk.i64_in _ (by rw [← Int.natCast_mul, HEC.out]; omega), ← Int.natCast_mul, HEC.out]
        have hw2 : IntKind.i64.wrap ((m : Int) - (e : Int)) = (y : Int) := by rw [IntWalk.i64_in _ (by omega)]; have := HY.out; omega
        have hyl : (y : Int) < (rl : Int) := by rw [← HRL.out, rbL_length]; omega
        have HPC := Lib.hid (show cntP l2 x m c = rb l2 y by unfold cntP; rw [HEC.out, HY.out])
        obtain ⟨yr, _⟩ := BoolS.at_ R5.out (j := y) (by rw [rbL_length]; omega)
        rw [rbL_nth l2 hym, ← HPC.out] at yr
        cases hpc : cntP l2 x m c with
        | false =>
          rw [hpc] at yr
          obtain ⟨c0, HC0⟩ : ∃ c0, Hid (c = c0 + 1) := by
            rcases c with _ | c0
            · exfalso
              have h1 := HTOP.out.1
              rw [HT.out, show topN (cntP l2 x m) 0 = 0 from rfl, hpc] at h1
              cases h1
            · exact ⟨c0, Lib.hid rfl⟩
          have HT2 := Lib.hid (show topN (cntP l2 x m) d = topN (cntP l2 x m) c0 by rw [HT.out, HC0.out]; exact topN_less (by rw [← HC0.out]; exact hpc))
          have hw3 : IntKind.i64.wrap ((c : Int) - 1) = (c0 : Int) := by rw [IntWalk.i64_in _ (by omega)]; have := HC0.out; omega
          have hcc0 : c0 < c := by have := HC0.out; omega
          clear hpc
          go_wp2_with fail
          go_round
          case rel => exact ⟨c0, by omega, by go_num, HT2⟩
          case measure => simp [intOf]; omega
        | true =>
        rw [hpc] at yr
        have HCT := Lib.hid (show c = topN (cntP l2 x m) d by rw [HT.out]; exact (topN_self hpc).symm)
        have HPN := Lib.hid (HNX.out c HCT.out)
        rw [HEC.out, HY.out] at HPN
        clear hpc
        have hol := pre_length (zl := zl) hpl (by omega : i ≤ zl)
        obtain ⟨yo, yf⟩ := IntS.at0 O5.out (j := i) (by rw [hol]; exact hil)
        obtain ⟨ov, HOV⟩ : ∃ ov, Hid (nth (natL pre ++ List.replicate (zl - i) 0) i = ov) := ⟨_, Lib.hid rfl⟩
        rw [HOV.out] at yo
        have HOS := Lib.hid (show IntS (W5.setCell ⟨w.heap.size, i, none⟩ (.int .i64 c)) w.heap.size (w.heap.size + 1) (.slice (some ⟨w.heap.size, 0, none⟩) zl zl) (natL (pre ++ [c]) ++ List.replicate (zl - (i + 1)) 0) by rw [← set_pre hpl hil]; exact IntS.set0 O5.out (by rw [hol]; exact hil) _)
        clear hol
        go_wp2_with fail
        go_roundw
        case rel =>
          refine ⟨i + 1, y, pre ++ [c], by omega, rfl, by go_num, HOS, HPN, by simp; omega, Lib.hid (HF5.out.setCell (p := ⟨w.heap.size, i, none⟩) (Nat.le_refl _) (Nat.lt_succ_self _) _)⟩
        case measure => simp [intOf]; omega

set_option maxHeartbeats 4000000 in
set_option maxRecDepth 100000 in
theorem SumsTo_spec (v1 : Value) (z : List Int) (lo1 hi1 : Nat) (n : Int) (w : World) (h1 : IntS w lo1 hi1 v1 z) (hh1 : hi1 ≤ w.heap.size) (hz : z.length ≤ 1048576) :
    Calls Try.prog 7 #[v1, .int .i64 n] w fun e w' => ∃ r, e = .returned (.tuple #[r, .bool (sumsOk z n)]) ∧ IntS w' w.heap.size w'.heap.size r (sumsV z n) ∧ Below w.heap.size w w' := by
  have F1 := Lib.hid h1
  obtain ⟨A1, c1, rfl, hc1, hd1⟩ := h1.dims
  clear h1
  go_enter Try.func7, Try.ntmps7
  by_cases hb : lensB z = true
  case neg =>
    have hb' : lensB z = false := by simpa using hb
    have HE := Lib.hid (show sumsOk z n = false by unfold sumsOk; rw [hb']; rfl)
    have HV := Lib.hid (sumsV_no HE.out)
    clear hb
    go_wp2_with fail
    refine (nuLengths_any _ z _ _ _ F1.out (by omega)).mono ?_
    rintro e w' ⟨rfl, rfl⟩
    rw [hb']
    go_wp2_with fail
    go_ret2
    exact ⟨_, ret_vb HE.out.symm, by rw [HV.out]; exact IntS.nil _ _ _, Below.refl _ _⟩
  by_cases hin : inB n 0 2000 = true
  case neg =>
    have hin' : inB n 0 2000 = false := by simpa using hin
    have HE := Lib.hid (show sumsOk z n = false by unfold sumsOk; rw [hb, hin']; rfl)
    have HV := Lib.hid (sumsV_no HE.out)
    clear hin
    go_wp2_with fail
    refine (nuLengths_any _ z _ _ _ F1.out (by omega)).mono ?_
    rintro e w' ⟨rfl, rfl⟩
    rw [hb]
    go_wp2_with fail
    refine (l1In_any _ _ _ _).mono ?_
    rintro e w' ⟨rfl, rfl⟩
    rw [hin']
    go_wp2_with fail
    go_ret2
    exact ⟨_, ret_vb HE.out.symm, by rw [HV.out]; exact IntS.nil _ _ _, Below.refl _ _⟩
  have HOK := Lib.hid (show sumsOk z n = rb (z.map Int.toNat) n.toNat by unfold sumsOk; rw [hb, hin]; rfl)
  have hn0 : 0 ≤ n ∧ n ≤ 2000 := by unfold inB at hin; simpa using hin
  obtain ⟨N, rfl⟩ : ∃ N : Nat, n = N := ⟨n.toNat, by omega⟩
  have hN : N ≤ 2000 := by omega
  obtain ⟨l, hzl, hl⟩ := lensB_of hb
  have HV := Lib.hid (fun h : rb l N = true => (show sumsV z (N : Int) = natL (partsN l N) by unfold sumsV; rw [HOK.out, hzl, natL_toNat, Int.toNat_natCast, h]; rfl))
  replace HOK := Lib.hid (show sumsOk z (N : Int) = rb l N by rw [HOK.out, hzl, natL_toNat, Int.toNat_natCast])
  have hlz : z.length = l.length := by rw [hzl, natL_length]
  have HZL := Lib.hid hzl
  have HL := Lib.hid hl
  clear hzl hl
  have HBZ := Lib.hid hb
  have HIN := Lib.hid hin
  clear hb hin
  obtain ⟨zl, HLL⟩ : ∃ c : Nat, Hid (l.length = c) := ⟨_, Lib.hid rfl⟩
  have hll : zl ≤ 1048576 := by rw [← HLL.out, ← hlz]; exact hz
  rw [HLL.out] at hlz
  rw [hlz]
  go_wp2_with fail
  refine (nuLengths_any _ z _ _ _ (by have := F1.out; rw [hlz] at this; exact this) (by omega)).mono ?_
  rintro e w' ⟨rfl, rfl⟩
  rw [HBZ.out]
  go_wp2_with fail
  refine (l1In_any _ _ _ _).mono ?_
  rintro e w' ⟨rfl, rfl⟩
  rw [HIN.out]
  go_wp2_with fail
  have F1' := Lib.hid (show IntS w lo1 hi1 (.slice A1 zl c1) z by have := F1.out; rw [hlz] at this; exact this)
  clear F1
  refine (nuSums_any _ z _ _ N _ F1'.out (by omega) l HZL.out (fun x hx => by have := HL.out.is x hx; omega) (by omega) (by rw [HLL.out]; exact hll)).mono ?_
  rintro e W1 ⟨q1, rfl, hq1, hb1⟩
  have hg1 := grown_below hb1; clear hb1
  have hs1 := hg1.size
  have HF1 := Lib.hid ((Turned.refl w.heap.size w.heap.size w).still hg1)
  have Q1 := Lib.hid hq1; clear hq1
  obtain ⟨Aq, cq, rfl, hcq, hdq⟩ := BoolS.dims Q1.out
  have hrl := rbL_length l N
  obtain ⟨bq, oq, rfl, _, hbq, xq, _⟩ := BoolS.opened Q1.out (j := N) (by rw [hrl]; omega)
  rw [rbL_nth l (Nat.le_refl _)] at xq
  obtain ⟨ql, HQL⟩ : ∃ c : Nat, Hid ((rbL l N).length = c) := ⟨_, Lib.hid rfl⟩
  have hql : (N : Int) < (ql : Int) := by rw [← HQL.out, hrl]; omega
  rw [HQL.out]
  clear hrl
  by_cases hr : rb l N = true
  case neg =>
    have hr' : rb l N = false := by simpa using hr
    rw [hr'] at xq
    have HE := Lib.hid (show sumsOk z (N : Int) = false by rw [HOK.out, hr'])
    clear hr' hr
    go_wp2_with fail
    go_ret2
    exact ⟨_, ret_vb HE.out.symm, by rw [sumsV_no HE.out]; exact IntS.nil _ _ _, (HF1.out.below_of (Below.refl _ _) (by omega) (by omega))⟩
  rw [hr] at xq
  have HE := Lib.hid (show sumsOk z (N : Int) = true by rw [HOK.out, hr])
  have HR := Lib.hid ((rb_iff (fun x hx => (HL.out.is x hx).1) _).1 hr)
  replace HV := Lib.hid (HV.out hr)
  clear hr
  go_wp2_with fail
  clear xq
  refine (nuParts_any _ z _ _ N _ (IntS.turned F1'.out HF1.out (by omega) (by omega)) (by omega) l HZL.out HL.out HR.out hN hz).mono ?_
  rintro e W2 ⟨q2, rfl, hq2, hb2⟩
  have hg2 := grown_below hb2; clear hb2
  have hs2 := hg2.size
  have HF2 := Lib.hid (HF1.out.still hg2); clear HF1
  have P2 := Lib.hid hq2; clear hq2
  obtain ⟨Ap, cp, rfl, hcp, hdp⟩ := IntS.dims P2.out
  go_wp2_with fail
  go_ret2
  exact ⟨_, ret_vb HE.out.symm, by rw [HV.out]; exact IntS.mono P2.out (by omega) (Nat.le_refl _), (HF2.out.below_of (Below.refl _ _) (by omega) (by omega))⟩

theorem sumsN_any (v : Value) (z : List Int) (lo hi N : Nat) (nv : Int) (w : World) (h : IntS w lo hi v z) (hh : hi ≤ w.heap.size) (l : List Nat) (hzl : z = natL l) (hl : Lens l) (hnv : nv = N) (hN : N ≤ 3200) (hll : l.length ≤ 1048576) :
    Calls Try.prog 19 #[v, .int .i64 nv] w fun e w' => ∃ r bs, e = .returned r ∧ BoolS w' w.heap.size w'.heap.size r bs ∧ Hid (bs.length = N + 1 ∧ ∀ j, j ≤ N → nthB bs j = rb l j) ∧ Below w.heap.size w w' := by
  subst hnv
  refine (sumsUpTo_any v z lo hi N w h hh l hzl (fun x hx => by have := hl.is x hx; omega) hN hll).mono ?_
  rintro e w' ⟨r, rfl, h1, h2⟩
  exact ⟨r, _, rfl, h1, Lib.hid ⟨rbL_length l N, fun j hj => rbL_nth l hj⟩, h2⟩

theorem nuSumsN_any (v : Value) (z : List Int) (lo hi N : Nat) (nv : Int) (w : World) (h : IntS w lo hi v z) (hh : hi ≤ w.heap.size) (l : List Nat) (hzl : z = natL l) (hl : Lens l) (hnv : nv = N) (hN : N ≤ 3200) (hll : l.length ≤ 1048576) :
    Calls Try.prog 22 #[v, .int .i64 nv] w fun e w' => ∃ r bs, e = .returned r ∧ BoolS w' w.heap.size w'.heap.size r bs ∧ Hid (bs.length = N + 1 ∧ ∀ j, j ≤ N → nthB bs j = rb l j) ∧ Below w.heap.size w w' := by
  subst hnv
  refine (nuSums_any v z lo hi N w h hh l hzl (fun x hx => by have := hl.is x hx; omega) hN hll).mono ?_
  rintro e w' ⟨r, rfl, h1, h2⟩
  exact ⟨r, _, rfl, h1, Lib.hid ⟨rbL_length l N, fun j hj => rbL_nth l hj⟩, h2⟩

set_option maxHeartbeats 4000000 in
set_option maxRecDepth 100000 in
theorem ConductorOf_impl (v1 : Value) (z : List Int) (lo1 hi1 : Nat) (w : World) (h1 : IntS w lo1 hi1 v1 z) (hh1 : hi1 ≤ w.heap.size) (hz : z.length ≤ 1048576) :
    Calls Try.prog 10 #[v1] w fun e w' => e = .returned (.tuple #[.int .i64 (cndZ z), .bool (lensB z)]) ∧ Below w.heap.size w w' := by
  have F1 := Lib.hid h1
  obtain ⟨A1, c1, rfl, hc1, hd1⟩ := h1.dims
  clear h1
  go_enter Try.func10, Try.ntmps10
  go_wp2_with fail
  refine (areLengths_any _ z _ _ _ F1.out (by omega)).mono ?_
  rintro e w' ⟨rfl, rfl⟩
  cases hb : lensB z with
  | false =>
    have HE := Lib.hid (cndZ_no hb)
    go_wp2_with fail
    go_ret2
    rw [HE.out, hb]
    exact ⟨rfl, Below.refl _ _⟩
  | true =>
  obtain ⟨l, HZ, hl⟩ := lensB_of hb
  have HE := Lib.hid (show cndZ z = (cndN l : Nat) by rw [HZ]; exact cndZ_nat (by rw [← HZ]; exact hb))
  have HBZ := Lib.hid hb; clear hb
  have HZH := Lib.hid HZ; clear HZ
  have hll : l.length ≤ 1048576 := by rw [← natL_length, ← HZH.out]; exact hz
  have HL := Lib.hid hl; clear hl
  obtain ⟨g, HG⟩ : ∃ g, Hid (gcdF 0 l = g) := ⟨_, Lib.hid rfl⟩
  have hg1 : 1 ≤ g ∧ g ≤ 40 := by have := HL.out.g; rw [HG.out] at this; exact this
  go_wp2_with fail
  refine (gcd_any _ z _ _ _ F1.out (by omega) l HZH.out HL.out.is).mono ?_
  rintro e W1 ⟨rfl, hb1⟩
  have hg1 := grown_below hb1; clear hb1
  have hs1 := hg1.size
  have HF1 := Lib.hid ((Turned.refl w.heap.size w.heap.size w).still hg1)
  rw [HG.out]
  go_wp2_with fail
  refine (sumsN_any _ z _ _ 1600 1600 _ (IntS.turned F1.out HF1.out (by omega) (by omega)) (by omega) l HZH.out HL.out rfl (by omega) hll).mono ?_
  rintro e W2 ⟨q1, bs, rfl, hq1, HBS, hb2⟩
  have hg2 := grown_below hb2; clear hb2
  have hs2 := hg2.size
  have HF2 := Lib.hid (HF1.out.still hg2); clear HF1
  have HQ := Lib.hid hq1; clear hq1
  have hbl : bs.length = 1601 := HBS.out.1
  obtain ⟨Aq, cq, rfl, hcq, hdq⟩ := HQ.out.dims
  obtain ⟨bq, oq, rfl, _, hbq, _, _⟩ := HQ.out.opened (j := 0) (by omega)
  go_wp2_with fail
  go_loop [6] (fun mv => ∃ (m : Nat), m ≤ 1601 ∧ mv = .int .i64 ((m : Int) - 1) ∧ Hid (cndN l = cndD (noS l) m)) (fun mv => (intOf mv + 1).toNat)
  case atStart => exact ⟨1601, Nat.le_refl _, rfl, Lib.hid rfl⟩
  case round =>
    obtain ⟨m, hm, rfl, HC⟩ := hrel
    rcases m with _ | k
    · have hge : ¬ (0 : Int) ≤ ((0 : Nat) : Int) - 1 := by omega
      have hge2 : decide ((0 : Int) ≤ ((0 : Nat) : Int) - 1) = false := by simp
      have HC0 := Lib.hid (show cndN l = 0 from HC.out)
      go_wp2_with fail
      go_ret2
      rw [HE.out, HC0.out, HBZ.out]
      exact ⟨rfl, (HF2.out.below_of (Below.refl _ _) (by omega) (by omega))⟩
    · have hkk : ((k + 1 : Nat) : Int) - 1 = (k : Int) := by omega
      rw [hkk]
      have hk0 : (0 : Int) ≤ (k : Int) := by omega
      have hk1 : (k : Int) < 1601 := by omega
      have hgz : ¬ (g : Int) = 0 := by omega
      have hge : ((g : Int) == 0) = false := by simp; omega
      have htm := tmodN k g
      obtain ⟨r, HR⟩ : ∃ r, Hid (k % g = r) := ⟨_, Lib.hid rfl⟩
      rw [HR.out] at htm
      have HNS := Lib.hid (show noS l k = (r == 0 && !rb l k) by unfold noS; rw [HG.out, HR.out])
      have HCK := Lib.hid (show cndN l = if noS l k then k + 1 else cndD (noS l) k from HC.out)
      obtain ⟨y1, _⟩ := BoolS.at_ HQ.out (j := k) (by omega)
      rw [HBS.out.2 k (by omega)] at y1
      have hw1 : IntKind.i64.wrap ((k : Int) - 1) = (k : Int) - 1 := IntWalk.i64_in _ (by omega)
      obtain ⟨b, HB⟩ : ∃ b, Hid (rb l k = b) := ⟨_, Lib.hid rfl⟩
      rw [HB.out] at y1
      clear hkk
      by_cases hr0 : r = 0
      · subst hr0
        cases b with
        | false =>
          have HCF := Lib.hid (show cndN l = k + 1 by rw [HCK.out, HNS.out, HB.out]; rfl)
          go_wp2_with fail
          go_ret2
          rw [HE.out, HCF.out, HBZ.out]
          exact ⟨rfl, (HF2.out.below_of (Below.refl _ _) (by omega) (by omega))⟩
        | true =>
          have HCF := Lib.hid (show cndN l = cndD (noS l) k by rw [HCK.out, HNS.out, HB.out]; rfl)
          go_wp2_with fail
          go_round
          case rel => exact ⟨k, by omega, by go_num, HCF⟩
          case measure => simp [intOf] <;> omega
      · have hre : ((r : Int) == 0) = false := by simp; omega
        have hre2 : (r == 0) = false := by simp; omega
        have HCF := Lib.hid (show cndN l = cndD (noS l) k by rw [HCK.out, HNS.out, hre2]; rfl)
        have hrz : ¬ (r : Int) = 0 := by omega
        go_wp2_with fail
        go_round
        case rel => exact ⟨k, by omega, by go_num, HCF⟩
        case measure => simp [intOf] <;> omega

end Go.Proofs.Ytanikenkfnhicaa
