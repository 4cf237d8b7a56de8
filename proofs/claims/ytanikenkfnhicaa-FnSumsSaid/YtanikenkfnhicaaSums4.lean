/-
  Contracts: the reference's conductor, the drawn lengths.
-/
import Derived.Test.YtanikenkfnhicaaSums3
import Derived.Test.YtanikenkfnhicaaPut2
import Derived.Test.YtanikenkfnhicaaSubL
namespace Go.Proofs.Ytanikenkfnhicaa
open Go.ChangeShapes Go.WideShapes Go.ChangeAt Go.RowKit
set_option linter.unusedVariables false

set_option maxHeartbeats 4000000 in
set_option maxRecDepth 100000 in
theorem nuConductor_any (v1 : Value) (z : List Int) (lo1 hi1 : Nat) (w : World) (h1 : IntS w lo1 hi1 v1 z) (hh1 : hi1 ≤ w.heap.size) (l : List Nat) (HZ : z = natL l) (hl : Lens l) (hz : z.length ≤ 1048576) :
    Calls Try.prog 26 #[v1] w fun e w' => e = .returned (.int .i64 (cndN l : Nat)) ∧ Below w.heap.size w w' := by
  have F1 := Lib.hid h1
  obtain ⟨A1, c1, rfl, hc1, hd1⟩ := h1.dims
  clear h1
  go_enter Try.func26, Try.ntmps26
  have HZH := Lib.hid HZ; clear HZ
  have hll : l.length ≤ 1048576 := by rw [← natL_length, ← HZH.out]; exact hz
  have HL := Lib.hid hl; clear hl
  obtain ⟨g, HG⟩ : ∃ g, Hid (gcdF 0 l = g) := ⟨_, Lib.hid rfl⟩
  have hg1 : 1 ≤ g ∧ g ≤ 40 := by have := HL.out.g; rw [HG.out] at this; exact this
  have HCN := Lib.hid (show cndN l = cndG l g (3200 / g) by rw [cndN_eq HL.out, HG.out])
  obtain ⟨K, HK⟩ : ∃ K, Hid (3200 / g = K) := ⟨_, Lib.hid rfl⟩
  rw [HK.out] at HCN
  have htd := tdivN 3200 g
  rw [HK.out] at htd
  have hgz : ¬ (g : Int) = 0 := by omega
  have hge : ((g : Int) == 0) = false := by simp; omega
  have hKg : K * g ≤ 3200 := by rw [← HK.out]; exact Nat.div_mul_le_self 3200 g
  have hK1 : K ≤ 3200 := Nat.le_trans (Nat.le_mul_of_pos_right K hg1.1) hKg
  obtain ⟨M, HM⟩ : ∃ M, Hid (K * g = M) := ⟨_, Lib.hid rfl⟩
  have hM : M ≤ 3200 := by rw [← HM.out]; exact hKg
  clear hKg
  have hwM : IntKind.i64.wrap ((K : Int) * (g : Int)) = (M : Int) := by rw [← Int.natCast_mul, HM.out]; exact IntWalk.i64_in _ (by omega)
  replace htd : Int.tdiv 3200 (g : Int) = (K : Int) := htd
  have hwK : Go.RowKit.wrap64 (K : Int) = (K : Int) := by unfold Go.RowKit.wrap64; omega
  clear hwK
  go_wp2_with fail
  refine (nuGcds_any _ z _ _ _ F1.out (by omega) l HZH.out HL.out.is).mono ?_
  rintro e W1 ⟨rfl, hb1⟩
  have hg1 := grown_below hb1; clear hb1
  have hs1 := hg1.size
  have HF1 := Lib.hid ((Turned.refl w.heap.size w.heap.size w).still hg1)
  rw [HG.out]
  go_wp2_with fail
  refine (nuSumsN_any _ z _ _ M _ _ (IntS.turned F1.out HF1.out (by omega) (by omega)) (by omega) l HZH.out HL.out rfl hM hll).mono ?_
  rintro e W2 ⟨q1, bs, rfl, hq1, HBS, hb2⟩
  have hg2 := grown_below hb2; clear hb2
  have hs2 := hg2.size
  have HF2 := Lib.hid (HF1.out.still hg2); clear HF1
  have HQ := Lib.hid hq1; clear hq1
  have HBL := Lib.hid (show bs.length = M + 1 from HBS.out.1)
  obtain ⟨Aq, cq, rfl, hcq, hdq⟩ := HQ.out.dims
  obtain ⟨bq, oq, rfl, _, hbq, _, _⟩ := HQ.out.opened (j := 0) (by have := HBL.out; omega)
  obtain ⟨bl, HBB⟩ : ∃ bl, Hid (bs.length = bl) := ⟨_, Lib.hid rfl⟩
  have hbM : bl = M + 1 := by rw [← HBB.out, HBL.out]
  have HBM := Lib.hid hbM; clear hbM
  rw [HBB.out] at HQ hcq
  try rw [HBB.out]
  go_wp2_with fail
  go_loop [6] (fun cv => ∃ (k c : Nat), k ≤ K ∧ cv = .int .i64 c ∧ Hid (k * g = c) ∧ c ≤ M ∧ Hid (cndN l = cndG l g k)) (fun cv => (intOf cv).toNat)
  case atStart => exact ⟨K, M, Nat.le_refl _, rfl, HM, Nat.le_refl _, HCN⟩
  case round =>
    obtain ⟨k, c, hk, rfl, HCK, hcM, HC⟩ := hrel
    rcases k with _ | k
    · obtain rfl : c = 0 := by have := HCK.out; omega
      have HC0 := Lib.hid (show cndN l = 0 from HC.out)
      go_wp2_with fail
      go_ret
      exact ⟨ret_int (by rw [HC0.out]; rfl), (HF2.out.below_of (Below.refl _ _) (by omega) (by omega))⟩
    · obtain ⟨d, HD⟩ : ∃ d, Hid (k * g = d) := ⟨_, Lib.hid rfl⟩
      have hcd : c = d + g := by have h1 := HCK.out; rw [Nat.succ_mul, HD.out] at h1; exact h1.symm
      have HCD := Lib.hid hcd
      have hc0 : (0 : Int) < (c : Int) := by omega
      have hcz : ¬ (c : Int) = 0 := by omega
      have hw1 : IntKind.i64.wrap ((c : Int) - (g : Int)) = (d : Int) := by rw [IntWalk.i64_in _ (by omega)]; omega
      have hdl : (d : Int) < (bl : Int) := by have := HBM.out; omega
      have hdM : d ≤ M := by omega
      have hgp : (0 : Int) < g := by omega
      have hcp : 0 < c := by omega
      have hdc : d < c := by omega
      clear hcd
      have HCS := Lib.hid (show cndN l = if rb l d then cndG l g k else d + 1 by rw [HC.out, ← HD.out]; rfl)
      obtain ⟨y1, _⟩ := BoolS.at_ HQ.out (j := d) (by rw [HBL.out]; omega)
      rw [HBS.out.2 d hdM] at y1
      obtain ⟨b, HB⟩ : ∃ b, Hid (rb l d = b) := ⟨_, Lib.hid rfl⟩
      rw [HB.out] at y1
      cases b with
      | false =>
        have HCF := Lib.hid (show cndN l = d + 1 by rw [HCS.out, HB.out]; rfl)
        go_wp2_with fail
        go_ret
        exact ⟨ret_int (by rw [HCF.out]; first | rfl | simp), (HF2.out.below_of (Below.refl _ _) (by omega) (by omega))⟩
      | true =>
        have HCF := Lib.hid (show cndN l = cndG l g k by rw [HCS.out, HB.out]; rfl)
        go_wp2_with fail
        go_round
        case rel => exact ⟨k, d, by omega, by go_num, HD, hdM, HCF⟩
        case measure => simp [intOf]; omega

set_option maxHeartbeats 4000000 in
set_option maxRecDepth 100000 in
theorem ConductorOf_spec (v1 : Value) (z : List Int) (lo1 hi1 : Nat) (w : World) (h1 : IntS w lo1 hi1 v1 z) (hh1 : hi1 ≤ w.heap.size) (hz : z.length ≤ 1048576) :
    Calls Try.prog 11 #[v1] w fun e w' => e = .returned (.tuple #[.int .i64 (cndZ z), .bool (lensB z)]) ∧ Below w.heap.size w w' := by
  have F1 := Lib.hid h1
  obtain ⟨A1, c1, rfl, hc1, hd1⟩ := h1.dims
  clear h1
  go_enter Try.func11, Try.ntmps11
  go_wp2_with fail
  refine (nuLengths_any _ z _ _ _ F1.out (by omega)).mono ?_
  rintro e w' ⟨rfl, rfl⟩
  cases hb : lensB z with
  | false =>
    have HE := Lib.hid (cndZ_no hb)
    go_wp2_with fail
    go_ret2
    rw [HE.out, hb]
    exact ⟨rfl, Below.refl _ _⟩
  | true =>
    obtain ⟨l, HZ, hl⟩ := lensB_of hb
    have HE := Lib.hid (show cndZ z = (cndN l : Nat) by rw [HZ]; exact cndZ_nat (by rw [← HZ]; exact hb))
    have HZH := Lib.hid HZ; clear HZ
    go_wp2_with fail
    refine (nuConductor_any _ z _ _ _ F1.out (by omega) l HZH.out hl hz).mono ?_
    rintro e w' ⟨rfl, hbw⟩
    go_wp2_with fail
    go_ret2
    rw [HE.out, hb]
    exact ⟨rfl, hbw⟩

theorem putL_pos (zs : List Int) (x : Int) : 0 < (putL zs x).length := by
  unfold putL; split
  · omega
  · simp only [List.length_append, List.length_cons, List.length_nil]; omega
theorem own_one (w : World) (base : Nat) (e : TypeId) (x : Int) {g : Nat} (hg : w.heap.size = g) (hb : base ≤ g) : OwnI (w.alloc (.cells #[.int .i64 x] e)) base e (.slice (some ⟨g, 0, none⟩) 1 1) [x] := by
  subst hg
  refine ⟨by simp, .inr ⟨w.heap.size, 1, #[.int .i64 x], by simp, hb, heap_alloc_new w _, Nat.le_refl _, by unfold maxLen; omega, rfl, rfl⟩⟩
theorem turned_grown {g : Nat} {A W : World} (h : Turned g (g + 1) A W) : A.grownBy W (some g) :=
  ⟨h.os, h.tape, h.output, h.size, fun k hk hne => h.block k hk (by have : k ≠ g := fun e => hne (by rw [e]); omega)⟩

set_option maxHeartbeats 4000000 in
set_option maxRecDepth 100000 in
theorem lengths_any (g : Nat) (w : World)  (k lo hi : Nat) (v : Value) (bs : List Int) (hC : Cur w g v k) (hk : k < 1000000000) (hB : ByS w lo hi v bs) (hb : Bytes bs) (hl : bs.length ≤ 1048576) (hg : g < lo ∨ hi ≤ g) (hh : hi ≤ w.heap.size) :
    Calls Try.prog 14 #[.pointer (some ⟨g, 0, none⟩)] w fun e w' => ∃ (r : Value) (l : List Int), e = .returned r ∧ l.length ≤ 10 ∧ IntS w' w.heap.size w'.heap.size r l ∧ Cur w' g v (k + 30) ∧ w.grownBy w' (some g) := by
  have hgw := hC.lt
  have HC := Lib.hid hC; clear hC
  have HBB := Lib.hid hB; clear hB
  have HBY := Lib.hid hb; clear hb
  go_enter Try.func14, Try.ntmps14
  go_wp2_with fail
  refine (pick_any 3 g k lo hi _ bs _ HC.out (by omega) HBB.out HBY.out (by omega) (by omega) (by omega)).mono ?_
  rintro e W1 ⟨x, rfl, _, hx, hC1, hg1⟩
  have hs1 := hg1.size
  have HF1 := Lib.hid ((Turned.refl g (g + 1) w).grown hg1 (fun b e => by cases e; omega))
  have HC1 := Lib.hid hC1; clear hC1 HC
  have hx3 : (x : Int) < 3 := hx (by decide)
  clear hx
  have hwx : IntKind.i64.wrap (1 + (x : Int)) = ((x + 1 : Nat) : Int) := by rw [IntWalk.i64_in _ (by omega)]; omega
  obtain ⟨N, HN⟩ : ∃ N, Hid (x + 1 = N) := ⟨_, Lib.hid rfl⟩
  rw [HN.out] at hwx
  have hN3 : N ≤ 3 := by have := HN.out; omega
  go_wp2_with fail
  go_loopw [3, 4] (fun ov nv wr => ∃ (n : Nat) (out : List Int), n ≤ 3 ∧ nv = .int .i64 n ∧ Hid (Cur wr g v (k + 2 + 4 * (3 - n))) ∧ Hid (OwnI wr w.heap.size 3 ov out) ∧ out.length + n ≤ 3 ∧ (n = N ∨ 0 < out.length) ∧ Hid (Turned g (g + 1) w wr)) (fun ov nv _ => (intOf nv).toNat)
  case atStart => exact ⟨N, [], hN3, rfl, Lib.hid (HC1.out.mono (by omega)), Lib.hid (OwnI.nil _ _ _), by simpa using hN3, .inl rfl, HF1⟩
  case round =>
    clear HF1
    obtain ⟨n, out, hn, rfl, HC, HO, hol, hne, HF2⟩ := hrel
    have hs2 := HF2.out.size
    obtain ⟨wq, rfl⟩ : ∃ wq : World, wq = wr := ⟨_, rfl⟩
    obtain ⟨Ao, co, rfl, hco, hdo⟩ := HO.out.ints.dims
    by_cases hn0 : 0 < n
    case pos =>
      obtain ⟨p, HP⟩ : ∃ p, Hid (n = p + 1) := ⟨n - 1, Lib.hid (by omega)⟩
      have hn0i : (0 : Int) < (n : Int) := by omega
      have hwp : IntKind.i64.wrap ((n : Int) - 1) = (p : Int) := by rw [IntWalk.i64_in _ (by omega)]; have := HP.out; omega
      have hpn : p < n := by have := HP.out; omega
      go_wp2_with fail
      refine (pick_any 40 g (k + 2 + 4 * (3 - n)) lo hi _ bs _ HC.out (by omega) (ByS.turned HBB.out HF2.out (by omega) (by omega)) HBY.out (by omega) (by omega) (by omega)).mono ?_
      rintro e W3 ⟨y, rfl, _, hy, hC3, hg3⟩
      have hs3 := hg3.size
      have HF3 := Lib.hid (HF2.out.grown hg3 (fun b e => by cases e; omega)); clear HF2
      have O3 := Lib.hid (OwnI.far HO.out hg3 (fun b e => .inl (by cases e; omega))); clear HO
      have HC3 := Lib.hid hC3; clear hC3 HC
      have hy40 : (y : Int) < 40 := hy (by decide)
      clear hy
      have hwy : IntKind.i64.wrap (1 + (y : Int)) = 1 + (y : Int) := IntWalk.i64_in _ (by omega)
      go_wp2_with fail
      refine nameK ?_
      intro W4 HW4
      have hg4 : W3.grownBy W4 none := by rw [HW4.out]; exact grown_alloc _ _
      have hs4 := hg4.size
      have HF4 := Lib.hid (HF3.out.still hg4); clear HF3
      have C4 := Lib.hid (Cur.still HC3.out hg4); clear HC3
      have O4 := Lib.hid (OwnI.still O3.out hg4); clear O3
      have L4 := Lib.hid (show IntS W4 W3.heap.size (W3.heap.size + 1) (.slice (some ⟨W3.heap.size, 0, none⟩) 13 13) [1, 2, 3, 4, 5, 6, 7, 9, 10, 12, 39, 40, 1 + (y : Int)] by rw [HW4.out]; exact IntS.newN W3 [1, 2, 3, 4, 5, 6, 7, 9, 10, 12, 39, 40, 1 + (y : Int)] _ rfl (by simp))
      have hz4 : W3.heap.size + 1 ≤ W4.heap.size := by rw [HW4.out]; simp
      clear HW4
      refine (among_any g (k + 2 + 4 * (3 - n) + 2) lo hi _ bs _ ([1, 2, 3, 4, 5, 6, 7, 9, 10, 12, 39, 40, 1 + (y : Int)] : List Int) (W3.heap.size) (W3.heap.size + 1) _ C4.out (by omega) (ByS.turned HBB.out HF4.out (by omega) (by omega)) HBY.out (by omega) (by omega) (by omega) L4.out (by simp) (by omega) (by omega)).mono ?_
      rintro e W5 ⟨j, hj, rfl, hC5, hg5⟩
      have hs5 := hg5.size
      have HF5 := Lib.hid (HF4.out.grown hg5 (fun b e => by cases e; omega)); clear HF4
      have O5 := Lib.hid (OwnI.far O4.out hg5 (fun b e => .inl (by cases e; omega))); clear O4
      have HC5 := Lib.hid hC5; clear hC5 C4
      obtain ⟨av, HAV⟩ : ∃ av : Int, Hid (nth [1, 2, 3, 4, 5, 6, 7, 9, 10, 12, 39, 40, 1 + (y : Int)] j = av) := ⟨_, Lib.hid rfl⟩
      rw [HAV.out]
      clear hj HAV L4
      go_wp2_with fail
      refine (l1Put_any _ out av w.heap.size _ O5.out (by omega) (by omega)).mono ?_
      rintro e W6 ⟨r9, rfl, ho9, hb6⟩
      have hg6 := grown_below hb6; clear hb6
      have hs6 := hg6.size
      have HF6 := Lib.hid (HF5.out.still hg6); clear HF5
      have C6 := Lib.hid (Cur.still HC5.out hg6); clear HC5
      have hpl := putL_len out av
      go_wp2_with fail
      go_roundw
      case rel => exact ⟨p, _, by omega, by go_num, Lib.hid (C6.out.mono (by have := HP.out; omega)), Lib.hid ho9, by have := HP.out; omega, .inr (putL_pos out av), HF6⟩
      case measure => simp [intOf]; omega
    obtain rfl : n = 0 := by omega
    go_wp2_with fail
    refine (pick_any 24 g (k + 2 + 4 * (3 - 0)) lo hi _ bs _ HC.out (by omega) (ByS.turned HBB.out HF2.out (by omega) (by omega)) HBY.out (by omega) (by omega) (by omega)).mono ?_
    rintro e W7 ⟨q, rfl, _, hq, hC7, hg7⟩
    have hs7 := hg7.size
    have HF7 := Lib.hid (HF2.out.grown hg7 (fun b e => by cases e; omega)); clear HF2
    have O7 := Lib.hid (OwnI.far HO.out hg7 (fun b e => .inl (by cases e; omega))); clear HO
    have HC7 := Lib.hid hC7; clear hC7 HC
    clear hq
    by_cases q0 : q = 0
    case pos =>
      subst q0
      go_wp2_with fail
      go_ret
      exact ⟨_, [], rfl, by simp, IntS.nil _ _ _, HC7.out.mono (by omega), turned_grown HF7.out⟩
    have q0i : ¬ (q : Int) = 0 := by omega
    have q0e : ((q : Int) == 0) = false := by simp; omega
    by_cases q1 : q = 1
    case pos =>
      subst q1
      go_wp2_with fail
      refine nameK ?_
      intro W8 HW8
      have hg8 : W7.grownBy W8 none := by rw [HW8.out]; exact grown_alloc _ _
      have hs8 := hg8.size
      have HF8 := Lib.hid (HF7.out.still hg8); clear HF7
      have C8 := Lib.hid (Cur.still HC7.out hg8); clear HC7
      have O8 := Lib.hid (OwnI.still O7.out hg8); clear O7
      have L8 := Lib.hid (show IntS W8 W7.heap.size (W7.heap.size + 1) (.slice (some ⟨W7.heap.size, 0, none⟩) 3 3) [41, 1, 0] by rw [HW8.out]; exact IntS.newN W7 [41, 1, 0] _ rfl (by simp))
      have hz8 : W7.heap.size + 1 ≤ W8.heap.size := by rw [HW8.out]; simp
      clear HW8
      refine (among_any g (k + 2 + 4 * (3 - 0) + 2) lo hi _ bs _ ([41, 1, 0] : List Int) (W7.heap.size) (W7.heap.size + 1) _ C8.out (by omega) (ByS.turned HBB.out HF8.out (by omega) (by omega)) HBY.out (by omega) (by omega) (by omega) L8.out (by simp) (by omega) (by omega)).mono ?_
      rintro e W9 ⟨j, hj, rfl, hC9, hg9⟩
      have hs9 := hg9.size
      have HF9 := Lib.hid (HF8.out.grown hg9 (fun b e => by cases e; omega)); clear HF8
      have O9 := Lib.hid (OwnI.far O8.out hg9 (fun b e => .inl (by cases e; omega))); clear O8
      have HC9 := Lib.hid hC9; clear hC9 C8
      obtain ⟨av, HAV⟩ : ∃ av : Int, Hid (nth [41, 1, 0] j = av) := ⟨_, Lib.hid rfl⟩
      rw [HAV.out]
      clear hj HAV L8
      have hlv := O9.out.lt
      go_wp2_with (at_builtin; refine append_int (s := .tmp 26) Try.underlying24 Try.info3 (by decide) W9 rfl _ rfl O9.out av _ rfl (by simp [Act.eval, go_sem]) (by omega) (by omega) ?_; intro v' w' ho' hg' hat')
      go_ret
      have hgs := hg'.size
      exact ⟨_, _, rfl, by simp; omega, ho'.ints, Cur.mono (HC9.out.far hg' fun b e => by have := hlv b e; omega) (by omega), turned_grown (HF9.out.grown hg' fun b e => .inr (by have := hlv b e; omega))⟩
    have q1i : ¬ (q : Int) = 1 := by omega
    have q1e : ((q : Int) == 1) = false := by simp; omega
    by_cases q2 : q = 2
    case pos =>
      subst q2
      have hopos : 0 < out.length := by have := HN.out; rcases hne with h | h <;> omega
      obtain ⟨b9, o9, rfl, _, _, _, _⟩ := IntS.opened O7.out.ints (j := 0) hopos
      have HE := Lib.hid (own_one W7 W7.heap.size 3 0 rfl (Nat.le_refl _))
      have HCE := Lib.hid (show ∀ j, j < out.length → (W7.alloc (.cells #[.int .i64 0] 3)).cell? ⟨b9, o9 + j, none⟩ = some (.int .i64 (nth out j)) from fun j hj => (IntS.at_ (IntS.alloc O7.out.ints (Nat.le_refl _) _) hj).1)
      go_wp2_with (at_builtin; refine append_ints (s := .tmp 34) Try.underlying24 Try.info3 (by decide) (W7.alloc (.cells #[.int .i64 0] 3)) rfl (.tmp 35) rfl HE.out rfl (g := b9) (off := o9) out rfl rfl HCE.out (by simp; omega) (by simp) ?_; intro v1 w1 ho1 hg1)
      have hlv := HE.out.lt
      have hgs := hg1.size
      have HGA := Lib.hid (show W7.grownBy (W7.alloc (.cells #[.int .i64 0] 3)) none from grown_alloc _ _)
      have hza : W7.heap.size + 1 ≤ (W7.alloc (.cells #[.int .i64 0] 3)).heap.size := by simp
      go_ret
      exact ⟨_, _, rfl, by simp; omega, IntS.mono ho1.ints (by omega) (Nat.le_refl _), Cur.mono (Cur.far (Cur.still HC7.out HGA.out) hg1 fun b e => by have := hlv b e; omega) (by omega), turned_grown ((HF7.out.still HGA.out).grown hg1 fun b e => .inr (by have := hlv b e; omega))⟩
    have q2i : ¬ (q : Int) = 2 := by omega
    have q2e : ((q : Int) == 2) = false := by simp; omega
    go_wp2_with fail
    go_ret
    exact ⟨_, out, rfl, by omega, O7.out.ints, HC7.out.mono (by omega), turned_grown HF7.out⟩

set_option maxHeartbeats 1000000 in
set_option maxRecDepth 100000 in
theorem DrawGcdOf_any (v1 : Value) (code : List Int) (lo1 hi1 : Nat) (w : World) (h1 : ByS w lo1 hi1 v1 code) (hh1 : hi1 ≤ w.heap.size) (hb : Bytes code) (hl : code.length ≤ 1048576) :
    Calls Try.prog 24 #[v1] w fun e w' => ∃ (r : Value) (l : List Int), e = .returned r ∧ l.length ≤ 10 ∧ IntS w' w.heap.size w'.heap.size r l ∧ Below w.heap.size w w' := by
  have HBY := Lib.hid hb; clear hb
  have F1 := Lib.hid h1
  obtain ⟨A1, c1, rfl, hc1, hd1⟩ := h1.dims
  clear h1
  go_enter Try.func24, Try.ntmps24
  go_upto_region 2 with (fail)
  refine nameC ?_
  intro W1 HW1
  have hg1 : w.grownBy W1 none := by rw [HW1.out]; exact grown_alloc _ _
  have hs1 := hg1.size
  have HF1 := Lib.hid ((Turned.refl w.heap.size w.heap.size w).still hg1)
  have HC := Lib.hid (show Cur W1 w.heap.size (.slice A1 code.length c1) 0 by rw [HW1.out]; exact ⟨0, 0, Nat.le_refl _, by omega, by omega, BoxN.new _ _ _⟩)
  have hzc : w.heap.size + 1 ≤ W1.heap.size := by rw [HW1.out]; simp
  clear HW1
  go_wp2_with fail
  refine (lengths_any w.heap.size _ 0 lo1 hi1 _ code HC.out (by omega) (ByS.turned F1.out HF1.out (by omega) (by omega)) HBY.out (by omega) (by omega) (by omega)).mono ?_
  rintro e W2 ⟨r, l, rfl, hll, hr, hC2, hg2⟩
  have hs2 := hg2.size
  have HF2 := Lib.hid (HF1.out.grown hg2 (fun b e => by cases e; omega)); clear HF1
  have HC2 := Lib.hid hC2; clear hC2 HC
  have HR := Lib.hid hr; clear hr
  obtain ⟨Ar, cr, rfl, hcr, hdr⟩ := HR.out.dims
  go_wp2_with fail
  go_ret
  exact ⟨_, l, rfl, hll, IntS.mono HR.out (by omega) (Nat.le_refl _), (HF2.out.below_of (Below.refl _ _) (by omega) (by omega))⟩

set_option maxHeartbeats 1000000 in
set_option maxRecDepth 100000 in
theorem DrawConductorOf_any (v1 : Value) (code : List Int) (lo1 hi1 : Nat) (w : World) (h1 : ByS w lo1 hi1 v1 code) (hh1 : hi1 ≤ w.heap.size) (hb : Bytes code) (hl : code.length ≤ 1048576) :
    Calls Try.prog 9 #[v1] w fun e w' => ∃ (r : Value) (l : List Int), e = .returned r ∧ l.length ≤ 10 ∧ IntS w' w.heap.size w'.heap.size r l ∧ Below w.heap.size w w' := by
  have HBY := Lib.hid hb; clear hb
  have F1 := Lib.hid h1
  obtain ⟨A1, c1, rfl, hc1, hd1⟩ := h1.dims
  clear h1
  go_enter Try.func9, Try.ntmps9
  go_wp2_with fail
  refine (DrawGcdOf_any _ code lo1 hi1 _ F1.out (by omega) HBY.out hl).mono ?_
  rintro e w1 ⟨r, l, rfl, hll, hr, hb1⟩
  go_wp2_with fail
  go_ret
  exact ⟨_, l, rfl, hll, hr, hb1⟩

set_option maxHeartbeats 2000000 in
set_option maxRecDepth 100000 in
theorem DrawSumsTo_any (v1 : Value) (code : List Int) (lo1 hi1 : Nat) (w : World) (h1 : ByS w lo1 hi1 v1 code) (hh1 : hi1 ≤ w.heap.size) (hb : Bytes code) (hl : code.length ≤ 1048576) :
    Calls Try.prog 5 #[v1] w fun e w' => ∃ (r : Value) (l : List Int) (n : Int), e = .returned (.tuple #[r, .int .i64 n]) ∧ l.length ≤ 10 ∧ IntS w' w.heap.size w'.heap.size r l ∧ Below w.heap.size w w' := by
  have HBY := Lib.hid hb; clear hb
  have F1 := Lib.hid h1
  obtain ⟨A1, c1, rfl, hc1, hd1⟩ := h1.dims
  clear h1
  go_enter Try.func5, Try.ntmps5
  go_upto_region 2 with (fail)
  refine nameC ?_
  intro W1 HW1
  have hg1 : w.grownBy W1 none := by rw [HW1.out]; exact grown_alloc _ _
  have hs1 := hg1.size
  have HF1 := Lib.hid ((Turned.refl w.heap.size w.heap.size w).still hg1)
  have HC := Lib.hid (show Cur W1 w.heap.size (.slice A1 code.length c1) 0 by rw [HW1.out]; exact ⟨0, 0, Nat.le_refl _, by omega, by omega, BoxN.new _ _ _⟩)
  have hzc : w.heap.size + 1 ≤ W1.heap.size := by rw [HW1.out]; simp
  clear HW1
  go_wp2_with fail
  refine (lengths_any w.heap.size _ 0 lo1 hi1 _ code HC.out (by omega) (ByS.turned F1.out HF1.out (by omega) (by omega)) HBY.out (by omega) (by omega) (by omega)).mono ?_
  rintro e W2 ⟨r, l, rfl, hll, hr, hC2, hg2⟩
  have hs2 := hg2.size
  have HF2 := Lib.hid (HF1.out.grown hg2 (fun b e => by cases e; omega)); clear HF1
  have HC2 := Lib.hid hC2; clear hC2 HC
  have HR := Lib.hid hr; clear hr
  obtain ⟨Ar, cr, rfl, hcr, hdr⟩ := HR.out.dims
  go_wp2_with fail
  refine (pick_any 60 w.heap.size (0 + 30) lo1 hi1 _ code _ HC2.out (by omega) (ByS.turned F1.out HF2.out (by omega) (by omega)) HBY.out (by omega) (by omega) (by omega)).mono ?_
  rintro e W3 ⟨x, rfl, _, hx, hC3, hg3⟩
  have hs3 := hg3.size
  have HF3 := Lib.hid (HF2.out.grown hg3 (fun b e => by cases e; omega)); clear HF2
  have R3 := Lib.hid (IntS.far HR.out hg3 (by omega) (fun b e => by cases e; omega)); clear HR
  have HC3 := Lib.hid hC3; clear hC3 HC2
  clear hx
  go_wp2_with fail
  refine (pick_any 60 w.heap.size (0 + 30 + 2) lo1 hi1 _ code _ HC3.out (by omega) (ByS.turned F1.out HF3.out (by omega) (by omega)) HBY.out (by omega) (by omega) (by omega)).mono ?_
  rintro e W4 ⟨y, rfl, _, hy, hC4, hg4⟩
  have hs4 := hg4.size
  have HF4 := Lib.hid (HF3.out.grown hg4 (fun b e => by cases e; omega)); clear HF3
  have R4 := Lib.hid (IntS.far R3.out hg4 (by omega) (fun b e => by cases e; omega)); clear R3
  have HC4 := Lib.hid hC4; clear hC4 HC3
  clear hy
  go_wp2_with fail
  refine nameK ?_
  intro W5 HW5
  have hg5 : W4.grownBy W5 none := by rw [HW5.out]; exact grown_alloc _ _
  have hs5 := hg5.size
  have HF5 := Lib.hid (HF4.out.still hg5); clear HF4
  have C5 := Lib.hid (Cur.still HC4.out hg5); clear HC4
  have R5 := Lib.hid (IntS.still R4.out hg5 (by omega)); clear R4
  have L5 := Lib.hid (show IntS W5 W4.heap.size (W4.heap.size + 1) (.slice (some ⟨W4.heap.size, 0, none⟩) 10 10) [0, 1, 7, 11, 100, 2000, 2001, -1, (x : Int), (y : Int)] by rw [HW5.out]; exact IntS.newN W4 [0, 1, 7, 11, 100, 2000, 2001, -1, (x : Int), (y : Int)] _ rfl (by simp))
  have hz5 : W4.heap.size + 1 ≤ W5.heap.size := by rw [HW5.out]; simp
  clear HW5
  refine (among_any w.heap.size (0 + 30 + 2 + 2) lo1 hi1 _ code _ ([0, 1, 7, 11, 100, 2000, 2001, -1, (x : Int), (y : Int)] : List Int) (W4.heap.size) (W4.heap.size + 1) _ C5.out (by omega) (ByS.turned F1.out HF5.out (by omega) (by omega)) HBY.out (by omega) (by omega) (by omega) L5.out (by simp) (by omega) (by omega)).mono ?_
  rintro e W6 ⟨j, hj, rfl, hC6, hg6⟩
  have hs6 := hg6.size
  have HF6 := Lib.hid (HF5.out.grown hg6 (fun b e => by cases e; omega)); clear HF5
  have R6 := Lib.hid (IntS.far R5.out hg6 (by omega) (fun b e => by cases e; omega)); clear R5
  have HC6 := Lib.hid hC6; clear hC6 C5
  obtain ⟨av, HAV⟩ : ∃ av : Int, Hid (nth [0, 1, 7, 11, 100, 2000, 2001, -1, (x : Int), (y : Int)] j = av) := ⟨_, Lib.hid rfl⟩
  rw [HAV.out]
  clear hj HAV L5
  go_wp2_with fail
  go_ret2
  exact ⟨_, l, av, rfl, hll, IntS.mono R6.out (by omega) (by omega), (HF6.out.below_of (Below.refl _ _) (by omega) (by omega))⟩

end Go.Proofs.Ytanikenkfnhicaa
