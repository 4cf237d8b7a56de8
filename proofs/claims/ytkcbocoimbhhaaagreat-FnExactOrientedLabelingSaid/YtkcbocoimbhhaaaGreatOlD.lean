/-
  Several texts in one: PrZ, Ori4, PrP, PrW, PrX, CyI, Pow, CyK, PrY, PeelP, PrJ, PrK, PrI, PrN, PrM. No condition on any program.
-/
import Derived.Test.YtkcbocoimbhhaaaGreatOlC
import Derived.Test.YtkcbocoimbhhaaaGreatOlB
import Derived.RegionTactic
import Derived.Test.YtkcbocoimbhhaaaGreatOlA
import Derived.Deep.AppendLies
import Derived.Lib.Hide
import Derived.Laws.Cover3

/- Contract of ZeroOriented (program). -/
namespace Go.Proofs.YtkcbocoimbhhaaaGreat
open Go.ChangeShapes Go.WideShapes Go.ChangeAt Go.RowKit
set_option linter.unusedVariables false

def zoOut (n S : Nat) : List Int := ascI n fun a => S.testBit a
def zoIn (P : PrD) (n S : Nat) : List Int := ascI n fun b : Nat => pairsB P (zoOut n S) [(b : Int)]
def repL (j m : Nat) (o i : List Int) : List (List Int) := List.replicate j o ++ List.replicate m i
theorem repL_length (j m : Nat) (o i : List Int) : (repL j m o i).length = j + m := by simp [repL]
theorem repL_at {j m k : Nat} {o i : List Int} (h : k < j + m) : nthL (repL j m o i) k = if k < j then o else i := by
  rw [nthL_eq (by rw [repL_length]; exact h)]
  unfold repL
  by_cases e : k < j
  · rw [if_pos e, List.getElem_append_left (by simpa using e)]; simp
  · rw [if_neg e, List.getElem_append_right (by simpa using e)]; simp
def fitsB (P : PrD) (o i : List Int) (D j : Nat) : Bool := (firstC (nodeB P) (repL j (D - j) o i) []).isSome
def goodSet (P : PrD) (n D S : Nat) : Bool := (List.range (D + 1)).all fun j => fitsB P (zoOut n S) (zoIn P n S) D j
/-- the first good set -/
def zoS (P : PrD) : Option Nat := if P.good then (List.range (2 ^ P.L.toNat)).find? fun S => decide (1 ≤ S) && goodSet P P.L.toNat P.D.toNat S else none
theorem prd_LD {P : PrD} (h : P.good = true) : ∃ n D : Nat, P.L = n ∧ P.D = D ∧ 1 ≤ n ∧ n ≤ 8 ∧ 1 ≤ D ∧ D ≤ 4 := by
  unfold PrD.good at h
  rw [Bool.and_eq_true, Bool.and_eq_true] at h
  have h1 := inB_le h.1
  have h2 := inB_le h.2.1
  exact ⟨P.L.toNat, P.D.toNat, by omega, by omega, by omega, by omega, by omega, by omega⟩
theorem zoS_none {P : PrD} {n D : Nat} (hL : P.L = n) (hD : P.D = D) (h : ∀ S, 1 ≤ S → S < 2 ^ n → goodSet P n D S = false) : zoS P = none := by
  unfold zoS
  split
  · rw [List.find?_eq_none]
    intro S hS
    rw [hL, hD, Int.toNat_natCast, Int.toNat_natCast]
    rw [hL, Int.toNat_natCast, List.mem_range] at hS
    by_cases e : 1 ≤ S
    · rw [h S e hS]; simp
    · simp [e]
  · rfl
theorem zoS_some {P : PrD} {n D S : Nat} (hg : P.good = true) (hL : P.L = n) (hD : P.D = D) (h1 : 1 ≤ S) (h2 : S < 2 ^ n) (h : goodSet P n D S = true) (hb : ∀ T, 1 ≤ T → T < S → goodSet P n D T = false) : zoS P = some S := by
  unfold zoS
  rw [if_pos hg, hL, hD, Int.toNat_natCast, Int.toNat_natCast]
  rw [List.find?_range_eq_some]
  refine ⟨by simp [h, h1], List.mem_range.2 h2, fun T hT => ?_⟩
  by_cases e : 1 ≤ T
  · rw [hb T e hT]; simp
  · simp [e]
theorem zoS_bad {P : PrD} (hg : P.good = false) : zoS P = none := by unfold zoS; rw [hg]; rfl
theorem testSet {n S : Nat} (h : S < 2 ^ n) : S = setOf n fun a => S.testBit a := by
  apply Nat.eq_of_testBit_eq
  intro i
  rw [setOf_test]
  by_cases e : i < n
  · simp [e]
  · rw [Nat.testBit_lt_two_pow (Nat.lt_of_lt_of_le h (Nat.pow_le_pow_right (by decide) (by omega)))]; simp [e]
theorem Sl.still {w w' : World} {lo hi sz n : Nat} {v : Value} {f : Nat → Value} (h : Sl w lo hi sz v n f) (hg : w.grownBy w' none) (hB : hi ≤ w.heap.size) : Sl w' lo hi sz v n f := h.keep fun k _ hk => hg.block k (by omega) (by simp)
theorem Own.still {w w' : World} {base : Nat} {e : TypeId} {v : Value} {xs : List Value} (h : Own w base e v xs) (hg : w.grownBy w' none) : Own w' base e v xs := h.kept hg (by cases v.ownBlock with
  | none => exact .inl rfl
  | some g => right; simp)
theorem slNew1 (w : World) (u : Value) (t : TypeId) {g : Nat} (hg : w.heap.size = g) : Sl (w.alloc (.cells #[u] t)) g (g + 1) 1 (.slice (some ⟨g, 0, none⟩) 1 1) 1 (fun _ => u) := by
  subst hg
  refine ⟨_, 1, rfl, Nat.le_refl _, by unfold maxLen; omega, fun _ => ⟨w.heap.size, 0, rfl, Nat.le_refl _, by omega, fun j hj => ?_⟩⟩
  obtain rfl : j = 0 := by omega
  exact ⟨by rw [World.cell?_alloc_at _ _ _ _ rfl]; rfl, World.frozen?_alloc_at _ _ _ _ rfl⟩
theorem ownRep {W : World} {base lo l1 h1 l2 h2 j m : Nat} {e : TypeId} {r Vo Vi : Value} {o i : List Int} (h : Own W base e r ((List.range j).map (fun _ => Vo) ++ (List.range m).map (fun _ => Vi))) (ho : IntS W l1 h1 Vo o) (hi : IntS W l2 h2 Vi i) (a1 : lo ≤ base) (a2 : lo ≤ l1) (a3 : lo ≤ l2) (a4 : h1 ≤ W.heap.size) (a5 : h2 ≤ W.heap.size) : IntSS W lo W.heap.size r (repL j m o i) := by
  have hl : ((List.range j).map (fun _ => Vo) ++ (List.range m).map (fun _ => Vi)).length = (repL j m o i).length := by rw [repL_length]; simp
  have hs : Sl W lo W.heap.size 1 r (repL j m o i).length (fun k => if k < j then Vo else Vi) := by
    have h2 := Sl.of_own (f := fun k => if k < j then Vo else Vi) h (fun k hk => by
      simp only [List.length_append, List.length_map, List.length_range] at hk
      by_cases e : k < j
      · rw [List.getElem?_append_left (by simpa using e), if_pos e]; simp [e]
      · rw [List.getElem?_append_right (by simpa using e), if_neg e, List.getElem?_map, List.getElem?_range (by simp; omega)]; rfl)
    rw [hl] at h2
    exact h2.mono a1 (Nat.le_refl _)
  refine ⟨_, hs, fun k hk => ?_⟩
  rw [repL_length] at hk
  rw [repL_at hk]
  by_cases e : k < j
  · simp only [if_pos e]; exact ho.mono a2 a4
  · simp only [if_neg e]; exact hi.mono a3 a5
theorem all_snoc {p : Nat → Bool} {j : Nat} {g z : Bool} (h1 : g = (List.range j).all p) (h2 : p j = z) (hg : g = true) : z = (List.range (j + 1)).all p := by
  rw [List.range_succ, List.all_append, ← h1, hg]; simp [h2]
theorem all_cut {p : Nat → Bool} {j k : Nat} (h : (List.range j).all p = false) (hjk : j ≤ k) : (List.range k).all p = false := by
  cases hh : (List.range k).all p with
  | false => rfl
  | true =>
    rw [List.all_eq_true] at hh
    have : (List.range j).all p = true := List.all_eq_true.2 fun x hx => hh x (List.mem_range.2 (by have := List.mem_range.1 hx; omega))
    rw [h] at this; cases this

theorem Turned.all_trans {A W0 W : World} (h : Turned A.heap.size A.heap.size A W0) (k : Turned W0.heap.size W0.heap.size W0 W) : Turned A.heap.size A.heap.size A W :=
  ⟨k.os.trans h.os, k.tape.trans h.tape, k.output.trans h.output, Nat.le_trans h.size k.size, fun b hb _ => (k.block b (by have := h.size; omega) (by have := h.size; omega)).trans (h.block b hb (by omega))⟩
theorem succ1 {p : Nat → Prop} {S : Nat} (h : ∀ T, 1 ≤ T → T < S → p T) (hS : p S) : ∀ T, 1 ≤ T → T < S + 1 → p T := fun T h1 h2 => by
  by_cases e : T = S
  · rw [e]; exact hS
  · exact h T h1 (by omega)

set_option maxHeartbeats 8000000 in
set_option maxRecDepth 100000 in
theorem ZeroOriented_any (v1 : Value) (P : PrD) (lo1 hi1 : Nat) (w : World) (h1 : Pro w lo1 hi1 v1 P) (hh1 : hi1 ≤ w.heap.size)  :
    Calls Tryz.prog 28 #[v1] w fun e w' => (∀ S, zoS P = some S → ∃ ro ri, e = .returned (.tuple #[ro, ri, .bool true]) ∧ IntS w' w.heap.size w'.heap.size ro (zoOut P.L.toNat S) ∧ IntS w' w.heap.size w'.heap.size ri (zoIn P P.L.toNat S)) ∧ (zoS P = none → e = .returned (.tuple #[.slice none 0 0, .slice none 0 0, .bool false])) ∧ Below w.heap.size w w' := by
  have F1 := Lib.hid h1
  obtain ⟨A1, c1, A1', c1', rfl, hc1, hd1⟩ := h1.parts
  clear h1
  obtain ⟨WA, HWA⟩ : ∃ W, Hid (W = (w.alloc (.cells #[.int .i64 P.L, .int .i64 P.D, .slice A1 P.nodes.length c1, .slice A1' P.edges.length c1'] 34))) := ⟨_, Lib.hid rfl⟩
  have hbA : Below w.heap.size w WA := by rw [HWA.out]; exact ((Below.refl _ _).alloc (Nat.le_refl _) _)
  have hsA : w.heap.size + 1 ≤ WA.heap.size := by rw [HWA.out]; simp; try omega
  have bx1 : BoxN WA (w.heap.size) #[.int .i64 P.L, .int .i64 P.D, .slice A1 P.nodes.length c1, .slice A1' P.edges.length c1'] 34 := by rw [HWA.out]; exact (BoxN.new' _ _ _ (by simp))
  have G1 := Lib.hid (Pro.below F1.out hbA hh1); clear F1
  go_enter Tryz.func28, Tryz.ntmps28
  go_upto_region 1 with (fail)
  rw [← HWA.out]; clear HWA
  have kbx1_0 : WA.cell? ⟨w.heap.size, 0, none⟩ = some (.int .i64 P.L) := bx1.cell 0 (by simp)
  have kbx1_1 : WA.cell? ⟨w.heap.size, 1, none⟩ = some (.int .i64 P.D) := bx1.cell 1 (by simp)
  have kbx1_2 : WA.cell? ⟨w.heap.size, 2, none⟩ = some (.slice A1 P.nodes.length c1) := bx1.cell 2 (by simp)
  have kbx1_3 : WA.cell? ⟨w.heap.size, 3, none⟩ = some (.slice A1' P.edges.length c1') := bx1.cell 3 (by simp)
  go_wp2_with fail
  clear kbx1_0 kbx1_1 kbx1_2 kbx1_3
  refine (IsProblem_any _ P _ _ _ G1.out (by omega)).mono ?_
  rintro e W1 ⟨rfl, hb1⟩
  have hg1 := grown_below hb1; clear hb1
  have hs1 := hg1.size
  have HF1 := Lib.hid ((Turned.refl WA.heap.size WA.heap.size WA).still hg1)
  by_cases hg : P.good = true
  case neg =>
    have hg' : P.good = false := by simpa using hg
    rw [hg']
    have HZ := Lib.hid (zoS_bad hg')
    clear hg hg'
    go_wp2_with fail
    ((try simp only [Exit.inBlock, Exit.then]); refine bodyPost_ret (results_tmp3 rfl _ _ _) rfl ?_)
    exact ⟨fun S hS => (by rw [HZ.out] at hS; cases hS), fun _ => rfl, (HF1.out.below_of hbA (by omega) (by omega))⟩
  rw [hg]
  have HG := Lib.hid hg; clear hg
  obtain ⟨n, D, hL, hD, n1, n8, d1, d4⟩ := prd_LD HG.out
  have HL8 := Lib.hid hL; have HD8 := Lib.hid hD; clear hL hD
  rw [HL8.out, HD8.out] at bx1 G1
  have HNT := Lib.hid (show P.L.toNat = n by rw [HL8.out]; rfl)
  go_wp2_with fail
  obtain ⟨N, HN2⟩ : ∃ N, Hid (2 ^ n = N) := ⟨_, Lib.hid rfl⟩
  have hN256 : N ≤ 256 := by rw [← HN2.out]; exact Nat.pow_le_pow_right (by decide) n8
  have hN2 : 2 ≤ N := by rw [← HN2.out]; exact Nat.pow_le_pow_right (n := 2) (by decide) n1
  have HPW := Lib.hid (show Go.RowKit.wrap64 (2 ^ n) = (N : Int) by rw [pow64 (show n < 12 by omega), HN2.out])
  go_loopw [5] (fun sv wr => ∃ (S : Nat), 1 ≤ S ∧ S ≤ N ∧ sv = .int .i64 S ∧ Hid (∀ T, 1 ≤ T → T < S → goodSet P n D T = false) ∧ Hid (Turned WA.heap.size WA.heap.size WA wr)) (fun sv _ => N - (intOf sv).toNat)
  case atStart => exact ⟨1, Nat.le_refl _, by omega, rfl, Lib.hid (fun T h1 h2 => absurd h1 (by omega)), HF1⟩
  case round =>
    clear HF1
    obtain ⟨S, hS1, hSN, rfl, HNO, HF2⟩ := hrel
    have hs2 := HF2.out.size
    obtain ⟨wq, rfl⟩ : ∃ wq : World, wq = wr := ⟨_, rfl⟩
    have kbx1_0 : wq.cell? ⟨w.heap.size, 0, none⟩ = some (.int .i64 (n : Nat)) := (HF2.out.boxN bx1 (by omega)).cell 0 (by simp)
    have kbx1_1 : wq.cell? ⟨w.heap.size, 1, none⟩ = some (.int .i64 (D : Nat)) := (HF2.out.boxN bx1 (by omega)).cell 1 (by simp)
    have kbx1_2 : wq.cell? ⟨w.heap.size, 2, none⟩ = some (.slice A1 P.nodes.length c1) := (HF2.out.boxN bx1 (by omega)).cell 2 (by simp)
    have kbx1_3 : wq.cell? ⟨w.heap.size, 3, none⟩ = some (.slice A1' P.edges.length c1') := (HF2.out.boxN bx1 (by omega)).cell 3 (by simp)
    by_cases hlt : S < N
    case neg =>
      have hsi : ¬ (S : Int) < N := by omega
      have HZ := Lib.hid (zoS_none HL8.out HD8.out fun T h1 h2 => HNO.out T h1 (by rw [HN2.out] at h2; omega))
      have hpw := HPW.out
      go_wp2_with fail
      ((try simp only [Exit.inBlock, Exit.then]); refine bodyPost_ret (results_tmp3 rfl _ _ _) rfl ?_)
      clear hpw
      exact ⟨fun S hS => (by rw [HZ.out] at hS; cases hS), fun _ => rfl, (HF2.out.below_of hbA (by omega) (by omega))⟩
    have hsi : (S : Int) < N := by omega
    have HST := Lib.hid (show S = setOf n fun a => S.testBit a from testSet (by rw [HN2.out]; exact hlt))
    have hpw := HPW.out
    go_upto_region 6 with (fail)
    clear hpw kbx1_0 kbx1_1 kbx1_2 kbx1_3
    refine wp_region_U (fun w' => w'.cell? ⟨w.heap.size, 0, none⟩ = some (.int .i64 (n : Nat)) ∧ w'.cell? ⟨w.heap.size, 1, none⟩ = some (.int .i64 (D : Nat)) ∧ w'.cell? ⟨w.heap.size, 2, none⟩ = some (.slice A1 P.nodes.length c1) ∧ w'.cell? ⟨w.heap.size, 3, none⟩ = some (.slice A1' P.edges.length c1')) [] (by kernel_rfl) ?_
    refine nameU ?_
    intro W3 HW3
    have hg3 : wq.grownBy W3 none := by rw [HW3.out]; exact grown_drew _
    clear HW3
    have hs3 := hg3.size
    have HF3 := Lib.hid (HF2.out.still hg3); clear HF2
    have hS4 : W3.cell? ⟨w.heap.size, 0, none⟩ = some (.int .i64 (n : Nat)) ∧ W3.cell? ⟨w.heap.size, 1, none⟩ = some (.int .i64 (D : Nat)) ∧ W3.cell? ⟨w.heap.size, 2, none⟩ = some (.slice A1 P.nodes.length c1) ∧ W3.cell? ⟨w.heap.size, 3, none⟩ = some (.slice A1' P.edges.length c1') := ⟨(HF3.out.boxN bx1 (by omega)).cell 0 (by simp), (HF3.out.boxN bx1 (by omega)).cell 1 (by simp), (HF3.out.boxN bx1 (by omega)).cell 2 (by simp), (HF3.out.boxN bx1 (by omega)).cell 3 (by simp)⟩
    refine anyU_take (i := 0) (v := .int .i64 (S : Nat)) rfl (by kernel_rfl) (by kernel_rfl) (by kernel_rfl) (fun _ _ _ h => h) ⟨by rfl, fun w' hS' => (by obtain ⟨s1, s2, s3, s4⟩ := hS'; go_simp)⟩ hS4 ?_
    simp only [List.getElem_toArray, List.getElem_cons_zero, Act.put, List.setIfInBounds_toArray, List.set_cons_zero, List.set_cons_succ]
    refine anyU_take (i := 2) (v := .agg #[.int .i64 (n : Nat), .int .i64 (D : Nat), .slice A1 P.nodes.length c1, .slice A1' P.edges.length c1']) rfl (by kernel_rfl) (by kernel_rfl) (by kernel_rfl) (fun _ _ _ h => h) ⟨by rfl, fun w' hS' => (by obtain ⟨s1, s2, s3, s4⟩ := hS'; go_simp)⟩ hS4 ?_
    simp only [List.getElem_toArray, List.getElem_cons_succ, List.getElem_cons_zero, Act.put, List.setIfInBounds_toArray, List.set_cons_zero, List.set_cons_succ]
    refine anyU_take (i := 3) (v := .int .i64 (S : Nat)) rfl (by kernel_rfl) (by kernel_rfl) (by kernel_rfl) (fun _ _ _ h => h) ⟨by rfl, fun w' hS' => (by obtain ⟨s1, s2, s3, s4⟩ := hS'; go_simp)⟩ hS4 ?_
    simp only [List.getElem_toArray, List.getElem_cons_succ, List.getElem_cons_zero, Act.put, List.setIfInBounds_toArray, List.set_cons_zero, List.set_cons_succ]
    refine anyU_ready (rs := [1]) (by kernel_rfl) (by simp) ?_
    refine ReadyU.cons (i := 1) rfl (fun K hK => ?_) ReadyU.nil
    simp only [List.getElem_toArray, List.getElem_cons_succ, List.getElem_cons_zero]
    refine ite_is (by rfl) ?_
    simp [go_sem]
    refine (labelsIn_any S _ n (fun a => S.testBit a) HST.out (by omega)).mono ?_
    rintro e W5 ⟨ro, rfl, hr, hb5⟩
    have hg5 := grown_below hb5; clear hb5
    have hs5 := hg5.size
    have HF5 := Lib.hid (HF3.out.still hg5); clear HF3
    replace hr : IntS _ _ _ ro (zoOut n S) := hr
    obtain ⟨Ao, co, rfl, hco, hdo⟩ := hr.dims
    have RO5 := Lib.hid hr; clear hr
    have hS6 : W5.cell? ⟨w.heap.size, 0, none⟩ = some (.int .i64 (n : Nat)) ∧ W5.cell? ⟨w.heap.size, 1, none⟩ = some (.int .i64 (D : Nat)) ∧ W5.cell? ⟨w.heap.size, 2, none⟩ = some (.slice A1 P.nodes.length c1) ∧ W5.cell? ⟨w.heap.size, 3, none⟩ = some (.slice A1' P.edges.length c1') := ⟨(HF5.out.boxN bx1 (by omega)).cell 0 (by simp), (HF5.out.boxN bx1 (by omega)).cell 1 (by simp), (HF5.out.boxN bx1 (by omega)).cell 2 (by simp), (HF5.out.boxN bx1 (by omega)).cell 3 (by simp)⟩
    refine hK.out _ _ ⟨fun _ => hS6, ?_⟩
    clear hK K hS4
    try simp only [List.getElem_toArray, List.getElem_cons_succ, List.getElem_cons_zero, Act.put, List.setIfInBounds_toArray, List.set_cons_zero, List.set_cons_succ]
    refine anyU_ready (rs := [4]) (by kernel_rfl) (by simp) ?_
    refine ReadyU.cons (i := 4) rfl (fun K hK => ?_) ReadyU.nil
    simp only [List.getElem_toArray, List.getElem_cons_succ, List.getElem_cons_zero]
    refine ite_is (by rfl) ?_
    simp [go_sem]
    refine (beside_any _ P _ _ S _ (Pro.turned G1.out HF5.out (by omega) (by omega)) (by omega) n (fun a => S.testBit a) HG.out HL8.out n8 HST.out).mono ?_
    rintro e W7 ⟨rfl, hb7⟩
    have hg7 := grown_below hb7; clear hb7
    have hs7 := hg7.size
    have HF7 := Lib.hid (HF5.out.still hg7); clear HF5
    have RO7 := Lib.hid (IntS.still RO5.out hg7 (by omega)); clear RO5
    obtain ⟨MS, HMS⟩ : ∃ z, Hid (setOf n (fun b : Nat => pairsB P (ascI n fun a => S.testBit a) [(b : Int)]) = z) := ⟨_, Lib.hid rfl⟩
    rw [HMS.out]
    have hS8 : W7.cell? ⟨w.heap.size, 0, none⟩ = some (.int .i64 (n : Nat)) ∧ W7.cell? ⟨w.heap.size, 1, none⟩ = some (.int .i64 (D : Nat)) ∧ W7.cell? ⟨w.heap.size, 2, none⟩ = some (.slice A1 P.nodes.length c1) ∧ W7.cell? ⟨w.heap.size, 3, none⟩ = some (.slice A1' P.edges.length c1') := ⟨(HF7.out.boxN bx1 (by omega)).cell 0 (by simp), (HF7.out.boxN bx1 (by omega)).cell 1 (by simp), (HF7.out.boxN bx1 (by omega)).cell 2 (by simp), (HF7.out.boxN bx1 (by omega)).cell 3 (by simp)⟩
    refine hK.out _ _ ⟨fun _ => hS8, ?_⟩
    clear hK K hS6
    try simp only [List.getElem_toArray, List.getElem_cons_succ, List.getElem_cons_zero, Act.put, List.setIfInBounds_toArray, List.set_cons_zero, List.set_cons_succ]
    refine anyU_ready (rs := [5]) (by kernel_rfl) (by simp) ?_
    refine ReadyU.cons (i := 5) rfl (fun K hK => ?_) ReadyU.nil
    simp only [List.getElem_toArray, List.getElem_cons_succ, List.getElem_cons_zero]
    refine ite_is (by rfl) ?_
    simp [go_sem]
    refine (labelsIn_any MS _ n _ HMS.out.symm (by omega)).mono ?_
    rintro e W9 ⟨ri, rfl, hr, hb9⟩
    have hg9 := grown_below hb9; clear hb9
    have hs9 := hg9.size
    have HF9 := Lib.hid (HF7.out.still hg9); clear HF7
    have RO9 := Lib.hid (IntS.still RO7.out hg9 (by omega)); clear RO7
    replace hr : IntS _ _ _ ri (zoIn P n S) := hr
    obtain ⟨Ai, ci, rfl, hci, hdi⟩ := hr.dims
    have RI9 := Lib.hid hr; clear hr
    have hS10 : W9.cell? ⟨w.heap.size, 0, none⟩ = some (.int .i64 (n : Nat)) ∧ W9.cell? ⟨w.heap.size, 1, none⟩ = some (.int .i64 (D : Nat)) ∧ W9.cell? ⟨w.heap.size, 2, none⟩ = some (.slice A1 P.nodes.length c1) ∧ W9.cell? ⟨w.heap.size, 3, none⟩ = some (.slice A1' P.edges.length c1') := ⟨(HF9.out.boxN bx1 (by omega)).cell 0 (by simp), (HF9.out.boxN bx1 (by omega)).cell 1 (by simp), (HF9.out.boxN bx1 (by omega)).cell 2 (by simp), (HF9.out.boxN bx1 (by omega)).cell 3 (by simp)⟩
    refine hK.out _ _ ⟨fun _ => hS10, ?_⟩
    clear hK K hS8
    try simp only [List.getElem_toArray, List.getElem_cons_succ, List.getElem_cons_zero, Act.put, List.setIfInBounds_toArray, List.set_cons_zero, List.set_cons_succ]
    refine anyU_take (i := 6) (v := .slice Ao (zoOut n S).length co) rfl (by kernel_rfl) (by kernel_rfl) (by kernel_rfl) (fun _ _ _ h => h) ⟨by rfl, fun w' hS' => (by obtain ⟨s1, s2, s3, s4⟩ := hS'; go_simp)⟩ hS10 ?_
    simp only [List.getElem_toArray, List.getElem_cons_succ, List.getElem_cons_zero, Act.put, List.setIfInBounds_toArray, List.set_cons_zero, List.set_cons_succ]
    refine anyU_take (i := 7) (v := .slice Ai (zoIn P n S).length ci) rfl (by kernel_rfl) (by kernel_rfl) (by kernel_rfl) (fun _ _ _ h => h) ⟨by rfl, fun w' hS' => (by obtain ⟨s1, s2, s3, s4⟩ := hS'; go_simp)⟩ hS10 ?_
    simp only [List.getElem_toArray, List.getElem_cons_succ, List.getElem_cons_zero, Act.put, List.setIfInBounds_toArray, List.set_cons_zero, List.set_cons_succ]
    clear hS10
    refine anyU_done (by kernel_rfl) ?_ _
    go_wp2_with fail
    have HOUT := Lib.hid HF9.out
    have P_10 := Lib.hid (Pro.turned G1.out HF9.out (by omega) (by omega)); clear G1
    have bx1_10 := HF9.out.boxN bx1 (by omega); clear bx1
    have hbA10 : Below w.heap.size w W9 := (HF9.out.below_of hbA (by omega) (by omega)); clear hbA HF9
    go_loopw [8, 9] (fun gv jv wr => ∃ (j : Nat) (gd : Bool), j ≤ D + 1 ∧ gv = .bool gd ∧ jv = .int .i64 j ∧ Hid (gd = (List.range j).all fun j => fitsB P (zoOut n S) (zoIn P n S) D j) ∧ Hid (Turned W9.heap.size W9.heap.size W9 wr)) (fun gv jv _ => D + 1 - (intOf jv).toNat)
    case atStart => exact ⟨0, true, Nat.zero_le _, rfl, rfl, Lib.hid rfl, Lib.hid (Turned.refl W9.heap.size W9.heap.size W9)⟩
    case round =>
      obtain ⟨j, gd, hj, rfl, rfl, HGD, HF11⟩ := hrel
      have hs11 := HF11.out.size
      obtain ⟨wi, rfl⟩ : ∃ wi : World, wi = wr := ⟨_, rfl⟩
      have kbx1_0 : wi.cell? ⟨w.heap.size, 0, none⟩ = some (.int .i64 (n : Nat)) := (HF11.out.boxN bx1_10 (by omega)).cell 0 (by simp)
      have kbx1_1 : wi.cell? ⟨w.heap.size, 1, none⟩ = some (.int .i64 (D : Nat)) := (HF11.out.boxN bx1_10 (by omega)).cell 1 (by simp)
      have kbx1_2 : wi.cell? ⟨w.heap.size, 2, none⟩ = some (.slice A1 P.nodes.length c1) := (HF11.out.boxN bx1_10 (by omega)).cell 2 (by simp)
      have kbx1_3 : wi.cell? ⟨w.heap.size, 3, none⟩ = some (.slice A1' P.edges.length c1') := (HF11.out.boxN bx1_10 (by omega)).cell 3 (by simp)
      cases gd with
      | false =>
        have HBAD := Lib.hid (succ1 (p := fun T => goodSet P n D T = false) HNO.out (all_cut HGD.out.symm hj))
        have hb1 := (HF11.out.below_of hbA10 (by omega) (by omega))
        by_cases hjD : (j : Int) ≤ D
        · go_wp2_with fail
          go_roundw
          case rel => exact ⟨S + 1, by omega, by omega, by go_num, HBAD, Lib.hid (Turned.all_trans HOUT.out HF11.out)⟩
          case measure => simp [intOf]; omega
        · go_wp2_with fail
          go_roundw
          case rel => exact ⟨S + 1, by omega, by omega, by go_num, HBAD, Lib.hid (Turned.all_trans HOUT.out HF11.out)⟩
          case measure => simp [intOf]; omega
      | true =>
        by_cases hjD : j ≤ D
        case neg =>
          obtain rfl : j = D + 1 := by omega
          have hji : ¬ ((D + 1 : Nat) : Int) ≤ D := by omega
          have HZ := Lib.hid (zoS_some HG.out HL8.out HD8.out hS1 (by rw [HN2.out]; exact hlt) HGD.out.symm HNO.out)
          go_wp2_with fail
          ((try simp only [Exit.inBlock, Exit.then]); refine bodyPost_ret (results_tmp3 rfl _ _ _) rfl ?_)
          refine ⟨fun S' hS' => ?_, fun h => (by rw [HZ.out] at h; cases h), (HF11.out.below_of hbA10 (by omega) (by omega))⟩
          rw [HZ.out] at hS'
          injection hS' with e
          subst e
          rw [HNT.out]
          exact ⟨_, _, rfl, (IntS.turned RO9.out HF11.out (by omega) (by omega)).mono (by omega) (by omega), (IntS.turned RI9.out HF11.out (by omega) (by omega)).mono (by omega) (by omega)⟩
        have hji : (j : Int) ≤ D := by omega
        obtain ⟨m, HM⟩ : ∃ m, Hid (D - j = m) := ⟨_, Lib.hid rfl⟩
        have hmD : (D : Int) - (j : Int) = (m : Int) := by have := HM.out; omega
        have hwm : IntKind.i64.wrap ((D : Int) - (j : Int)) = (m : Int) := by rw [hmD]; exact IntWalk.i64_in _ (by have := HM.out; omega)
        have hm4 : m ≤ 4 := by have := HM.out; omega
        clear hmD
        go_upto_region 11 with (fail)
        clear kbx1_0 kbx1_1 kbx1_2 kbx1_3
        refine wp_region_U (fun w' => w'.cell? ⟨w.heap.size, 1, none⟩ = some (.int .i64 (D : Nat))) [] (by kernel_rfl) ?_
        refine nameU ?_
        intro W12 HW12
        have hg12 : wi.grownBy W12 none := by rw [HW12.out]; exact grown_drew _
        clear HW12
        have hs12 := hg12.size
        have HF12 := Lib.hid (HF11.out.still hg12); clear HF11
        have hS13 : W12.cell? ⟨w.heap.size, 1, none⟩ = some (.int .i64 (D : Nat)) := (HF12.out.boxN bx1_10 (by omega)).cell 1 (by simp)
        refine anyU_take (i := 0) (v := .slice Ao (zoOut n S).length co) rfl (by kernel_rfl) (by kernel_rfl) (by kernel_rfl) (fun _ _ _ h => h) ⟨by rfl, fun w' hS' => (by have s1 := hS'; go_simp)⟩ hS13 ?_
        simp only [List.getElem_toArray, List.getElem_cons_zero, Act.put, List.setIfInBounds_toArray, List.set_cons_zero, List.set_cons_succ]
        refine anyU_take (i := 2) (v := .int .i64 (j : Nat)) rfl (by kernel_rfl) (by kernel_rfl) (by kernel_rfl) (fun _ _ _ h => h) ⟨by rfl, fun w' hS' => (by have s1 := hS'; go_simp)⟩ hS13 ?_
        simp only [List.getElem_toArray, List.getElem_cons_succ, List.getElem_cons_zero, Act.put, List.setIfInBounds_toArray, List.set_cons_zero, List.set_cons_succ]
        refine anyU_take (i := 4) (v := .slice Ai (zoIn P n S).length ci) rfl (by kernel_rfl) (by kernel_rfl) (by kernel_rfl) (fun _ _ _ h => h) ⟨by rfl, fun w' hS' => (by have s1 := hS'; go_simp)⟩ hS13 ?_
        simp only [List.getElem_toArray, List.getElem_cons_succ, List.getElem_cons_zero, Act.put, List.setIfInBounds_toArray, List.set_cons_zero, List.set_cons_succ]
        refine anyU_take (i := 6) (v := .pointer (some ⟨w.heap.size, 1, none⟩)) rfl (by kernel_rfl) (by kernel_rfl) (by kernel_rfl) (fun _ _ _ h => h) ⟨by rfl, fun w' hS' => (by have s1 := hS'; go_simp)⟩ hS13 ?_
        simp only [List.getElem_toArray, List.getElem_cons_succ, List.getElem_cons_zero, Act.put, List.setIfInBounds_toArray, List.set_cons_zero, List.set_cons_succ]
        refine anyU_take (i := 7) (v := .int .i64 (D : Nat)) rfl (by kernel_rfl) (by kernel_rfl) (by kernel_rfl) (fun _ _ _ h => h) ⟨by rfl, fun w' hS' => (by have s1 := hS'; go_simp)⟩ hS13 ?_
        simp only [List.getElem_toArray, List.getElem_cons_succ, List.getElem_cons_zero, Act.put, List.setIfInBounds_toArray, List.set_cons_zero, List.set_cons_succ]
        refine anyU_take (i := 8) (v := .int .i64 (j : Nat)) rfl (by kernel_rfl) (by kernel_rfl) (by kernel_rfl) (fun _ _ _ h => h) ⟨by rfl, fun w' hS' => (by have s1 := hS'; go_simp)⟩ hS13 ?_
        simp only [List.getElem_toArray, List.getElem_cons_succ, List.getElem_cons_zero, Act.put, List.setIfInBounds_toArray, List.set_cons_zero, List.set_cons_succ]
        refine anyU_take (i := 9) (v := .int .i64 (m : Nat)) rfl (by kernel_rfl) (by kernel_rfl) (by kernel_rfl) (fun _ _ _ h => h) ⟨by rfl, fun w' hS' => (by have s1 := hS'; go_simp)⟩ hS13 ?_
        simp only [List.getElem_toArray, List.getElem_cons_succ, List.getElem_cons_zero, Act.put, List.setIfInBounds_toArray, List.set_cons_zero, List.set_cons_succ]
        refine anyU_ready (rs := [1, 5]) (by kernel_rfl) (by simp) ?_
        refine ReadyU.cons (i := 1) rfl (fun K hK => ?_) (ReadyU.cons (i := 5) rfl (fun K hK => ?_) ReadyU.nil)
        · skip
          simp only [List.getElem_toArray, List.getElem_cons_succ, List.getElem_cons_zero]
          refine ite_is (by rfl) ?_
          simp [go_sem]
          refine hK.out _ _ ⟨fun _ => ((HF12.out.boxN bx1_10 (by omega)).still (grown_alloc _ _)).cell 1 (by simp), ?_⟩
          clear hK K hS13
          try simp only [List.getElem_toArray, List.getElem_cons_succ, List.getElem_cons_zero, Act.put, List.setIfInBounds_toArray, List.set_cons_zero, List.set_cons_succ]
          refine nameU ?_
          intro W14 HW14
          have hg14 : W12.grownBy W14 none := by rw [HW14.out]; exact grown_alloc _ _
          have hs14 := hg14.size
          have HF14 := Lib.hid (HF12.out.still hg14); clear HF12
          have S1 := Lib.hid (show Sl W14 W12.heap.size (W12.heap.size + 1) 1 (.slice (some ⟨W12.heap.size, 0, none⟩) 1 1) 1 (fun _ => .slice Ao (zoOut n S).length co) by rw [HW14.out]; exact slNew1 _ _ _ rfl)
          have hzS1 : W12.heap.size + 1 ≤ W14.heap.size := by rw [HW14.out]; simp
          clear HW14
          have hS15 : W14.cell? ⟨w.heap.size, 1, none⟩ = some (.int .i64 (D : Nat)) := (HF14.out.boxN bx1_10 (by omega)).cell 1 (by simp)
          refine anyU_ready (rs := [3, 5]) (by kernel_rfl) (by simp) ?_
          refine ReadyU.cons (i := 3) rfl (fun K hK => ?_) (ReadyU.cons (i := 5) rfl (fun K hK => ?_) ReadyU.nil)
          · skip
            simp only [List.getElem_toArray, List.getElem_cons_succ, List.getElem_cons_zero]
            refine ite_is (by rfl) ?_
            simp [go_sem]
            refine (repeatV_any _ Ao (zoOut n S).length co j _ _ _ S1.out (by omega) (by omega)).mono ?_
            rintro e W16 ⟨b1, o1, k1, rfl, hv, hb16⟩
            have hg16 := grown_below hb16; clear hb16
            have hs16 := hg16.size
            have HF16 := Lib.hid (HF14.out.still hg16); clear HF14
            have S116 := Lib.hid (Sl.still S1.out hg16 (by omega)); clear S1
            have V116 := Lib.hid hv; clear hv
            have hS17 : W16.cell? ⟨w.heap.size, 1, none⟩ = some (.int .i64 (D : Nat)) := (HF16.out.boxN bx1_10 (by omega)).cell 1 (by simp)
            refine hK.out _ _ ⟨fun _ => hS17, ?_⟩
            clear hK K hS15
            try simp only [List.getElem_toArray, List.getElem_cons_succ, List.getElem_cons_zero, Act.put, List.setIfInBounds_toArray, List.set_cons_zero, List.set_cons_succ]
            refine anyU_ready (rs := [5]) (by kernel_rfl) (by simp) ?_
            refine ReadyU.cons (i := 5) rfl (fun K hK => ?_) ReadyU.nil
            simp only [List.getElem_toArray, List.getElem_cons_succ, List.getElem_cons_zero]
            refine ite_is (by rfl) ?_
            simp [go_sem]
            refine hK.out _ _ ⟨fun _ => ((HF16.out.boxN bx1_10 (by omega)).still (grown_alloc _ _)).cell 1 (by simp), ?_⟩
            clear hK K hS17
            try simp only [List.getElem_toArray, List.getElem_cons_succ, List.getElem_cons_zero, Act.put, List.setIfInBounds_toArray, List.set_cons_zero, List.set_cons_succ]
            refine nameU ?_
            intro W18 HW18
            have hg18 : W16.grownBy W18 none := by rw [HW18.out]; exact grown_alloc _ _
            have hs18 := hg18.size
            have HF18 := Lib.hid (HF16.out.still hg18); clear HF16
            have S118 := Lib.hid (Sl.still S116.out hg18 (by omega)); clear S116
            have V118 := Lib.hid (Sl.still V116.out hg18 (by omega)); clear V116
            have S2 := Lib.hid (show Sl W18 W16.heap.size (W16.heap.size + 1) 1 (.slice (some ⟨W16.heap.size, 0, none⟩) 1 1) 1 (fun _ => .slice Ai (zoIn P n S).length ci) by rw [HW18.out]; exact slNew1 _ _ _ rfl)
            have hzS2 : W16.heap.size + 1 ≤ W18.heap.size := by rw [HW18.out]; simp
            clear HW18
            have hS19 : W18.cell? ⟨w.heap.size, 1, none⟩ = some (.int .i64 (D : Nat)) := (HF18.out.boxN bx1_10 (by omega)).cell 1 (by simp)
            refine anyU_ready (rs := [10]) (by kernel_rfl) (by simp) ?_
            refine ReadyU.cons (i := 10) rfl (fun K hK => ?_) ReadyU.nil
            simp only [List.getElem_toArray, List.getElem_cons_succ, List.getElem_cons_zero]
            refine ite_is (by rfl) ?_
            simp [go_sem]
            refine (repeatV_any _ Ai (zoIn P n S).length ci m _ _ _ S2.out (by omega) (by omega)).mono ?_
            rintro e W20 ⟨b2, o2, k2, rfl, hv, hb20⟩
            have hg20 := grown_below hb20; clear hb20
            have hs20 := hg20.size
            have HF20 := Lib.hid (HF18.out.still hg20); clear HF18
            have S120 := Lib.hid (Sl.still S118.out hg20 (by omega)); clear S118
            have V120 := Lib.hid (Sl.still V118.out hg20 (by omega)); clear V118
            have S220 := Lib.hid (Sl.still S2.out hg20 (by omega)); clear S2
            have V220 := Lib.hid hv; clear hv
            have hS21 : W20.cell? ⟨w.heap.size, 1, none⟩ = some (.int .i64 (D : Nat)) := (HF20.out.boxN bx1_10 (by omega)).cell 1 (by simp)
            refine hK.out _ _ ⟨fun _ => hS21, ?_⟩
            clear hK K hS19
            try simp only [List.getElem_toArray, List.getElem_cons_succ, List.getElem_cons_zero, Act.put, List.setIfInBounds_toArray, List.set_cons_zero, List.set_cons_succ]
            refine anyU_ready (rs := [11]) (by kernel_rfl) (by simp) ?_
            refine ReadyU.cons (i := 11) rfl (fun K hK => ?_) ReadyU.nil
            simp only [List.getElem_toArray, List.getElem_cons_succ, List.getElem_cons_zero]
            refine ite_is (by rfl) ?_
            simp [go_sem]
            refine hK.out _ _ ⟨fun _ => ((HF20.out.boxN bx1_10 (by omega)).still (grown_alloc _ _)).cell 1 (by simp), ?_⟩
            clear hK K hS21
            try simp only [List.getElem_toArray, List.getElem_cons_succ, List.getElem_cons_zero, Act.put, List.setIfInBounds_toArray, List.set_cons_zero, List.set_cons_succ]
            refine nameU ?_
            intro W22 HW22
            have hg22 : W20.grownBy W22 none := by rw [HW22.out]; exact grown_alloc _ _
            have hs22 := hg22.size
            have HF22 := Lib.hid (HF20.out.still hg22); clear HF20
            have S122 := Lib.hid (Sl.still S120.out hg22 (by omega)); clear S120
            have V122 := Lib.hid (Sl.still V120.out hg22 (by omega)); clear V120
            have S222 := Lib.hid (Sl.still S220.out hg22 (by omega)); clear S220
            have V222 := Lib.hid (Sl.still V220.out hg22 (by omega)); clear V220
            have BB := Lib.hid (show BoxN W22 W20.heap.size #[.slice (some ⟨b1, o1, none⟩) j k1, .slice (some ⟨b2, o2, none⟩) m k2] 22 by rw [HW22.out]; exact BoxN.new _ _ _)
            clear HW22
            have hS23 : W22.cell? ⟨w.heap.size, 1, none⟩ = some (.int .i64 (D : Nat)) := (HF22.out.boxN bx1_10 (by omega)).cell 1 (by simp)
            refine anyU_ready (rs := [12]) (by kernel_rfl) (by simp) ?_
            refine ReadyU.cons (i := 12) rfl (fun K hK => ?_) ReadyU.nil
            simp only [List.getElem_toArray, List.getElem_cons_succ, List.getElem_cons_zero]
            refine ite_is (by rfl) ?_
            simp [go_sem]
            refine (concatV_any _ b1 o1 j k1 b2 o2 m k2 _ _ _ _ _ _ _ (BB.out.cell 0 (by simp)) (BB.out.cell 1 (by simp)) BB.out.lt V122.out (by omega) V222.out (by omega) (by omega) (by omega) (fun u hu => by obtain ⟨_, _, rfl⟩ := List.mem_map.1 hu; rfl) (fun u hu => by obtain ⟨_, _, rfl⟩ := List.mem_map.1 hu; rfl)).mono ?_
            rintro e W24 ⟨rc, rfl, hv, hb24⟩
            have hg24 := grown_below hb24; clear hb24
            have hs24 := hg24.size
            have HF24 := Lib.hid (HF22.out.still hg24); clear HF22
            have S124 := Lib.hid (Sl.still S122.out hg24 (by omega)); clear S122
            have V124 := Lib.hid (Sl.still V122.out hg24 (by omega)); clear V122
            have S224 := Lib.hid (Sl.still S222.out hg24 (by omega)); clear S222
            have V224 := Lib.hid (Sl.still V222.out hg24 (by omega)); clear V222
            have BB24 := Lib.hid (BoxN.still BB.out hg24); clear BB
            have HRC := Lib.hid hv; clear hv
            have hS25 : W24.cell? ⟨w.heap.size, 1, none⟩ = some (.int .i64 (D : Nat)) := (HF24.out.boxN bx1_10 (by omega)).cell 1 (by simp)
            refine hK.out _ _ ⟨fun _ => hS25, ?_⟩
            clear hK K hS23
            try simp only [List.getElem_toArray, List.getElem_cons_succ, List.getElem_cons_zero, Act.put, List.setIfInBounds_toArray, List.set_cons_zero, List.set_cons_succ]
            refine anyU_take (i := 13) (v := rc) rfl (by kernel_rfl) (by kernel_rfl) (by kernel_rfl) (fun _ _ _ h => h) ⟨by rfl, fun w' hS' => (by have s1 := hS'; go_simp)⟩ hS25 ?_
            simp only [List.getElem_toArray, List.getElem_cons_succ, List.getElem_cons_zero, Act.put, List.setIfInBounds_toArray, List.set_cons_zero, List.set_cons_succ]
            clear hS25
            refine anyU_done (by kernel_rfl) ?_ _
            have HLS := Lib.hid (ownRep (lo := w.heap.size) HRC.out (IntS.turned RO9.out HF24.out (by omega) (by omega)) (IntS.turned RI9.out HF24.out (by omega) (by omega)) (by omega) (by omega) (by omega) (by omega) (by omega))
            have kbx1_0 : W24.cell? ⟨w.heap.size, 0, none⟩ = some (.int .i64 (n : Nat)) := (HF24.out.boxN bx1_10 (by omega)).cell 0 (by simp)
            have kbx1_1 : W24.cell? ⟨w.heap.size, 1, none⟩ = some (.int .i64 (D : Nat)) := (HF24.out.boxN bx1_10 (by omega)).cell 1 (by simp)
            have kbx1_2 : W24.cell? ⟨w.heap.size, 2, none⟩ = some (.slice A1 P.nodes.length c1) := (HF24.out.boxN bx1_10 (by omega)).cell 2 (by simp)
            have kbx1_3 : W24.cell? ⟨w.heap.size, 3, none⟩ = some (.slice A1' P.edges.length c1') := (HF24.out.boxN bx1_10 (by omega)).cell 3 (by simp)
            go_wp2_with fail
            clear kbx1_0 kbx1_1 kbx1_2 kbx1_3
            refine (nodeChoice_any _ P _ _ rc (repL j m (zoOut n S) (zoIn P n S)) _ _ (j + m) _ (Pro.turned P_10.out HF24.out (by omega) (by omega)) (by omega) HLS.out (Nat.le_refl _) (repL_length _ _ _ _) (by omega) HG.out).mono ?_
            rintro e W26 ⟨r2, rfl, hb26⟩
            have hg26 := grown_below hb26; clear hb26
            have hs26 := hg26.size
            have HF26 := Lib.hid (HF24.out.still hg26); clear HF24
            have S126 := Lib.hid (Sl.still S124.out hg26 (by omega)); clear S124
            have V126 := Lib.hid (Sl.still V124.out hg26 (by omega)); clear V124
            have S226 := Lib.hid (Sl.still S224.out hg26 (by omega)); clear S224
            have V226 := Lib.hid (Sl.still V224.out hg26 (by omega)); clear V224
            have BB26 := Lib.hid (BoxN.still BB24.out hg26); clear BB24
            obtain ⟨z, HZ⟩ : ∃ z, Hid ((firstC (nodeB P) (repL j m (zoOut n S) (zoIn P n S)) []).isSome = z) := ⟨_, Lib.hid rfl⟩
            rw [HZ.out]
            have HGN := Lib.hid (all_snoc (p := fun j => fitsB P (zoOut n S) (zoIn P n S) D j) (z := z) HGD.out (by rw [← HZ.out, ← HM.out]; rfl) rfl)
            go_wp2_with fail
            go_roundw
            case rel => exact ⟨j + 1, z, by omega, rfl, by go_num, HGN, HF26⟩
            case measure => simp [intOf]; omega
          · skip
            simp only [List.getElem_toArray, List.getElem_cons_succ, List.getElem_cons_zero]
            refine ite_is (by rfl) ?_
            simp [go_sem]
            refine hK.out _ _ ⟨fun _ => ((HF14.out.boxN bx1_10 (by omega)).still (grown_alloc _ _)).cell 1 (by simp), ?_⟩
            clear hK K hS15
            try simp only [List.getElem_toArray, List.getElem_cons_succ, List.getElem_cons_zero, Act.put, List.setIfInBounds_toArray, List.set_cons_zero, List.set_cons_succ]
            refine nameU ?_
            intro W27 HW27
            have hg27 : W14.grownBy W27 none := by rw [HW27.out]; exact grown_alloc _ _
            have hs27 := hg27.size
            have HF27 := Lib.hid (HF14.out.still hg27); clear HF14
            have S127 := Lib.hid (Sl.still S1.out hg27 (by omega)); clear S1
            have S2 := Lib.hid (show Sl W27 W14.heap.size (W14.heap.size + 1) 1 (.slice (some ⟨W14.heap.size, 0, none⟩) 1 1) 1 (fun _ => .slice Ai (zoIn P n S).length ci) by rw [HW27.out]; exact slNew1 _ _ _ rfl)
            have hzS2 : W14.heap.size + 1 ≤ W27.heap.size := by rw [HW27.out]; simp
            clear HW27
            have hS28 : W27.cell? ⟨w.heap.size, 1, none⟩ = some (.int .i64 (D : Nat)) := (HF27.out.boxN bx1_10 (by omega)).cell 1 (by simp)
            refine anyU_ready (rs := [3]) (by kernel_rfl) (by simp) ?_
            refine ReadyU.cons (i := 3) rfl (fun K hK => ?_) ReadyU.nil
            simp only [List.getElem_toArray, List.getElem_cons_succ, List.getElem_cons_zero]
            refine ite_is (by rfl) ?_
            simp [go_sem]
            refine (repeatV_any _ Ao (zoOut n S).length co j _ _ _ S127.out (by omega) (by omega)).mono ?_
            rintro e W29 ⟨b1, o1, k1, rfl, hv, hb29⟩
            have hg29 := grown_below hb29; clear hb29
            have hs29 := hg29.size
            have HF29 := Lib.hid (HF27.out.still hg29); clear HF27
            have S129 := Lib.hid (Sl.still S127.out hg29 (by omega)); clear S127
            have S229 := Lib.hid (Sl.still S2.out hg29 (by omega)); clear S2
            have V129 := Lib.hid hv; clear hv
            have hS30 : W29.cell? ⟨w.heap.size, 1, none⟩ = some (.int .i64 (D : Nat)) := (HF29.out.boxN bx1_10 (by omega)).cell 1 (by simp)
            refine hK.out _ _ ⟨fun _ => hS30, ?_⟩
            clear hK K hS28
            try simp only [List.getElem_toArray, List.getElem_cons_succ, List.getElem_cons_zero, Act.put, List.setIfInBounds_toArray, List.set_cons_zero, List.set_cons_succ]
            refine anyU_ready (rs := [10]) (by kernel_rfl) (by simp) ?_
            refine ReadyU.cons (i := 10) rfl (fun K hK => ?_) ReadyU.nil
            simp only [List.getElem_toArray, List.getElem_cons_succ, List.getElem_cons_zero]
            refine ite_is (by rfl) ?_
            simp [go_sem]
            refine (repeatV_any _ Ai (zoIn P n S).length ci m _ _ _ S229.out (by omega) (by omega)).mono ?_
            rintro e W31 ⟨b2, o2, k2, rfl, hv, hb31⟩
            have hg31 := grown_below hb31; clear hb31
            have hs31 := hg31.size
            have HF31 := Lib.hid (HF29.out.still hg31); clear HF29
            have S131 := Lib.hid (Sl.still S129.out hg31 (by omega)); clear S129
            have S231 := Lib.hid (Sl.still S229.out hg31 (by omega)); clear S229
            have V131 := Lib.hid (Sl.still V129.out hg31 (by omega)); clear V129
            have V231 := Lib.hid hv; clear hv
            have hS32 : W31.cell? ⟨w.heap.size, 1, none⟩ = some (.int .i64 (D : Nat)) := (HF31.out.boxN bx1_10 (by omega)).cell 1 (by simp)
            refine hK.out _ _ ⟨fun _ => hS32, ?_⟩
            clear hK K hS30
            try simp only [List.getElem_toArray, List.getElem_cons_succ, List.getElem_cons_zero, Act.put, List.setIfInBounds_toArray, List.set_cons_zero, List.set_cons_succ]
            refine anyU_ready (rs := [11]) (by kernel_rfl) (by simp) ?_
            refine ReadyU.cons (i := 11) rfl (fun K hK => ?_) ReadyU.nil
            simp only [List.getElem_toArray, List.getElem_cons_succ, List.getElem_cons_zero]
            refine ite_is (by rfl) ?_
            simp [go_sem]
            refine hK.out _ _ ⟨fun _ => ((HF31.out.boxN bx1_10 (by omega)).still (grown_alloc _ _)).cell 1 (by simp), ?_⟩
            clear hK K hS32
            try simp only [List.getElem_toArray, List.getElem_cons_succ, List.getElem_cons_zero, Act.put, List.setIfInBounds_toArray, List.set_cons_zero, List.set_cons_succ]
            refine nameU ?_
            intro W33 HW33
            have hg33 : W31.grownBy W33 none := by rw [HW33.out]; exact grown_alloc _ _
            have hs33 := hg33.size
            have HF33 := Lib.hid (HF31.out.still hg33); clear HF31
            have S133 := Lib.hid (Sl.still S131.out hg33 (by omega)); clear S131
            have S233 := Lib.hid (Sl.still S231.out hg33 (by omega)); clear S231
            have V133 := Lib.hid (Sl.still V131.out hg33 (by omega)); clear V131
            have V233 := Lib.hid (Sl.still V231.out hg33 (by omega)); clear V231
            have BB := Lib.hid (show BoxN W33 W31.heap.size #[.slice (some ⟨b1, o1, none⟩) j k1, .slice (some ⟨b2, o2, none⟩) m k2] 22 by rw [HW33.out]; exact BoxN.new _ _ _)
            clear HW33
            have hS34 : W33.cell? ⟨w.heap.size, 1, none⟩ = some (.int .i64 (D : Nat)) := (HF33.out.boxN bx1_10 (by omega)).cell 1 (by simp)
            refine anyU_ready (rs := [12]) (by kernel_rfl) (by simp) ?_
            refine ReadyU.cons (i := 12) rfl (fun K hK => ?_) ReadyU.nil
            simp only [List.getElem_toArray, List.getElem_cons_succ, List.getElem_cons_zero]
            refine ite_is (by rfl) ?_
            simp [go_sem]
            refine (concatV_any _ b1 o1 j k1 b2 o2 m k2 _ _ _ _ _ _ _ (BB.out.cell 0 (by simp)) (BB.out.cell 1 (by simp)) BB.out.lt V133.out (by omega) V233.out (by omega) (by omega) (by omega) (fun u hu => by obtain ⟨_, _, rfl⟩ := List.mem_map.1 hu; rfl) (fun u hu => by obtain ⟨_, _, rfl⟩ := List.mem_map.1 hu; rfl)).mono ?_
            rintro e W35 ⟨rc, rfl, hv, hb35⟩
            have hg35 := grown_below hb35; clear hb35
            have hs35 := hg35.size
            have HF35 := Lib.hid (HF33.out.still hg35); clear HF33
            have S135 := Lib.hid (Sl.still S133.out hg35 (by omega)); clear S133
            have S235 := Lib.hid (Sl.still S233.out hg35 (by omega)); clear S233
            have V135 := Lib.hid (Sl.still V133.out hg35 (by omega)); clear V133
            have V235 := Lib.hid (Sl.still V233.out hg35 (by omega)); clear V233
            have BB35 := Lib.hid (BoxN.still BB.out hg35); clear BB
            have HRC := Lib.hid hv; clear hv
            have hS36 : W35.cell? ⟨w.heap.size, 1, none⟩ = some (.int .i64 (D : Nat)) := (HF35.out.boxN bx1_10 (by omega)).cell 1 (by simp)
            refine hK.out _ _ ⟨fun _ => hS36, ?_⟩
            clear hK K hS34
            try simp only [List.getElem_toArray, List.getElem_cons_succ, List.getElem_cons_zero, Act.put, List.setIfInBounds_toArray, List.set_cons_zero, List.set_cons_succ]
            refine anyU_take (i := 13) (v := rc) rfl (by kernel_rfl) (by kernel_rfl) (by kernel_rfl) (fun _ _ _ h => h) ⟨by rfl, fun w' hS' => (by have s1 := hS'; go_simp)⟩ hS36 ?_
            simp only [List.getElem_toArray, List.getElem_cons_succ, List.getElem_cons_zero, Act.put, List.setIfInBounds_toArray, List.set_cons_zero, List.set_cons_succ]
            clear hS36
            refine anyU_done (by kernel_rfl) ?_ _
            have HLS := Lib.hid (ownRep (lo := w.heap.size) HRC.out (IntS.turned RO9.out HF35.out (by omega) (by omega)) (IntS.turned RI9.out HF35.out (by omega) (by omega)) (by omega) (by omega) (by omega) (by omega) (by omega))
            have kbx1_0 : W35.cell? ⟨w.heap.size, 0, none⟩ = some (.int .i64 (n : Nat)) := (HF35.out.boxN bx1_10 (by omega)).cell 0 (by simp)
            have kbx1_1 : W35.cell? ⟨w.heap.size, 1, none⟩ = some (.int .i64 (D : Nat)) := (HF35.out.boxN bx1_10 (by omega)).cell 1 (by simp)
            have kbx1_2 : W35.cell? ⟨w.heap.size, 2, none⟩ = some (.slice A1 P.nodes.length c1) := (HF35.out.boxN bx1_10 (by omega)).cell 2 (by simp)
            have kbx1_3 : W35.cell? ⟨w.heap.size, 3, none⟩ = some (.slice A1' P.edges.length c1') := (HF35.out.boxN bx1_10 (by omega)).cell 3 (by simp)
            go_wp2_with fail
            clear kbx1_0 kbx1_1 kbx1_2 kbx1_3
            refine (nodeChoice_any _ P _ _ rc (repL j m (zoOut n S) (zoIn P n S)) _ _ (j + m) _ (Pro.turned P_10.out HF35.out (by omega) (by omega)) (by omega) HLS.out (Nat.le_refl _) (repL_length _ _ _ _) (by omega) HG.out).mono ?_
            rintro e W37 ⟨r2, rfl, hb37⟩
            have hg37 := grown_below hb37; clear hb37
            have hs37 := hg37.size
            have HF37 := Lib.hid (HF35.out.still hg37); clear HF35
            have S137 := Lib.hid (Sl.still S135.out hg37 (by omega)); clear S135
            have S237 := Lib.hid (Sl.still S235.out hg37 (by omega)); clear S235
            have V137 := Lib.hid (Sl.still V135.out hg37 (by omega)); clear V135
            have V237 := Lib.hid (Sl.still V235.out hg37 (by omega)); clear V235
            have BB37 := Lib.hid (BoxN.still BB35.out hg37); clear BB35
            obtain ⟨z, HZ⟩ : ∃ z, Hid ((firstC (nodeB P) (repL j m (zoOut n S) (zoIn P n S)) []).isSome = z) := ⟨_, Lib.hid rfl⟩
            rw [HZ.out]
            have HGN := Lib.hid (all_snoc (p := fun j => fitsB P (zoOut n S) (zoIn P n S) D j) (z := z) HGD.out (by rw [← HZ.out, ← HM.out]; rfl) rfl)
            go_wp2_with fail
            go_roundw
            case rel => exact ⟨j + 1, z, by omega, rfl, by go_num, HGN, HF37⟩
            case measure => simp [intOf]; omega
        · skip
          simp only [List.getElem_toArray, List.getElem_cons_succ, List.getElem_cons_zero]
          refine ite_is (by rfl) ?_
          simp [go_sem]
          refine hK.out _ _ ⟨fun _ => ((HF12.out.boxN bx1_10 (by omega)).still (grown_alloc _ _)).cell 1 (by simp), ?_⟩
          clear hK K hS13
          try simp only [List.getElem_toArray, List.getElem_cons_succ, List.getElem_cons_zero, Act.put, List.setIfInBounds_toArray, List.set_cons_zero, List.set_cons_succ]
          refine nameU ?_
          intro W38 HW38
          have hg38 : W12.grownBy W38 none := by rw [HW38.out]; exact grown_alloc _ _
          have hs38 := hg38.size
          have HF38 := Lib.hid (HF12.out.still hg38); clear HF12
          have S2 := Lib.hid (show Sl W38 W12.heap.size (W12.heap.size + 1) 1 (.slice (some ⟨W12.heap.size, 0, none⟩) 1 1) 1 (fun _ => .slice Ai (zoIn P n S).length ci) by rw [HW38.out]; exact slNew1 _ _ _ rfl)
          have hzS2 : W12.heap.size + 1 ≤ W38.heap.size := by rw [HW38.out]; simp
          clear HW38
          have hS39 : W38.cell? ⟨w.heap.size, 1, none⟩ = some (.int .i64 (D : Nat)) := (HF38.out.boxN bx1_10 (by omega)).cell 1 (by simp)
          refine anyU_ready (rs := [1]) (by kernel_rfl) (by simp) ?_
          refine ReadyU.cons (i := 1) rfl (fun K hK => ?_) ReadyU.nil
          simp only [List.getElem_toArray, List.getElem_cons_succ, List.getElem_cons_zero]
          refine ite_is (by rfl) ?_
          simp [go_sem]
          refine hK.out _ _ ⟨fun _ => ((HF38.out.boxN bx1_10 (by omega)).still (grown_alloc _ _)).cell 1 (by simp), ?_⟩
          clear hK K hS39
          try simp only [List.getElem_toArray, List.getElem_cons_succ, List.getElem_cons_zero, Act.put, List.setIfInBounds_toArray, List.set_cons_zero, List.set_cons_succ]
          refine nameU ?_
          intro W40 HW40
          have hg40 : W38.grownBy W40 none := by rw [HW40.out]; exact grown_alloc _ _
          have hs40 := hg40.size
          have HF40 := Lib.hid (HF38.out.still hg40); clear HF38
          have S240 := Lib.hid (Sl.still S2.out hg40 (by omega)); clear S2
          have S1 := Lib.hid (show Sl W40 W38.heap.size (W38.heap.size + 1) 1 (.slice (some ⟨W38.heap.size, 0, none⟩) 1 1) 1 (fun _ => .slice Ao (zoOut n S).length co) by rw [HW40.out]; exact slNew1 _ _ _ rfl)
          have hzS1 : W38.heap.size + 1 ≤ W40.heap.size := by rw [HW40.out]; simp
          clear HW40
          have hS41 : W40.cell? ⟨w.heap.size, 1, none⟩ = some (.int .i64 (D : Nat)) := (HF40.out.boxN bx1_10 (by omega)).cell 1 (by simp)
          refine anyU_ready (rs := [3]) (by kernel_rfl) (by simp) ?_
          refine ReadyU.cons (i := 3) rfl (fun K hK => ?_) ReadyU.nil
          simp only [List.getElem_toArray, List.getElem_cons_succ, List.getElem_cons_zero]
          refine ite_is (by rfl) ?_
          simp [go_sem]
          refine (repeatV_any _ Ao (zoOut n S).length co j _ _ _ S1.out (by omega) (by omega)).mono ?_
          rintro e W42 ⟨b1, o1, k1, rfl, hv, hb42⟩
          have hg42 := grown_below hb42; clear hb42
          have hs42 := hg42.size
          have HF42 := Lib.hid (HF40.out.still hg42); clear HF40
          have S242 := Lib.hid (Sl.still S240.out hg42 (by omega)); clear S240
          have S142 := Lib.hid (Sl.still S1.out hg42 (by omega)); clear S1
          have V142 := Lib.hid hv; clear hv
          have hS43 : W42.cell? ⟨w.heap.size, 1, none⟩ = some (.int .i64 (D : Nat)) := (HF42.out.boxN bx1_10 (by omega)).cell 1 (by simp)
          refine hK.out _ _ ⟨fun _ => hS43, ?_⟩
          clear hK K hS41
          try simp only [List.getElem_toArray, List.getElem_cons_succ, List.getElem_cons_zero, Act.put, List.setIfInBounds_toArray, List.set_cons_zero, List.set_cons_succ]
          refine anyU_ready (rs := [10]) (by kernel_rfl) (by simp) ?_
          refine ReadyU.cons (i := 10) rfl (fun K hK => ?_) ReadyU.nil
          simp only [List.getElem_toArray, List.getElem_cons_succ, List.getElem_cons_zero]
          refine ite_is (by rfl) ?_
          simp [go_sem]
          refine (repeatV_any _ Ai (zoIn P n S).length ci m _ _ _ S242.out (by omega) (by omega)).mono ?_
          rintro e W44 ⟨b2, o2, k2, rfl, hv, hb44⟩
          have hg44 := grown_below hb44; clear hb44
          have hs44 := hg44.size
          have HF44 := Lib.hid (HF42.out.still hg44); clear HF42
          have S244 := Lib.hid (Sl.still S242.out hg44 (by omega)); clear S242
          have S144 := Lib.hid (Sl.still S142.out hg44 (by omega)); clear S142
          have V144 := Lib.hid (Sl.still V142.out hg44 (by omega)); clear V142
          have V244 := Lib.hid hv; clear hv
          have hS45 : W44.cell? ⟨w.heap.size, 1, none⟩ = some (.int .i64 (D : Nat)) := (HF44.out.boxN bx1_10 (by omega)).cell 1 (by simp)
          refine hK.out _ _ ⟨fun _ => hS45, ?_⟩
          clear hK K hS43
          try simp only [List.getElem_toArray, List.getElem_cons_succ, List.getElem_cons_zero, Act.put, List.setIfInBounds_toArray, List.set_cons_zero, List.set_cons_succ]
          refine anyU_ready (rs := [11]) (by kernel_rfl) (by simp) ?_
          refine ReadyU.cons (i := 11) rfl (fun K hK => ?_) ReadyU.nil
          simp only [List.getElem_toArray, List.getElem_cons_succ, List.getElem_cons_zero]
          refine ite_is (by rfl) ?_
          simp [go_sem]
          refine hK.out _ _ ⟨fun _ => ((HF44.out.boxN bx1_10 (by omega)).still (grown_alloc _ _)).cell 1 (by simp), ?_⟩
          clear hK K hS45
          try simp only [List.getElem_toArray, List.getElem_cons_succ, List.getElem_cons_zero, Act.put, List.setIfInBounds_toArray, List.set_cons_zero, List.set_cons_succ]
          refine nameU ?_
          intro W46 HW46
          have hg46 : W44.grownBy W46 none := by rw [HW46.out]; exact grown_alloc _ _
          have hs46 := hg46.size
          have HF46 := Lib.hid (HF44.out.still hg46); clear HF44
          have S246 := Lib.hid (Sl.still S244.out hg46 (by omega)); clear S244
          have S146 := Lib.hid (Sl.still S144.out hg46 (by omega)); clear S144
          have V146 := Lib.hid (Sl.still V144.out hg46 (by omega)); clear V144
          have V246 := Lib.hid (Sl.still V244.out hg46 (by omega)); clear V244
          have BB := Lib.hid (show BoxN W46 W44.heap.size #[.slice (some ⟨b1, o1, none⟩) j k1, .slice (some ⟨b2, o2, none⟩) m k2] 22 by rw [HW46.out]; exact BoxN.new _ _ _)
          clear HW46
          have hS47 : W46.cell? ⟨w.heap.size, 1, none⟩ = some (.int .i64 (D : Nat)) := (HF46.out.boxN bx1_10 (by omega)).cell 1 (by simp)
          refine anyU_ready (rs := [12]) (by kernel_rfl) (by simp) ?_
          refine ReadyU.cons (i := 12) rfl (fun K hK => ?_) ReadyU.nil
          simp only [List.getElem_toArray, List.getElem_cons_succ, List.getElem_cons_zero]
          refine ite_is (by rfl) ?_
          simp [go_sem]
          refine (concatV_any _ b1 o1 j k1 b2 o2 m k2 _ _ _ _ _ _ _ (BB.out.cell 0 (by simp)) (BB.out.cell 1 (by simp)) BB.out.lt V146.out (by omega) V246.out (by omega) (by omega) (by omega) (fun u hu => by obtain ⟨_, _, rfl⟩ := List.mem_map.1 hu; rfl) (fun u hu => by obtain ⟨_, _, rfl⟩ := List.mem_map.1 hu; rfl)).mono ?_
          rintro e W48 ⟨rc, rfl, hv, hb48⟩
          have hg48 := grown_below hb48; clear hb48
          have hs48 := hg48.size
          have HF48 := Lib.hid (HF46.out.still hg48); clear HF46
          have S248 := Lib.hid (Sl.still S246.out hg48 (by omega)); clear S246
          have S148 := Lib.hid (Sl.still S146.out hg48 (by omega)); clear S146
          have V148 := Lib.hid (Sl.still V146.out hg48 (by omega)); clear V146
          have V248 := Lib.hid (Sl.still V246.out hg48 (by omega)); clear V246
          have BB48 := Lib.hid (BoxN.still BB.out hg48); clear BB
          have HRC := Lib.hid hv; clear hv
          have hS49 : W48.cell? ⟨w.heap.size, 1, none⟩ = some (.int .i64 (D : Nat)) := (HF48.out.boxN bx1_10 (by omega)).cell 1 (by simp)
          refine hK.out _ _ ⟨fun _ => hS49, ?_⟩
          clear hK K hS47
          try simp only [List.getElem_toArray, List.getElem_cons_succ, List.getElem_cons_zero, Act.put, List.setIfInBounds_toArray, List.set_cons_zero, List.set_cons_succ]
          refine anyU_take (i := 13) (v := rc) rfl (by kernel_rfl) (by kernel_rfl) (by kernel_rfl) (fun _ _ _ h => h) ⟨by rfl, fun w' hS' => (by have s1 := hS'; go_simp)⟩ hS49 ?_
          simp only [List.getElem_toArray, List.getElem_cons_succ, List.getElem_cons_zero, Act.put, List.setIfInBounds_toArray, List.set_cons_zero, List.set_cons_succ]
          clear hS49
          refine anyU_done (by kernel_rfl) ?_ _
          have HLS := Lib.hid (ownRep (lo := w.heap.size) HRC.out (IntS.turned RO9.out HF48.out (by omega) (by omega)) (IntS.turned RI9.out HF48.out (by omega) (by omega)) (by omega) (by omega) (by omega) (by omega) (by omega))
          have kbx1_0 : W48.cell? ⟨w.heap.size, 0, none⟩ = some (.int .i64 (n : Nat)) := (HF48.out.boxN bx1_10 (by omega)).cell 0 (by simp)
          have kbx1_1 : W48.cell? ⟨w.heap.size, 1, none⟩ = some (.int .i64 (D : Nat)) := (HF48.out.boxN bx1_10 (by omega)).cell 1 (by simp)
          have kbx1_2 : W48.cell? ⟨w.heap.size, 2, none⟩ = some (.slice A1 P.nodes.length c1) := (HF48.out.boxN bx1_10 (by omega)).cell 2 (by simp)
          have kbx1_3 : W48.cell? ⟨w.heap.size, 3, none⟩ = some (.slice A1' P.edges.length c1') := (HF48.out.boxN bx1_10 (by omega)).cell 3 (by simp)
          go_wp2_with fail
          clear kbx1_0 kbx1_1 kbx1_2 kbx1_3
          refine (nodeChoice_any _ P _ _ rc (repL j m (zoOut n S) (zoIn P n S)) _ _ (j + m) _ (Pro.turned P_10.out HF48.out (by omega) (by omega)) (by omega) HLS.out (Nat.le_refl _) (repL_length _ _ _ _) (by omega) HG.out).mono ?_
          rintro e W50 ⟨r2, rfl, hb50⟩
          have hg50 := grown_below hb50; clear hb50
          have hs50 := hg50.size
          have HF50 := Lib.hid (HF48.out.still hg50); clear HF48
          have S250 := Lib.hid (Sl.still S248.out hg50 (by omega)); clear S248
          have S150 := Lib.hid (Sl.still S148.out hg50 (by omega)); clear S148
          have V150 := Lib.hid (Sl.still V148.out hg50 (by omega)); clear V148
          have V250 := Lib.hid (Sl.still V248.out hg50 (by omega)); clear V248
          have BB50 := Lib.hid (BoxN.still BB48.out hg50); clear BB48
          obtain ⟨z, HZ⟩ : ∃ z, Hid ((firstC (nodeB P) (repL j m (zoOut n S) (zoIn P n S)) []).isSome = z) := ⟨_, Lib.hid rfl⟩
          rw [HZ.out]
          have HGN := Lib.hid (all_snoc (p := fun j => fitsB P (zoOut n S) (zoIn P n S) D j) (z := z) HGD.out (by rw [← HZ.out, ← HM.out]; rfl) rfl)
          go_wp2_with fail
          go_roundw
          case rel => exact ⟨j + 1, z, by omega, rfl, by go_num, HGN, HF50⟩
          case measure => simp [intOf]; omega

end Go.Proofs.YtkcbocoimbhhaaaGreat

/- Contracts: numbers for all ports made anew; orientations by keys and by identifiers. -/
namespace Go.Proofs.YtkcbocoimbhhaaaGreat
open Go.ChangeShapes Go.WideShapes Go.ChangeAt Go.RowKit
set_option linter.unusedVariables false

def zeroRow (N : NetD) (v : Nat) : List Int := List.replicate (nthL N.ends v).length 0
def zeroP (N : NetD) : List (List Int) := (List.range N.ends.length).map (zeroRow N)
theorem zeroP_length (N : NetD) : (zeroP N).length = N.ends.length := by simp [zeroP]
theorem nthL_zeroP {N : NetD} {v : Nat} (hv : v < N.ends.length) : nthL (zeroP N) v = zeroRow N v := by simp [nthL, zeroP, hv]
/-- a number for each port -/
structure Shape (N : NetD) (xss : List (List Int)) : Prop where
  len : xss.length = N.ends.length
  row : ∀ a, a < N.ends.length → (nthL xss a).length = (nthL N.ends a).length
theorem Shape.zero (N : NetD) : Shape N (zeroP N) := ⟨zeroP_length N, fun a ha => by rw [nthL_zeroP ha]; simp [zeroRow]⟩
theorem Shape.cnt {N : NetD} {xss : List (List Int)} (h : Shape N xss) : cntSS xss = cntSS N.ends := by
  unfold cntSS
  rw [h.len]
  have : ∀ k, k ≤ N.ends.length → sumL xss k = sumL N.ends k := fun k => by
    induction k with
    | zero => intro _; rfl
    | succ k ih => intro hk; rw [sumL_succ _ _ (by rw [h.len]; omega), sumL_succ _ _ (by omega), ih (by omega), h.row k (by omega)]
  exact this _ (Nat.le_refl _)
end Go.Proofs.YtkcbocoimbhhaaaGreat

/- Plain: labels by an orientation and a good set. -/
namespace Go.Proofs.YtkcbocoimbhhaaaGreat
open Go.ChangeShapes Go.WideShapes Go.ChangeAt Go.RowKit
set_option linter.unusedVariables false

def selL (P : PrD) (S : Nat) (full : Bool) (x : Int) : List Int := if full then (if x = 1 then zoOut P.L.toNat S else zoIn P P.L.toNat S) else (if x = 1 then zoOut P.L.toNat S else zoIn P P.L.toNat S).take 1
def fullB (P : PrD) (row : List Int) : Bool := decide ((row.length : Int) = P.D)
def testO (P : PrD) (n : Nat) (zs : List Int) : Bool := if (n : Int) = P.D then nodeB P zs else true
/-- the labels of a node's row of an orientation -/
def rowO (P : PrD) (S : Nat) (row : List Int) : Option (List Int) := firstC (testO P row.length) (row.map (selL P S (fullB P row))) []
def olOk (P : PrD) (N : NetD) (o : List (List Int)) : Bool := match zoS P with
  | none => false
  | some S => N.good && (oriOk N o && o.all fun row => (rowO P S row).isSome)
def olL (P : PrD) (N : NetD) (o : List (List Int)) : List (List Int) := if olOk P N o then o.map fun row => (rowO P ((zoS P).getD 0) row).getD [] else []
theorem zoS_good {P : PrD} {S : Nat} (h : zoS P = some S) : P.good = true := by
  unfold zoS at h
  split at h
  · assumption
  · cases h
theorem zoS_set {P : PrD} {S : Nat} (h : zoS P = some S) : goodSet P P.L.toNat P.D.toNat S = true ∧ 1 ≤ S ∧ S < 2 ^ P.L.toNat := by
  unfold zoS at h
  rw [if_pos (zoS_good h)] at h
  have h1 := List.find?_some h
  have h2 := List.mem_of_find?_eq_some h
  rw [Bool.and_eq_true] at h1
  exact ⟨h1.2, by simpa using h1.1, by simpa using h2⟩
theorem zoS_fits {P : PrD} {S : Nat} (h : zoS P = some S) {j : Nat} (hj : j ≤ P.D.toNat) : fitsB P (zoOut P.L.toNat S) (zoIn P P.L.toNat S) P.D.toNat j = true :=
  List.all_eq_true.1 (zoS_set h).1 j (List.mem_range.2 (by omega))
theorem firstC_ne {good : List Int → Bool} : ∀ {lists : List (List Int)} {pre : List Int}, (firstC good lists pre).isSome = true → ∀ l ∈ lists, l ≠ []
  | [], _, _, l, hl => by simp at hl
  | x :: xs, pre, h, l, hl => by
    obtain ⟨r, hr⟩ := Option.isSome_iff_exists.1 h
    unfold firstC at hr
    obtain ⟨a, ha, har⟩ := List.exists_of_findSome?_eq_some hr
    rcases List.mem_cons.1 hl with e | e
    · subst e; intro e; rw [e] at ha; simp at ha
    · exact firstC_ne (Option.isSome_iff_exists.2 ⟨r, har⟩) l e
theorem zo_ne {P : PrD} {S : Nat} (h : zoS P = some S) : 1 ≤ (zoOut P.L.toNat S).length ∧ 1 ≤ (zoIn P P.L.toNat S).length := by
  obtain ⟨n, D, hL, hD, n1, n8, d1, d4⟩ := prd_LD (zoS_good h)
  have hDn : P.D.toNat = D := by omega
  have h1 := zoS_fits h (j := P.D.toNat) (Nat.le_refl _)
  have h2 := zoS_fits h (j := 0) (Nat.zero_le _)
  unfold fitsB repL at h1 h2
  have h3 := firstC_ne h1 (zoOut P.L.toNat S) (by simp; omega)
  have h4 := firstC_ne h2 (zoIn P P.L.toNat S) (by simp; omega)
  exact ⟨List.length_pos_iff.2 h3, List.length_pos_iff.2 h4⟩
theorem olOk_no {P : PrD} {N : NetD} {o : List (List Int)} (h : zoS P = none) : olOk P N o = false := by unfold olOk; rw [h]
theorem olOk_net {P : PrD} {N : NetD} {o : List (List Int)} (h : N.good = false) : olOk P N o = false := by
  unfold olOk
  cases zoS P with
  | none => rfl
  | some S => show (N.good && _) = false; rw [h]; rfl
theorem olOk_ori {P : PrD} {N : NetD} {o : List (List Int)} (h : oriOk N o = false) : olOk P N o = false := by
  unfold olOk
  cases zoS P with
  | none => rfl
  | some S => show (N.good && (oriOk N o && _)) = false; rw [h]; simp
theorem olOk_row {P : PrD} {N : NetD} {o : List (List Int)} {S k : Nat} (h : zoS P = some S) (hk : k < o.length) (hr : rowO P S (nthL o k) = none) : olOk P N o = false := by
  unfold olOk
  rw [h]
  show (N.good && (oriOk N o && o.all fun row => (rowO P S row).isSome)) = false
  have : (o.all fun row => (rowO P S row).isSome) = false := by
    cases ha : o.all fun row => (rowO P S row).isSome with
    | false => rfl
    | true =>
      have := List.all_eq_true.1 ha _ (nthL_mem hk)
      rw [hr] at this; cases this
  rw [this]; simp
theorem olOk_yes {P : PrD} {N : NetD} {o : List (List Int)} {S : Nat} (h : zoS P = some S) (hg : N.good = true) (ho : oriOk N o = true) (hr : ∀ k, k < o.length → (rowO P S (nthL o k)).isSome = true) : olOk P N o = true := by
  unfold olOk
  rw [h]
  show (N.good && (oriOk N o && o.all fun row => (rowO P S row).isSome)) = true
  rw [hg, ho, Bool.true_and, Bool.true_and, List.all_eq_true]
  intro row hrow
  obtain ⟨k, hk, e⟩ := List.mem_iff_getElem.1 hrow
  have := hr k hk
  rw [nthL_eq hk, e] at this
  exact this
theorem olL_no {P : PrD} {N : NetD} {o : List (List Int)} (h : olOk P N o = false) : olL P N o = [] := by unfold olL; rw [h]; rfl
theorem olL_is {P : PrD} {N : NetD} {o : List (List Int)} {S : Nat} {L : List (List Int)} (h : olOk P N o = true) (hS : zoS P = some S) (hl : L.length = o.length) (hr : ∀ k, k < o.length → rowO P S (nthL o k) = some (nthL L k)) : olL P N o = L := by
  unfold olL
  rw [if_pos h, hS]
  apply List.ext_getElem
  · simp [hl]
  · intro k h1 h2
    have hk : k < o.length := by simpa using h1
    have := hr k hk
    rw [nthL_eq hk, nthL_eq h2] at this
    simp [this]

end Go.Proofs.YtkcbocoimbhhaaaGreat

/- Plain: labels placed at ports by sets; some choice is a node's configuration. -/
namespace Go.Proofs.YtkcbocoimbhhaaaGreat
open Go.ChangeShapes Go.WideShapes Go.ChangeAt Go.RowKit
set_option linter.unusedVariables false

/-- the list without its j-th number -/
def cutJ (x : List Int) (j : Nat) : List Int := x.take j ++ x.drop (j + 1)
/-- labels of x can be placed at ports whose sets are ms -/
def placeB : List Nat → List Int → Bool
  | [], _ => true
  | m :: ms, x => (List.range x.length).any fun j => !(decide (0 < j) && decide (nth x (j - 1) = nth x j)) && (m.testBit (nth x j).toNat && placeB ms (cutJ x j))
theorem cutJ_count {x : List Int} {j : Nat} (h : j < x.length) (a : Int) : (cutJ x j).count a + (if nth x j = a then 1 else 0) = x.count a := by
  have e : x = x.take j ++ nth x j :: x.drop (j + 1) := by
    rw [nth_eq h, List.getElem_cons_drop, List.take_append_drop]
  have e2 : x.count a = (x.take j).count a + (nth x j :: x.drop (j + 1)).count a := by
    rw [← List.count_append, ← e]
  rw [e2, List.count_cons]
  unfold cutJ
  rw [List.count_append]
  by_cases h1 : nth x j = a
  · simp [h1]; omega
  · simp [h1]
theorem cutJ_len {x : List Int} {j : Nat} (h : j < x.length) : (cutJ x j).length = x.length - 1 := by unfold cutJ; simp; omega
theorem first_at {x : List Int} {a : Int} (h : a ∈ x) : ∃ j, j < x.length ∧ nth x j = a ∧ ∀ i, i < j → nth x i ≠ a := by
  induction x with
  | nil => simp at h
  | cons y ys ih =>
    by_cases e : y = a
    · exact ⟨0, by simp, by subst e; rfl, fun i hi => absurd hi (by omega)⟩
    · obtain ⟨j, h1, h2, h3⟩ := ih (by rcases List.mem_cons.1 h with e2 | e2; exact absurd e2.symm e; exact e2)
      refine ⟨j + 1, by simp; omega, h2, fun i hi => ?_⟩
      cases i with
      | zero => exact e
      | succ i => exact h3 i (by omega)
theorem placeB_iff : ∀ {ms : List Nat} {x : List Int}, placeB ms x = true ↔ ∃ c : List Int, c.length = ms.length ∧ (∀ k, k < ms.length → (ms.getD k 0).testBit (nth c k).toNat = true) ∧ ∀ a, c.count a ≤ x.count a
  | [], x => ⟨fun _ => ⟨[], rfl, fun k hk => absurd hk (by simp), fun a => by simp⟩, fun _ => rfl⟩
  | m :: ms, x => by
    unfold placeB
    rw [List.any_eq_true]
    constructor
    · rintro ⟨j, hj, h⟩
      rw [List.mem_range] at hj
      rw [Bool.and_eq_true, Bool.and_eq_true] at h
      obtain ⟨c, h1, h2, h3⟩ := placeB_iff.1 h.2.2
      refine ⟨nth x j :: c, by simp [h1], fun k hk => ?_, fun a => ?_⟩
      · cases k with
        | zero => exact h.2.1
        | succ k => exact h2 k (by simpa using hk)
      · have := cutJ_count hj a
        have h4 := h3 a
        rw [List.count_cons]
        by_cases e : nth x j = a
        · simp [e] at this ⊢; omega
        · simp [e] at this ⊢; omega
    · rintro ⟨c, h1, h2, h3⟩
      cases c with
      | nil => simp at h1
      | cons a c =>
        have ha : a ∈ x := by
          have := h3 a
          rw [List.count_cons_self] at this
          exact List.count_pos_iff.1 (by omega)
        obtain ⟨j, hj, e, hm⟩ := first_at ha
        refine ⟨j, List.mem_range.2 hj, ?_⟩
        rw [Bool.and_eq_true, Bool.and_eq_true]
        refine ⟨?_, ?_, ?_⟩
        · by_cases hj0 : 0 < j
          · have := hm (j - 1) (by omega)
            rw [e]
            simp [this]
          · simp [hj0]
        · rw [e]; exact h2 0 (by simp)
        · refine placeB_iff.2 ⟨c, by simpa using h1, fun k hk => h2 (k + 1) (by simp; omega), fun b => ?_⟩
          have h4 := cutJ_count hj b
          have h5 := h3 b
          rw [List.count_cons] at h5
          rw [e] at h4
          by_cases e2 : a = b
          · simp [e2] at h4 h5; omega
          · simp [e2] at h4 h5; omega
/-- some choice by sets is a configuration of the nodes -/
def chooseB (P : PrD) (ms : List Nat) : Bool := P.nodes.any (placeB ms)
theorem perm_of_count {c x : List Int} (hl : c.length = x.length) (h : ∀ a, c.count a ≤ x.count a) : c.Perm x := by
  induction c generalizing x with
  | nil =>
    have : x = [] := List.eq_nil_of_length_eq_zero (by simpa using hl.symm)
    subst this
    exact List.Perm.refl _
  | cons a c ih =>
    have ha : a ∈ x := by
      have := h a
      rw [List.count_cons_self] at this
      exact List.count_pos_iff.1 (by omega)
    have hp := List.perm_cons_erase ha
    refine List.Perm.trans (List.Perm.cons a (ih ?_ fun b => ?_)) hp.symm
    · have := hp.length_eq; simp at this hl; omega
    · have h1 := h b
      have h2 := hp.count_eq b
      rw [List.count_cons] at h1 h2
      omega
theorem firstC_some {good : List Int → Bool} : ∀ {lists : List (List Int)} {pre : List Int}, (firstC good lists pre).isSome = true ↔ ∃ c : List Int, c.length = lists.length ∧ (∀ k, k < lists.length → nth c k ∈ nthL lists k) ∧ good (pre ++ c) = true
  | [], pre => by
    unfold firstC
    constructor
    · intro h
      split at h
      · rename_i hg; exact ⟨[], rfl, fun k hk => absurd hk (by simp), by simpa using hg⟩
      · cases h
    · rintro ⟨c, h1, _, h3⟩
      have : c = [] := List.eq_nil_of_length_eq_zero (by simpa using h1)
      subst this
      rw [List.append_nil] at h3
      rw [if_pos h3]; rfl
  | l :: ls, pre => by
    unfold firstC
    rw [Option.isSome_iff_exists]
    constructor
    · rintro ⟨r, hr⟩
      obtain ⟨a, ha, har⟩ := List.exists_of_findSome?_eq_some hr
      obtain ⟨c, h1, h2, h3⟩ := firstC_some.1 (Option.isSome_iff_exists.2 ⟨r, har⟩)
      refine ⟨a :: c, by simp [h1], fun k hk => ?_, by simpa using h3⟩
      cases k with
      | zero => exact ha
      | succ k => exact h2 k (by simpa using hk)
    · rintro ⟨c, h1, h2, h3⟩
      cases c with
      | nil => simp at h1
      | cons a c =>
        have hs := (firstC_some (good := good) (lists := ls) (pre := pre ++ [a])).2 ⟨c, by simpa using h1, fun k hk => h2 (k + 1) (by simp; omega), by simpa using h3⟩
        rw [← Option.isSome_iff_exists, List.findSome?_isSome_iff]
        exact ⟨a, h2 0 (by simp), hs⟩
theorem sortI_of_perm {c x : List Int} (h : c.Perm x) (hs : x.Pairwise (· ≤ ·)) : sortI c = x :=
  ((sortI_perm c).trans h).eq_of_pairwise (fun a b _ _ h1 h2 => by omega) (sortI_sorted c) hs
theorem sorted_pair {x : List Int} (h : sortedB x = true) : x.Pairwise (· ≤ ·) := by
  have h1 := sortedB_is.1 h
  rw [List.pairwise_iff_getElem]
  have key : ∀ d i, i + d < x.length → nth x i ≤ nth x (i + d) := by
    intro d
    induction d with
    | zero => intro i _; exact Int.le_refl _
    | succ d ih => intro i hi; exact Int.le_trans (ih i (by omega)) (h1 (i + d) hi)
  intro i j hi hj hij
  have := key (j - i) i (by omega)
  rw [show i + (j - i) = j by omega, nth_eq hi, nth_eq hj] at this
  exact this

end Go.Proofs.YtkcbocoimbhhaaaGreat

/- Plain: a choice by sets is a first choice by lists. -/
namespace Go.Proofs.YtkcbocoimbhhaaaGreat
open Go.ChangeShapes Go.WideShapes Go.ChangeAt Go.RowKit
set_option linter.unusedVariables false

theorem node_parts {P : PrD} (hg : P.good = true) {x : List Int} (hx : x ∈ P.nodes) : (x.length : Int) = P.D ∧ (∀ a ∈ x, 0 ≤ a ∧ a ≤ P.L - 1) ∧ x.Pairwise (· ≤ ·) := by
  unfold PrD.good at hg
  rw [Bool.and_eq_true, Bool.and_eq_true, Bool.and_eq_true] at hg
  obtain ⟨k, hk, e⟩ := List.mem_iff_getElem.1 hx
  have h := cfgAt_parts (rangeAll_at hg.2.2.1 hk)
  rw [nthL_eq hk, e] at h
  exact ⟨h.1, fun a ha => inB_le (List.all_eq_true.1 h.2.1 a ha), sorted_pair h.2.2⟩
theorem ascI_mem {n : Nat} {f : Nat → Bool} {a : Int} : a ∈ ascI n f ↔ ∃ x : Nat, x < n ∧ f x = true ∧ a = x := by
  unfold ascI
  rw [List.mem_map]
  constructor
  · rintro ⟨x, hx, rfl⟩
    have := List.mem_filter.1 (show x ∈ (List.range n).filter f from hx)
    exact ⟨x, List.mem_range.1 this.1, this.2, rfl⟩
  · rintro ⟨x, h1, h2, rfl⟩
    exact ⟨x, show x ∈ (List.range n).filter f from List.mem_filter.2 ⟨List.mem_range.2 h1, h2⟩, rfl⟩
theorem ascI_bits {n : Nat} {f : Nat → Bool} {a : Int} : a ∈ ascI n f ↔ 0 ≤ a ∧ (setOf n f).testBit a.toNat = true := by
  rw [ascI_mem, setOf_test]
  constructor
  · rintro ⟨x, h1, h2, rfl⟩
    exact ⟨by omega, by simp [h1, h2]⟩
  · rintro ⟨h0, h⟩
    rw [Bool.and_eq_true] at h
    exact ⟨a.toNat, by simpa using h.1, h.2, by omega⟩
/-- sets and lists tell of the same labels -/
def SameL (ms : List Nat) (lists : List (List Int)) : Prop := ms.length = lists.length ∧ ∀ k, k < lists.length → ∀ a : Int, a ∈ nthL lists k ↔ 0 ≤ a ∧ (ms.getD k 0).testBit a.toNat = true
theorem choose_first {P : PrD} (hg : P.good = true) {ms : List Nat} {lists : List (List Int)} (hs : SameL ms lists) (hl : (lists.length : Int) = P.D) : chooseB P ms = (firstC (nodeB P) lists []).isSome := by
  rw [Bool.eq_iff_iff, firstC_some]
  unfold chooseB
  rw [List.any_eq_true]
  constructor
  · rintro ⟨x, hx, h⟩
    obtain ⟨c, h1, h2, h3⟩ := placeB_iff.1 h
    obtain ⟨p1, p2, p3⟩ := node_parts hg hx
    have hp := perm_of_count (by have := hs.1; omega) h3
    refine ⟨c, by rw [h1, hs.1], fun k hk => ?_, ?_⟩
    · have hkc : k < c.length := by rw [h1, hs.1]; exact hk
      refine (hs.2 k hk _).2 ⟨?_, h2 k (by rw [hs.1]; exact hk)⟩
      exact (p2 _ (hp.mem_iff.1 (by rw [nth_eq hkc]; exact List.getElem_mem hkc))).1
    · unfold nodeB
      rw [List.nil_append, sortI_of_perm hp p3]
      exact decide_eq_true hx
  · rintro ⟨c, h1, h2, h3⟩
    rw [List.nil_append] at h3
    unfold nodeB at h3
    refine ⟨sortI c, of_decide_eq_true h3, placeB_iff.2 ⟨c, by rw [h1, hs.1], fun k hk => ?_, fun a => ?_⟩⟩
    · rw [hs.1] at hk
      exact ((hs.2 k hk _).1 (h2 k hk)).2
    · rw [(sortI_perm c).count_eq]; exact Nat.le_refl _

end Go.Proofs.YtkcbocoimbhhaaaGreat

/- Contract: the table of the arcs (reference's waMay). -/
namespace Go.Proofs.YtkcbocoimbhhaaaGreat
open Go.ChangeShapes Go.WideShapes Go.ChangeAt Go.RowKit
set_option linter.unusedVariables false

def relR (n : Nat) (m : Nat → Nat → Bool) : List (List Bool) := (List.range n).map fun a => (List.range n).map fun b => m a b
theorem relR_len (n : Nat) (m : Nat → Nat → Bool) : (relR n m).length = n := by simp [relR]
theorem nthL_relR {n a : Nat} (m : Nat → Nat → Bool) (h : a < n) : nthL (relR n m) a = (List.range n).map fun b => m a b := by simp [nthL, relR, h]
theorem relR_row {n a : Nat} (m : Nat → Nat → Bool) (h : a < n) : (nthL (relR n m) a).length = n := by rw [nthL_relR m h]; simp
theorem nthB_relR {n a b : Nat} (m : Nat → Nat → Bool) (h : a < n) (hb : b < n) : nthB (nthL (relR n m) a) b = m a b := by rw [nthL_relR m h]; simp [nthB, hb]
structure IsRel (n : Nat) (m : Nat → Nat → Bool) (xss : List (List Bool)) : Prop where
  len : xss.length = n
  row : ∀ a, a < n → (nthL xss a).length = n
  at_ : ∀ a b, a < n → b < n → nthB (nthL xss a) b = m a b
theorem ext_nthB {xs ys : List Bool} (hl : xs.length = ys.length) (h : ∀ j, j < xs.length → nthB xs j = nthB ys j) : xs = ys := by
  apply List.ext_getElem hl
  intro j h1 h2
  have := h j h1
  rwa [nthB_eq h1, nthB_eq h2] at this
theorem IsRel.eq {n : Nat} {m : Nat → Nat → Bool} {xss : List (List Bool)} (h : IsRel n m xss) : xss = relR n m := by
  apply List.ext_getElem (by rw [h.len, relR_len])
  intro a h1 h2
  have ha : a < n := by rw [← h.len]; exact h1
  rw [← nthL_eq h1, ← nthL_eq h2]
  refine ext_nthB (by rw [h.row a ha, relR_row m ha]) fun j hj => ?_
  rw [h.row a ha] at hj
  rw [h.at_ a j ha hj, nthB_relR m ha hj]
theorem IsRel.set {n k x y : Nat} {P : List (List Int)} {xss : List (List Bool)} (h : IsRel n (may (P.take k)) xss) (hk : k < P.length) (hE : nthL P k = [(x : Int), (y : Int)]) (hx : x < n) (hy : y < n) : IsRel n (may (P.take (k + 1))) (setAtB xss x y true) := by
  refine ⟨by rw [setAtB_length, h.len], fun a ha => by rw [setAtB_row xss (by rw [h.len]; exact hx)]; exact h.row a ha, fun a b ha hb => ?_⟩
  rw [nthL_setAtB (by rw [h.len]; exact hx), may_at hk hE]
  by_cases e : a = x
  · subst e
    rw [if_pos rfl, nthB_set _ _ _ _ (by rw [h.row a ha]; exact hy), h.at_ a b ha hb]
    by_cases e2 : b = y
    · subst e2; simp
    · rw [if_neg e2]; simp [show (y == b) = false by simp; omega]
  · rw [if_neg e, h.at_ a b ha hb]; simp [show (x == a) = false by simp; omega]
end Go.Proofs.YtkcbocoimbhhaaaGreat

/- A slice of tables of booleans that grows by one table. -/
namespace Go.Proofs.YtkcbocoimbhhaaaGreat
open Go.ChangeShapes Go.WideShapes Go.ChangeAt Go.RowKit
set_option linter.unusedVariables false
abbrev PwSSx := SSx BoolSSx
/-- v is a slice of slices that reads as xss; its own row lies from block base on; its rows lie one behind the other, from base on and below top -/
def OwnPS (w : World) (base top : Nat) (e : TypeId) (v : Value) (xss : List (List (List Bool))) : Prop :=
  ∃ (vs : List Value) (lo hi : Nat → Nat), vs.length = xss.length ∧ Own w base e v vs ∧ base ≤ top ∧ top ≤ w.heap.size ∧
    (∀ j, j < xss.length → ∃ u, vs[j]? = some u ∧ base ≤ lo j ∧ hi j ≤ top ∧ BoolSSx w (lo j) (hi j) u (nthL xss j) ∧ ∀ g, v.ownBlock = some g → g < lo j ∨ hi j ≤ g) ∧
    ∀ i j, i < j → j < xss.length → hi i ≤ lo j


section
variable {w w' : World} {base top : Nat} {e : TypeId} {v : Value} {xss : List (List (List Bool))}
theorem OwnPS.nil (w : World) (base top : Nat) (e : TypeId) (h1 : base ≤ top) (h2 : top ≤ w.heap.size) : OwnPS w base top e (.slice none 0 0) [] :=
  ⟨[], fun _ => 0, fun _ => 0, rfl, Own.nil _ _ _, h1, h2, fun j hj => absurd hj (by simp), fun i j _ hj => absurd hj (by simp)⟩
theorem OwnPS.below (h : OwnPS w base top e v xss) (hb : Below w.heap.size w w') : OwnPS w' base top e v xss := by
  obtain ⟨vs, lo, hi, h1, h2, h3, h4, h5, h6⟩ := h
  refine ⟨vs, lo, hi, h1, h2.kept (row := none) ⟨hb.os, hb.tape, hb.output, hb.size, fun k hk _ => hb.block k hk⟩ (by cases hv : v.ownBlock with
    | none => exact .inl rfl
    | some g => right; simp), h3, Nat.le_trans h4 hb.size, fun j hj => ?_, h6⟩
  obtain ⟨u, a1, a2, a3, a4, a5⟩ := h5 j hj
  exact ⟨u, a1, a2, a3, BSSx.below a4 hb (by omega), a5⟩
theorem OwnPS.alloc (h : OwnPS w base top e v xss) (o : Obj) : OwnPS (w.alloc o) base top e v xss := h.below ((Below.refl _ _).alloc (Nat.le_refl _) o)
theorem OwnPS.drew (h : OwnPS w base top e v xss) : OwnPS w.drew base top e v xss := h
theorem OwnPS.drewN (h : OwnPS w base top e v xss) (k : Nat) : OwnPS (w.drewN k) base top e v xss := h
theorem OwnPS.len (h : OwnPS w base top e v xss) : ∃ A c, v = .slice A xss.length c ∧ xss.length ≤ c ∧ c ≤ maxLen := by
  obtain ⟨vs, lo, hi, h1, h2, _⟩ := h
  obtain ⟨A, c, e, a1, a2, _⟩ := h2.form
  exact ⟨A, c, by rw [e, h1], by omega, a2⟩
theorem OwnPS.lt (h : OwnPS w base top e v xss) : ∀ k, v.ownBlock = some k → base ≤ k ∧ k < w.heap.size := by
  obtain ⟨vs, lo, hi, h1, h2, _⟩ := h
  exact h2.lt
theorem OwnPS.mono (h : OwnPS w base top e v xss) {top' : Nat} (h1 : top ≤ top') (h2 : top' ≤ w.heap.size) : OwnPS w base top' e v xss := by
  obtain ⟨vs, lo, hi, a1, a2, a3, a4, a5, a6⟩ := h
  refine ⟨vs, lo, hi, a1, a2, by omega, h2, fun j hj => ?_, a6⟩
  obtain ⟨u, b1, b2, b3, b4, b5⟩ := a5 j hj
  exact ⟨u, b1, b2, by omega, b4, b5⟩
theorem OwnPS.ssx (h : OwnPS w base top e v xss) : PwSSx w base w.heap.size v xss := by
  obtain ⟨vs, lo, hi, h1, h2, h3, h4, h5, h6⟩ := h
  have hsl : Sl w base w.heap.size 1 v xss.length (fun j => vs.getD j undef) := by
    have := Sl.of_own (f := fun j => vs.getD j undef) h2 (fun j hj => by simp at hj; simp [hj])
    rwa [h1] at this
  have hr : ∀ j, j < xss.length → BoolSSx w (lo j) (hi j) (vs.getD j undef) (nthL xss j) ∧ base ≤ lo j ∧ hi j ≤ top ∧ ∀ g, v.ownBlock = some g → g < lo j ∨ hi j ≤ g := fun j hj => by
    obtain ⟨u, a1, a2, a3, a4, a5⟩ := h5 j hj
    have : vs.getD j undef = u := by simp [a1]
    rw [this]
    exact ⟨a4, a2, a3, a5⟩
  refine ⟨fun j => vs.getD j undef, hsl, fun i hi' => BSSx.mono (hr i hi').1 (hr i hi').2.1 (by have := (hr i hi').2.2.1; omega), fun i j hij hj => ?_, fun i hi' => ?_⟩
  · obtain ⟨a1, _⟩ := hr i (by omega)
    obtain ⟨b1, _⟩ := hr j hj
    rcases Sl.row a1.choose_spec.1 with e1 | ⟨g1, e1, c1, c2⟩
    · exact .inl e1
    · right
      rw [e1]
      rcases Sl.row b1.choose_spec.1 with e2 | ⟨g2, e2, d1, d2⟩
      · rw [e2]; simp
      · rw [e2]; intro e3; injection e3 with e3; have := h6 i j hij hj; omega
  · obtain ⟨a1, _, _, a2⟩ := hr i hi'
    rcases Sl.row a1.choose_spec.1 with e1 | ⟨g1, e1, c1, c2⟩
    · exact .inl e1
    · right
      rw [e1]
      unfold rowOf
      rw [if_neg (by omega)]
      intro e3
      have := a2 g1 e3.symm
      omega
end

theorem OwnPS.far {w w' : World} {base top : Nat} {e : TypeId} {v : Value} {xss : List (List (List Bool))} {row : Option Nat} (h : OwnPS w base top e v xss) (hg : w.grownBy w' row) (hr : ∀ g, row = some g → g < base) : OwnPS w' base top e v xss := by
  obtain ⟨vs, lo, hi, h1, h2, h3, h4, h5, h6⟩ := h
  refine ⟨vs, lo, hi, h1, h2.kept hg ?_, h3, Nat.le_trans h4 hg.size, fun j hj => ?_, h6⟩
  · cases hv : v.ownBlock with
    | none => exact .inl rfl
    | some g =>
      right
      intro e
      have := (h2.lt g hv).1
      have := hr g e.symm
      omega
  · obtain ⟨u, a1, a2, a3, a4, a5⟩ := h5 j hj
    exact ⟨u, a1, a2, a3, BSSx.far a4 hg (by omega) (fun g e => .inl (by have := hr g e; omega)), a5⟩




theorem OwnPS.farT {w w' : World} {base top : Nat} {e : TypeId} {v : Value} {xss : List (List (List Bool))} {row : Option Nat} (h : OwnPS w base top e v xss) (hg : w.grownBy w' row) (hr : ∀ g, row = some g → top ≤ g ∧ v.ownBlock ≠ some g) : OwnPS w' base top e v xss := by
  obtain ⟨vs, lo, hi, h1, h2, h3, h4, h5, h6⟩ := h
  have hgs := hg.size
  refine ⟨vs, lo, hi, h1, Own.kept h2 hg ?_, h3, by omega, fun j hj => ?_, h6⟩
  · cases row with
    | none =>
      cases hv : v.ownBlock with
      | none => exact .inl rfl
      | some k => exact .inr (by simp)
    | some g => exact .inr (hr g rfl).2
  · obtain ⟨u, a1, a2, a3, a4, a5⟩ := h5 j hj
    exact ⟨u, a1, a2, a3, BSSx.far a4 hg (by omega) (fun g e => .inr (by have := (hr g e).1; omega)), a5⟩
theorem OwnPS.still {w w' : World} {base top : Nat} {e : TypeId} {v : Value} {xss : List (List (List Bool))} (h : OwnPS w base top e v xss) (hg : w.grownBy w' none) : OwnPS w' base top e v xss := h.farT hg (fun g e => by cases e)
theorem PwSSx.far {w w' : World} {lo hi : Nat} {v : Value} {xss : List (List (List Bool))} {row : Option Nat} (h : PwSSx w lo hi v xss) (hg : w.grownBy w' row) (hB : hi ≤ w.heap.size) (hr : ∀ g, row = some g → g < lo ∨ hi ≤ g) : PwSSx w' lo hi v xss :=
  SSx.keep (fun h => BSSx.far h hg hB hr) h fun k h1 hk => hg.block k (by omega) (fun e => by have := hr k e.symm; omega)
theorem PwSSx.still {w w' : World} {lo hi : Nat} {v : Value} {xss : List (List (List Bool))} (h : PwSSx w lo hi v xss) (hg : w.grownBy w' none) (hB : hi ≤ w.heap.size) : PwSSx w' lo hi v xss := PwSSx.far h hg hB (no_row _ _)
theorem PwSSx.turned {w w' : World} {l2 h2 lo hi : Nat} {v : Value} {xss : List (List (List Bool))} (h : PwSSx w lo hi v xss) (hb : Turned l2 h2 w w') (hB : hi ≤ w.heap.size) (hd : hi ≤ l2 ∨ h2 ≤ lo) : PwSSx w' lo hi v xss := SSx.keep (fun h => BSSx.turned h hb hB hd) h fun k h1 hk => hb.block k (by omega) (by omega)
theorem PwSSx.dims {w : World} {lo hi : Nat} {v : Value} {xss : List (List (List Bool))} (h : PwSSx w lo hi v xss) : ∃ A c, v = .slice A xss.length c ∧ xss.length ≤ c ∧ c ≤ 9223372036854775807 := SS.dims h.ss
end Go.Proofs.YtkcbocoimbhhaaaGreat

/- Contract: for each length the labels that walks lead from and to (reference's waPowers). -/
namespace Go.Proofs.YtkcbocoimbhhaaaGreat
open Go.ChangeShapes Go.WideShapes Go.ChangeAt Go.RowKit
set_option linter.unusedVariables false

theorem IsRel.congr {n : Nat} {m m' : Nat → Nat → Bool} {xss : List (List Bool)} (h : IsRel n m xss) (e : ∀ a b, a < n → b < n → m a b = m' a b) : IsRel n m' xss := ⟨h.len, h.row, fun a b ha hb => (h.at_ a b ha hb).trans (e a b ha hb)⟩
end Go.Proofs.YtkcbocoimbhhaaaGreat

/- Contracts: soPlace, soChoose (reference). -/
namespace Go.Proofs.YtkcbocoimbhhaaaGreat
open Go.ChangeShapes Go.WideShapes Go.ChangeAt Go.RowKit
set_option linter.unusedVariables false

set_option maxHeartbeats 1000000 in
set_option maxRecDepth 100000 in
theorem l1OwnO_any (b off m c : Nat) (ys : List Int) (hm : ys.length = m) (w : World) (hcell : ∀ j, j < m → w.cell? ⟨b, off + j, none⟩ = some (.int .i64 (nth ys j))) (hb : b < w.heap.size) (hl : m ≤ 1048576) :
    Calls Tryz.prog 45 #[.slice (some ⟨b, off, none⟩) m c] w fun e w' => ∃ r, e = .returned r ∧ OwnI w' w.heap.size 3 r ys ∧ Below w.heap.size w w' := by
  have HM := Lib.hid hm; clear hm
  have HE := Lib.hid (OwnI.empty w w.heap.size 3 rfl (Nat.le_refl _))
  have HC := Lib.hid (show ∀ j, j < m → (w.alloc (.cells #[] 3)).cell? ⟨b, off + j, none⟩ = some (.int .i64 (nth ys j)) from fun j hj => by
    rw [World.cell?_of_block (w := w) (a := ⟨b, off + j, none⟩) (Below.heap_alloc _ _ _ hb)]; exact hcell j hj)
  clear hcell
  go_enter Tryz.func45, Tryz.ntmps45
  go_wp2_with (at_builtin; refine append_ints (s := .tmp 3) Tryz.underlying26 Tryz.info3 (by decide) (w.alloc (.cells #[] 3)) rfl (.tmp 4) rfl HE.out rfl (g := b) (off := off) ys HM.out rfl HC.out (by simp; omega) (by simp) ?_; intro v1 w1 ho1 hg1; have HO := Lib.hid ho1; have HG1 := Lib.hid hg1; clear ho1 hg1)
  go_ret
  refine ⟨_, rfl, ?_, ?_⟩
  · have := HO.out; simpa using this
  · exact ((Below.refl _ _).alloc (Nat.le_refl _) _).grown HG1.out (by simp) (fun g hg => by have := HE.out.lt g hg; omega)

theorem step_append_piece {P : Program} {ops : Array Oper} {o : Oper} {a : Act} {K : Act → World → Prop} {Q : Exit → Act → World → Prop} {E : Prop} {t e : TypeId} {bytes : Nat}
    (ht : P.underlying t = some (.slice e)) (hinfo : (P.info? e).map (fun i => (i.zero, i.size, i.bytes)) = some (some (.int .i64 0), 1, bytes)) (hby : bytes ≤ 64)
    (w : World) (hgd : o.guard = none) {s : Operand} (x : Operand) (ho : o.op = .call { callee := .builtin .append, args := #[s, x], argTypes := #[t, t] })
    {base : Nat} {v : Value} {zs : List Int} (hown : OwnI w base e v zs) (hs : a.eval s = v) (ys : List Int) {b off m c : Nat} (hx : a.eval x = .slice (some ⟨b, off, none⟩) m c)
    (hm : ys.length = m) (hcell : ∀ j, j < m → w.cell? ⟨b, off + j, none⟩ = some (.int .i64 (nth ys j))) (hlen : zs.length + m ≤ 1099511627776) (hbase : base ≤ w.heap.size)
    (h : ∀ v' w', OwnI w' base e v' (zs ++ ys) → w.grownBy w' v.ownBlock → K (a.put o.dst v') w') :
    if Region.wanted o (yielded ops a.tmps) = true then Oper.wp P o a w K Q else E := by
  have hw : Region.wanted o (yielded ops a.tmps) = true := by simp [Region.wanted, hgd]
  rw [if_pos hw]
  obtain ⟨i, hi, hzz⟩ := Option.map_eq_some_iff.1 hinfo
  simp only [Prod.mk.injEq] at hzz
  obtain ⟨hz, hsz2, hb⟩ := hzz
  subst hm
  have hnews : ∀ j u, (ys.map (Value.int .i64))[j]? = some u → w.cell? ((⟨b, off, none⟩ : Addr).add j) = some u := fun j u hj => by
    rw [List.getElem?_map] at hj
    obtain ⟨z, hz, rfl⟩ := Option.map_eq_some_iff.1 hj
    have hjl := (List.getElem?_eq_some_iff.1 hz).1
    rw [Go.WideShapes.add_plain b off j, hcell j hjl, nth_eq hjl, (List.getElem?_eq_some_iff.1 hz).2]
  obtain ⟨v', w', hr, a1, a2, _, a4⟩ := run_append_own_at (P := P) w base t o.type e i (.int .i64 0) 1 bytes ht hi hz hsz2 hb rfl (by omega) v (zs.map (Value.int .i64)).length (zs.map (Value.int .i64)) hown ⟨b, off, none⟩ ys.length c (ys.map (Value.int .i64)) (by simp) hnews (by simp [Value.oneCell']) (by unfold maxLen; simp; omega) (by
    have : ((zs.map (Value.int .i64)).length + ys.length) * bytes ≤ 1099511627776 * 64 := Nat.mul_le_mul (by simpa using hlen) hby
    omega) hbase
  have h3 := h v' w' (by unfold OwnI Own; rw [List.map_append]; simpa using a1) a2
  unfold Oper.wp execOp
  simp only [ho, resolve, invoke, builtin, Sem.run_bind, Sem.run_pure, Result.andThen_ok, List.map_toArray, List.map_cons, List.map_nil, hs, hx, hr]
  exact h3
theorem place_end {ms : List Nat} {k : Nat} {x : List Int} (h : ms.length ≤ k) : placeB (ms.drop k) x = true := by rw [List.drop_eq_nil_of_le h]; rfl
theorem place_at {ms : List Nat} {k : Nat} {x : List Int} (h : k < ms.length) : placeB (ms.drop k) x = (List.range x.length).any fun j => !(decide (0 < j) && decide (nth x (j - 1) = nth x j)) && ((ms.getD k 0).testBit (nth x j).toNat && placeB (ms.drop (k + 1)) (cutJ x j)) := by
  rw [List.drop_eq_getElem_cons h, show ms.getD k 0 = ms[k] by simp [h]]
  rfl
theorem any_yes {n j : Nat} {p : Nat → Bool} (hj : j < n) (h : p j = true) : (List.range n).any p = true := List.any_eq_true.2 ⟨j, List.mem_range.2 hj, h⟩
theorem any_no {n : Nat} {p : Nat → Bool} (h : ∀ j, j < n → p j = false) : (List.range n).any p = false := by
  rw [Bool.eq_false_iff]
  intro ha
  obtain ⟨j, hj, e⟩ := List.any_eq_true.1 ha
  rw [h j (List.mem_range.1 hj)] at e
  cases e
theorem cutJ_mem {x : List Int} {j : Nat} {a : Int} (h : a ∈ cutJ x j) : a ∈ x := by
  unfold cutJ at h
  rcases List.mem_append.1 h with h | h
  · exact List.mem_of_mem_take h
  · exact List.mem_of_mem_drop h

set_option maxHeartbeats 4000000 in
set_option maxRecDepth 100000 in
theorem soPlace_step (v1 : Value) (x : List Int) (lo1 hi1 : Nat) (v2 : Value) (zm : List Int) (lo2 hi2 : Nat) (k : Nat) (w : World) (h1 : IntS w lo1 hi1 v1 x) (hh1 : hi1 ≤ w.heap.size) (h2 : IntS w lo2 hi2 v2 zm) (hh2 : hi2 ≤ w.heap.size) (ms : List Nat) (hz : zm = ms.map fun (m : Nat) => (m : Int)) (hk : k ≤ ms.length) (hms : ∀ m ∈ ms, m < 1000000) (hx : ∀ a ∈ x, 0 ≤ a ∧ a ≤ 60) (hxl : x.length ≤ 1000) (ih : k < ms.length → ∀ (v : Value) (y : List Int) (lo hi : Nat) (W : World), IntS W lo hi v y → hi ≤ W.heap.size → IntS W lo2 hi2 v2 zm → hi2 ≤ W.heap.size → (∀ a ∈ y, 0 ≤ a ∧ a ≤ 60) → y.length ≤ 1000 → Calls Tryz.prog 75 #[v, v2, .int .i64 ((k + 1 : Nat) : Int)] W fun e w' => e = .returned (.bool (placeB (ms.drop (k + 1)) y)) ∧ Below W.heap.size W w') :
    Calls Tryz.prog 75 #[v1, v2, .int .i64 (k : Nat)] w fun e w' => e = .returned (.bool (placeB (ms.drop k) x)) ∧ Below w.heap.size w w' := by
  have HZM := Lib.hid hz; clear hz
  have HIH := Lib.hid ih; clear ih
  have HXB := Lib.hid hx; clear hx
  have HMB := Lib.hid hms; clear hms
  have HML := Lib.hid (show zm.length = ms.length by rw [HZM.out, List.length_map])
  have F1 := Lib.hid h1
  obtain ⟨A1, c1, rfl, hc1, hd1⟩ := h1.dims
  clear h1
  have F2 := Lib.hid h2
  obtain ⟨A2, c2, rfl, hc2, hd2⟩ := h2.dims
  clear h2
  go_enter Tryz.func75, Tryz.ntmps75
  by_cases hkl : k < ms.length
  case neg =>
    have hke : ((k : Nat) : Int) = zm.length := by rw [HML.out]; omega
    have HR := Lib.hid (place_end (x := x) (show ms.length ≤ k by omega))
    go_wp2_with fail
    go_ret
    exact ⟨ret_bool HR.out.symm, (Below.refl _ _)⟩
  have hke : (((k : Nat) : Int) == ((zm.length : Nat) : Int)) = false := by rw [HML.out]; simp; omega
  have HPA := Lib.hid (place_at (x := x) hkl)
  obtain ⟨mk, HMK⟩ : ∃ m, Hid (ms.getD k 0 = m) := ⟨_, Lib.hid rfl⟩
  have hmk : mk < 1000000 := by rw [← HMK.out]; exact HMB.out _ (by rw [show ms.getD k 0 = ms[k] by simp [hkl]]; exact List.getElem_mem hkl)
  have HZK := Lib.hid (show nth zm k = (mk : Int) by rw [HZM.out, ← HMK.out, nth_eq (by simpa using hkl)]; simp [hkl])
  rw [HMK.out] at HPA
  go_wp2_with fail
  go_loopw [15] (fun jv wr => ∃ (j : Nat), j ≤ x.length ∧ jv = .int .i64 j ∧ Hid (∀ i, i < j → (!(decide (0 < i) && decide (nth x (i - 1) = nth x i)) && (mk.testBit (nth x i).toNat && placeB (ms.drop (k + 1)) (cutJ x i))) = false) ∧ Hid (Turned w.heap.size w.heap.size w wr)) (fun jv _ => x.length - (intOf jv).toNat)
  case atStart => exact ⟨0, Nat.zero_le _, rfl, Lib.hid (fun i hi => absurd hi (by omega)), Lib.hid (Turned.refl w.heap.size w.heap.size w)⟩
  case round =>
    obtain ⟨j, hj, rfl, HNO, HF1⟩ := hrel
    have hs1 := HF1.out.size
    obtain ⟨wq, rfl⟩ : ∃ wq : World, wq = wr := ⟨_, rfl⟩
    by_cases hjl : j < x.length
    case neg =>
      have HR := Lib.hid (show placeB (ms.drop k) x = false by rw [HPA.out]; exact any_no fun i hi => HNO.out i (by omega))
      go_wp2_with fail
      go_ret
      exact ⟨ret_bool HR.out.symm, (HF1.out.below_of (Below.refl _ _) (by omega) (by omega))⟩
    have hji : (j : Int) < x.length := by omega
    have hxj := HXB.out (nth x j) (by rw [nth_eq hjl]; exact List.getElem_mem hjl)
    obtain ⟨a, HA⟩ : ∃ a : Nat, Hid (nth x j = (a : Int)) := ⟨(nth x j).toNat, Lib.hid (by omega)⟩
    have ha60 : a ≤ 60 := by have := HA.out; omega
    have HAN := Lib.hid (show (nth x j).toNat = a by rw [HA.out]; rfl)
    clear hxj
    obtain ⟨bj, oj, rfl, _, hbj', xj, _⟩ := (IntS.turned F1.out HF1.out (by omega) (by omega)).opened hjl
    rw [HA.out] at xj
    obtain ⟨bk, ok, rfl, _, hbk', xk, _⟩ := (IntS.turned F2.out HF1.out (by omega) (by omega)).opened (show k < zm.length by rw [HML.out]; exact hkl)
    rw [HZK.out] at xk
    have hkz : ((k : Nat) : Int) < zm.length := by rw [HML.out]; omega
    by_cases hj0 : j = 0
    case pos =>
      have hj0i : ¬ (0 : Int) < (j : Int) := by omega
      have HJ0 := Lib.hid hj0; clear hj0
      have HNE := Lib.hid (show (decide (0 < j) && decide (nth x (j - 1) = nth x j)) = false by rw [HJ0.out]; rfl)
      go_wp2_with fail
      refine (soIn_any mk a _ hmk (by omega)).mono ?_
      rintro e w' ⟨rfl, rfl⟩
      cases hb : mk.testBit a with
      | false =>
        have HB := Lib.hid hb; clear hb
        have HNN := Lib.hid (below_succY (p := fun i => (!(decide (0 < i) && decide (nth x (i - 1) = nth x i)) && (mk.testBit (nth x i).toNat && placeB (ms.drop (k + 1)) (cutJ x i))) = false) HNO.out (by rw [HAN.out, HB.out]; simp))
        go_wp2_with fail
        go_roundw
        case rel => exact ⟨j + 1, by omega, by go_num, HNN, HF1⟩
        case measure => simp [intOf]; omega
      | true =>
        have HB := Lib.hid hb; clear hb
        go_upto_region 7 with (fail)
        have hcj : (j : Int) ≤ c1 := by omega
        have hj1 : (j : Int) + 1 ≤ x.length := by omega
        have hj1z : (0 : Int) ≤ (j : Int) + 1 := by omega
        have hwj : IntKind.i64.wrap ((j : Int) + 1) = ((j + 1 : Nat) : Int) := by rw [IntWalk.i64_in _ (by omega)]; omega
        have hwk : IntKind.i64.wrap ((k : Int) + 1) = ((k + 1 : Nat) : Int) := by rw [IntWalk.i64_in _ (by have := HML.out; omega)]; omega
        have HCX := Lib.hid (show ∀ i, i < x.length → w.cell? ⟨bj, oj + i, none⟩ = some (.int .i64 (nth x i)) from fun i hi => (F1.out.at_ hi).1)
        obtain ⟨o2, HO2, HC2⟩ : ∃ o2, Hid ((if c1 = j + 1 then some (⟨bj, oj, none⟩ : Addr) else some ⟨bj, oj + (j + 1), none⟩) = some ⟨bj, o2, none⟩) ∧ Hid (∀ i, i < x.length - (j + 1) → w.cell? ⟨bj, o2 + i, none⟩ = some (.int .i64 (nth (x.drop (j + 1)) i))) := by
          by_cases h : c1 = j + 1
          · exact ⟨oj, Lib.hid (by rw [if_pos h]), Lib.hid (fun i hi => absurd hi (by omega))⟩
          · exact ⟨oj + (j + 1), Lib.hid (by rw [if_neg h]), Lib.hid (fun i hi => by rw [nth_drop, Nat.add_assoc]; exact HCX.out _ (by omega))⟩
        obtain ⟨m2, HM2⟩ : ∃ m, Hid (x.length - (j + 1) = m) := ⟨_, Lib.hid rfl⟩
        have HTL := Lib.hid (show (x.take j).length = j by simp; omega)
        refine wp_region_U (fun w' => w'.cell? ⟨bj, oj + j, none⟩ = some (.int .i64 (a : Nat))) [] (by kernel_rfl) ?_
        refine nameU ?_
        intro W2 HW2
        have hg2 : wq.grownBy W2 none := by rw [HW2.out]; exact grown_drew _
        clear HW2
        have hs2 := hg2.size
        have HF2 := Lib.hid (HF1.out.still hg2); clear HF1
        have hS3 : W2.cell? ⟨bj, oj + j, none⟩ = some (.int .i64 (a : Nat)) := (by have h := ((IntS.turned F1.out HF2.out (by omega) (by omega)).at_ hjl).1; rw [HA.out] at h; exact h)
        refine anyU_take (i := 0) (v := .slice (some ⟨bj, oj, none⟩) x.length c1) rfl (by kernel_rfl) (by kernel_rfl) (by kernel_rfl) (fun _ _ _ h => h) ⟨by rfl, fun w' hS' => (by have s1 := hS'; go_simp)⟩ hS3 ?_
        simp only [List.getElem_toArray, List.getElem_cons_zero, Act.put, List.setIfInBounds_toArray, List.set_cons_zero, List.set_cons_succ]
        refine anyU_take (i := 1) (v := .int .i64 (j : Nat)) rfl (by kernel_rfl) (by kernel_rfl) (by kernel_rfl) (fun _ _ _ h => h) ⟨by rfl, fun w' hS' => (by have s1 := hS'; go_simp)⟩ hS3 ?_
        simp only [List.getElem_toArray, List.getElem_cons_succ, List.getElem_cons_zero, Act.put, List.setIfInBounds_toArray, List.set_cons_zero, List.set_cons_succ]
        refine anyU_take (i := 2) (v := .slice (some ⟨bj, oj, none⟩) j c1) rfl (by kernel_rfl) (by kernel_rfl) (by kernel_rfl) (fun _ _ _ h => h) ⟨by rfl, fun w' hS' => (by have s1 := hS'; go_simp)⟩ hS3 ?_
        simp only [List.getElem_toArray, List.getElem_cons_succ, List.getElem_cons_zero, Act.put, List.setIfInBounds_toArray, List.set_cons_zero, List.set_cons_succ]
        refine anyU_take (i := 4) (v := .slice (some ⟨bj, oj, none⟩) x.length c1) rfl (by kernel_rfl) (by kernel_rfl) (by kernel_rfl) (fun _ _ _ h => h) ⟨by rfl, fun w' hS' => (by have s1 := hS'; go_simp)⟩ hS3 ?_
        simp only [List.getElem_toArray, List.getElem_cons_succ, List.getElem_cons_zero, Act.put, List.setIfInBounds_toArray, List.set_cons_zero, List.set_cons_succ]
        refine anyU_take (i := 5) (v := .int .i64 (j : Nat)) rfl (by kernel_rfl) (by kernel_rfl) (by kernel_rfl) (fun _ _ _ h => h) ⟨by rfl, fun w' hS' => (by have s1 := hS'; go_simp)⟩ hS3 ?_
        simp only [List.getElem_toArray, List.getElem_cons_succ, List.getElem_cons_zero, Act.put, List.setIfInBounds_toArray, List.set_cons_zero, List.set_cons_succ]
        refine anyU_take (i := 6) (v := .int .i64 ((j + 1 : Nat) : Int)) rfl (by kernel_rfl) (by kernel_rfl) (by kernel_rfl) (fun _ _ _ h => h) ⟨by rfl, fun w' hS' => (by have s1 := hS'; go_simp)⟩ hS3 ?_
        simp only [List.getElem_toArray, List.getElem_cons_succ, List.getElem_cons_zero, Act.put, List.setIfInBounds_toArray, List.set_cons_zero, List.set_cons_succ]
        refine anyU_take (i := 9) (v := .slice (some ⟨bk, ok, none⟩) zm.length c2) rfl (by kernel_rfl) (by kernel_rfl) (by kernel_rfl) (fun _ _ _ h => h) ⟨by rfl, fun w' hS' => (by have s1 := hS'; go_simp)⟩ hS3 ?_
        simp only [List.getElem_toArray, List.getElem_cons_succ, List.getElem_cons_zero, Act.put, List.setIfInBounds_toArray, List.set_cons_zero, List.set_cons_succ]
        refine anyU_take (i := 10) (v := .int .i64 (k : Nat)) rfl (by kernel_rfl) (by kernel_rfl) (by kernel_rfl) (fun _ _ _ h => h) ⟨by rfl, fun w' hS' => (by have s1 := hS'; go_simp)⟩ hS3 ?_
        simp only [List.getElem_toArray, List.getElem_cons_succ, List.getElem_cons_zero, Act.put, List.setIfInBounds_toArray, List.set_cons_zero, List.set_cons_succ]
        refine anyU_take (i := 11) (v := .int .i64 ((k + 1 : Nat) : Int)) rfl (by kernel_rfl) (by kernel_rfl) (by kernel_rfl) (fun _ _ _ h => h) ⟨by rfl, fun w' hS' => (by have s1 := hS'; go_simp)⟩ hS3 ?_
        simp only [List.getElem_toArray, List.getElem_cons_succ, List.getElem_cons_zero, Act.put, List.setIfInBounds_toArray, List.set_cons_zero, List.set_cons_succ]
        refine anyU_take (i := 7) (v := .slice (some ⟨bj, o2, none⟩) m2 (c1 - (j + 1))) rfl (by kernel_rfl) (by kernel_rfl) (by kernel_rfl) (fun _ _ _ h => h) ⟨by rfl, fun w' hS' => (by have s1 := hS'; go_simp; first | exact ⟨HO2.out, HM2.out⟩ | (rw [HO2.out, HM2.out]) | trace_state)⟩ hS3 ?_
        simp only [List.getElem_toArray, List.getElem_cons_succ, List.getElem_cons_zero, Act.put, List.setIfInBounds_toArray, List.set_cons_zero, List.set_cons_succ]
        refine anyU_ready (rs := [3]) (by kernel_rfl) (by simp) ?_
        refine ReadyU.cons (i := 3) rfl (fun K hK => ?_) ReadyU.nil
        simp only [List.getElem_toArray, List.getElem_cons_succ, List.getElem_cons_zero]
        refine ite_is (by rfl) ?_
        simp [go_sem]
        refine (l1OwnO_any bj oj j c1 (x.take j) HTL.out _ (fun i hi => by rw [nth_take hi]; exact (HF2.out.cell (by omega) (by omega)).trans (HCX.out i (by omega))) (by have := HF2.out.size; omega) (by omega)).mono ?_
        rintro e W4 ⟨r7, rfl, hr7, hb4⟩
        have hg4 := grown_below hb4; clear hb4
        have hs4 := hg4.size
        have HF4 := Lib.hid (HF2.out.still hg4); clear HF2
        have O4 := Lib.hid hr7; clear hr7
        have LO := Lib.hid O4.out.lt
        have hS5 : W4.cell? ⟨bj, oj + j, none⟩ = some (.int .i64 (a : Nat)) := (by have h := ((IntS.turned F1.out HF4.out (by omega) (by omega)).at_ hjl).1; rw [HA.out] at h; exact h)
        refine hK.out _ _ ⟨fun _ => hS5, ?_⟩
        clear hK K hS3
        try simp only [List.getElem_toArray, List.getElem_cons_succ, List.getElem_cons_zero, Act.put, List.setIfInBounds_toArray, List.set_cons_zero, List.set_cons_succ]
        refine anyU_ready (rs := [8]) (by kernel_rfl) (by simp) ?_
        refine ReadyU.cons (i := 8) rfl (fun K hK => ?_) ReadyU.nil
        skip
        refine step_append_piece Tryz.underlying26 Tryz.info3 (by decide) W4 (by rfl) _ (by rfl) O4.out (by rfl) (x.drop (j + 1)) (b := bj) (off := o2) (m := m2) (c := c1 - (j + 1)) (by rfl) (by rw [List.length_drop]; exact HM2.out) (fun i hi => (HF4.out.cell (by omega) (by omega)).trans (HC2.out i (by rw [HM2.out]; exact hi))) (by rw [HTL.out]; have := HM2.out; omega) (by omega) ?_
        intro r8 W6 hown hg6
        have hs6 := hg6.size
        have HF6 := Lib.hid (HF4.out.grown hg6 (fun g hg => .inr (by have := LO.out g hg; omega))); clear HF4
        have HOO := Lib.hid (show OwnI W6 _ _ r8 (cutJ x j) from hown)
        clear hown LO O4
        have hS7 : W6.cell? ⟨bj, oj + j, none⟩ = some (.int .i64 (a : Nat)) := (by have h := ((IntS.turned F1.out HF6.out (by omega) (by omega)).at_ hjl).1; rw [HA.out] at h; exact h)
        refine hK.out _ _ ⟨fun _ => hS7, ?_⟩
        clear hK K hS5
        try simp only [List.getElem_toArray, List.getElem_cons_succ, List.getElem_cons_zero, Act.put, List.setIfInBounds_toArray, List.set_cons_zero, List.set_cons_succ]
        refine anyU_ready (rs := [12]) (by kernel_rfl) (by simp) ?_
        refine ReadyU.cons (i := 12) rfl (fun K hK => ?_) ReadyU.nil
        simp only [List.getElem_toArray, List.getElem_cons_succ, List.getElem_cons_zero]
        refine ite_is (by rfl) ?_
        simp [go_sem]
        have HCL := Lib.hid (cutJ_len hjl)
        obtain ⟨pb, HPB⟩ : ∃ z, Hid (placeB (ms.drop (k + 1)) (cutJ x j) = z) := ⟨_, Lib.hid rfl⟩
        refine (HIH.out hkl _ (cutJ x j) _ _ _ HOO.out.ints (Nat.le_refl _) (IntS.turned F2.out HF6.out (by omega) (by omega)) (by omega) (fun a ha => HXB.out a (cutJ_mem ha)) (by rw [HCL.out]; omega)).mono ?_
        rintro e W8 ⟨rfl, hb8⟩
        have hg8 := grown_below hb8; clear hb8
        have hs8 := hg8.size
        have HF8 := Lib.hid (HF6.out.still hg8); clear HF6
        have O8 := Lib.hid (OwnI.still HOO.out hg8); clear HOO
        rw [HPB.out]
        have hS9 : W8.cell? ⟨bj, oj + j, none⟩ = some (.int .i64 (a : Nat)) := (by have h := ((IntS.turned F1.out HF8.out (by omega) (by omega)).at_ hjl).1; rw [HA.out] at h; exact h)
        refine hK.out _ _ ⟨fun _ => hS9, ?_⟩
        clear hK K hS7
        try simp only [List.getElem_toArray, List.getElem_cons_succ, List.getElem_cons_zero, Act.put, List.setIfInBounds_toArray, List.set_cons_zero, List.set_cons_succ]
        clear hS9
        refine anyU_done (by kernel_rfl) ?_ _
        cases pb with
        | true =>
          have HR := Lib.hid (show placeB (ms.drop k) x = true by rw [HPA.out]; exact any_yes hjl (by rw [HNE.out, HAN.out, HB.out, HPB.out]; rfl))
          go_wp2_with fail
          go_ret
          exact ⟨ret_bool HR.out.symm, (HF8.out.below_of (Below.refl _ _) (by omega) (by omega))⟩
        | false =>
          have HNN := Lib.hid (below_succY (p := fun i => (!(decide (0 < i) && decide (nth x (i - 1) = nth x i)) && (mk.testBit (nth x i).toNat && placeB (ms.drop (k + 1)) (cutJ x i))) = false) HNO.out (by rw [HPB.out]; simp))
          go_wp2_with fail
          go_roundw
          case rel => exact ⟨j + 1, by omega, by go_num, HNN, HF8⟩
          case measure => simp [intOf]; omega
    obtain ⟨p, HP⟩ : ∃ p, Hid (j - 1 = p) := ⟨_, Lib.hid rfl⟩
    have hj0i : (0 : Int) < (j : Int) := by omega
    have hjp : (j : Int) - 1 = (p : Int) := by have := HP.out; omega
    have hwp : IntKind.i64.wrap ((j : Int) - 1) = (p : Int) := by rw [hjp]; exact IntWalk.i64_in _ (by omega)
    have hpl : p < x.length := by have := HP.out; omega
    have hpi : (p : Int) < x.length := by omega
    clear hjp
    have xp := ((IntS.turned F1.out HF1.out (by omega) (by omega)).at_ hpl).1
    obtain ⟨y, HY⟩ : ∃ y, Hid (nth x p = y) := ⟨_, Lib.hid rfl⟩
    rw [HY.out] at xp
    by_cases hya : y = (a : Int)
    case pos =>
      have hyb : (y == (a : Int)) = true := by simpa using hya
      have HYA := Lib.hid hya; clear hya
      have HJ0 := Lib.hid hj0; clear hj0
      have HNN := Lib.hid (below_succY (p := fun i => (!(decide (0 < i) && decide (nth x (i - 1) = nth x i)) && (mk.testBit (nth x i).toNat && placeB (ms.drop (k + 1)) (cutJ x i))) = false) HNO.out (by rw [HP.out, HY.out, HA.out, HYA.out]; simp; intro h; exact absurd h (by have := HJ0.out; omega)))
      go_wp2_with fail
      go_roundw
      case rel => exact ⟨j + 1, by omega, by go_num, HNN, HF1⟩
      case measure => simp [intOf]; omega
    have hyb : (y == (a : Int)) = false := by simpa using hya
    have HYA := Lib.hid hya; clear hya
    have HNE := Lib.hid (show (decide (0 < j) && decide (nth x (j - 1) = nth x j)) = false by rw [HP.out, HY.out, HA.out]; simp; intro _; exact HYA.out)
    go_wp2_with fail
    refine (soIn_any mk a _ hmk (by omega)).mono ?_
    rintro e w' ⟨rfl, rfl⟩
    cases hb : mk.testBit a with
    | false =>
      have HB := Lib.hid hb; clear hb
      have HNN := Lib.hid (below_succY (p := fun i => (!(decide (0 < i) && decide (nth x (i - 1) = nth x i)) && (mk.testBit (nth x i).toNat && placeB (ms.drop (k + 1)) (cutJ x i))) = false) HNO.out (by rw [HAN.out, HB.out]; simp))
      go_wp2_with fail
      go_roundw
      case rel => exact ⟨j + 1, by omega, by go_num, HNN, HF1⟩
      case measure => simp [intOf]; omega
    | true =>
      have HB := Lib.hid hb; clear hb
      go_upto_region 7 with (fail)
      have hcj : (j : Int) ≤ c1 := by omega
      have hj1 : (j : Int) + 1 ≤ x.length := by omega
      have hj1z : (0 : Int) ≤ (j : Int) + 1 := by omega
      have hwj : IntKind.i64.wrap ((j : Int) + 1) = ((j + 1 : Nat) : Int) := by rw [IntWalk.i64_in _ (by omega)]; omega
      have hwk : IntKind.i64.wrap ((k : Int) + 1) = ((k + 1 : Nat) : Int) := by rw [IntWalk.i64_in _ (by have := HML.out; omega)]; omega
      have HCX := Lib.hid (show ∀ i, i < x.length → w.cell? ⟨bj, oj + i, none⟩ = some (.int .i64 (nth x i)) from fun i hi => (F1.out.at_ hi).1)
      obtain ⟨o2, HO2, HC2⟩ : ∃ o2, Hid ((if c1 = j + 1 then some (⟨bj, oj, none⟩ : Addr) else some ⟨bj, oj + (j + 1), none⟩) = some ⟨bj, o2, none⟩) ∧ Hid (∀ i, i < x.length - (j + 1) → w.cell? ⟨bj, o2 + i, none⟩ = some (.int .i64 (nth (x.drop (j + 1)) i))) := by
        by_cases h : c1 = j + 1
        · exact ⟨oj, Lib.hid (by rw [if_pos h]), Lib.hid (fun i hi => absurd hi (by omega))⟩
        · exact ⟨oj + (j + 1), Lib.hid (by rw [if_neg h]), Lib.hid (fun i hi => by rw [nth_drop, Nat.add_assoc]; exact HCX.out _ (by omega))⟩
      obtain ⟨m2, HM2⟩ : ∃ m, Hid (x.length - (j + 1) = m) := ⟨_, Lib.hid rfl⟩
      have HTL := Lib.hid (show (x.take j).length = j by simp; omega)
      refine wp_region_U (fun w' => w'.cell? ⟨bj, oj + j, none⟩ = some (.int .i64 (a : Nat))) [] (by kernel_rfl) ?_
      refine nameU ?_
      intro W10 HW10
      have hg10 : wq.grownBy W10 none := by rw [HW10.out]; exact grown_drew _
      clear HW10
      have hs10 := hg10.size
      have HF10 := Lib.hid (HF1.out.still hg10); clear HF1
      have hS11 : W10.cell? ⟨bj, oj + j, none⟩ = some (.int .i64 (a : Nat)) := (by have h := ((IntS.turned F1.out HF10.out (by omega) (by omega)).at_ hjl).1; rw [HA.out] at h; exact h)
      refine anyU_take (i := 0) (v := .slice (some ⟨bj, oj, none⟩) x.length c1) rfl (by kernel_rfl) (by kernel_rfl) (by kernel_rfl) (fun _ _ _ h => h) ⟨by rfl, fun w' hS' => (by have s1 := hS'; go_simp)⟩ hS11 ?_
      simp only [List.getElem_toArray, List.getElem_cons_zero, Act.put, List.setIfInBounds_toArray, List.set_cons_zero, List.set_cons_succ]
      refine anyU_take (i := 1) (v := .int .i64 (j : Nat)) rfl (by kernel_rfl) (by kernel_rfl) (by kernel_rfl) (fun _ _ _ h => h) ⟨by rfl, fun w' hS' => (by have s1 := hS'; go_simp)⟩ hS11 ?_
      simp only [List.getElem_toArray, List.getElem_cons_succ, List.getElem_cons_zero, Act.put, List.setIfInBounds_toArray, List.set_cons_zero, List.set_cons_succ]
      refine anyU_take (i := 2) (v := .slice (some ⟨bj, oj, none⟩) j c1) rfl (by kernel_rfl) (by kernel_rfl) (by kernel_rfl) (fun _ _ _ h => h) ⟨by rfl, fun w' hS' => (by have s1 := hS'; go_simp)⟩ hS11 ?_
      simp only [List.getElem_toArray, List.getElem_cons_succ, List.getElem_cons_zero, Act.put, List.setIfInBounds_toArray, List.set_cons_zero, List.set_cons_succ]
      refine anyU_take (i := 4) (v := .slice (some ⟨bj, oj, none⟩) x.length c1) rfl (by kernel_rfl) (by kernel_rfl) (by kernel_rfl) (fun _ _ _ h => h) ⟨by rfl, fun w' hS' => (by have s1 := hS'; go_simp)⟩ hS11 ?_
      simp only [List.getElem_toArray, List.getElem_cons_succ, List.getElem_cons_zero, Act.put, List.setIfInBounds_toArray, List.set_cons_zero, List.set_cons_succ]
      refine anyU_take (i := 5) (v := .int .i64 (j : Nat)) rfl (by kernel_rfl) (by kernel_rfl) (by kernel_rfl) (fun _ _ _ h => h) ⟨by rfl, fun w' hS' => (by have s1 := hS'; go_simp)⟩ hS11 ?_
      simp only [List.getElem_toArray, List.getElem_cons_succ, List.getElem_cons_zero, Act.put, List.setIfInBounds_toArray, List.set_cons_zero, List.set_cons_succ]
      refine anyU_take (i := 6) (v := .int .i64 ((j + 1 : Nat) : Int)) rfl (by kernel_rfl) (by kernel_rfl) (by kernel_rfl) (fun _ _ _ h => h) ⟨by rfl, fun w' hS' => (by have s1 := hS'; go_simp)⟩ hS11 ?_
      simp only [List.getElem_toArray, List.getElem_cons_succ, List.getElem_cons_zero, Act.put, List.setIfInBounds_toArray, List.set_cons_zero, List.set_cons_succ]
      refine anyU_take (i := 9) (v := .slice (some ⟨bk, ok, none⟩) zm.length c2) rfl (by kernel_rfl) (by kernel_rfl) (by kernel_rfl) (fun _ _ _ h => h) ⟨by rfl, fun w' hS' => (by have s1 := hS'; go_simp)⟩ hS11 ?_
      simp only [List.getElem_toArray, List.getElem_cons_succ, List.getElem_cons_zero, Act.put, List.setIfInBounds_toArray, List.set_cons_zero, List.set_cons_succ]
      refine anyU_take (i := 10) (v := .int .i64 (k : Nat)) rfl (by kernel_rfl) (by kernel_rfl) (by kernel_rfl) (fun _ _ _ h => h) ⟨by rfl, fun w' hS' => (by have s1 := hS'; go_simp)⟩ hS11 ?_
      simp only [List.getElem_toArray, List.getElem_cons_succ, List.getElem_cons_zero, Act.put, List.setIfInBounds_toArray, List.set_cons_zero, List.set_cons_succ]
      refine anyU_take (i := 11) (v := .int .i64 ((k + 1 : Nat) : Int)) rfl (by kernel_rfl) (by kernel_rfl) (by kernel_rfl) (fun _ _ _ h => h) ⟨by rfl, fun w' hS' => (by have s1 := hS'; go_simp)⟩ hS11 ?_
      simp only [List.getElem_toArray, List.getElem_cons_succ, List.getElem_cons_zero, Act.put, List.setIfInBounds_toArray, List.set_cons_zero, List.set_cons_succ]
      refine anyU_take (i := 7) (v := .slice (some ⟨bj, o2, none⟩) m2 (c1 - (j + 1))) rfl (by kernel_rfl) (by kernel_rfl) (by kernel_rfl) (fun _ _ _ h => h) ⟨by rfl, fun w' hS' => (by have s1 := hS'; go_simp; first | exact ⟨HO2.out, HM2.out⟩ | (rw [HO2.out, HM2.out]) | trace_state)⟩ hS11 ?_
      simp only [List.getElem_toArray, List.getElem_cons_succ, List.getElem_cons_zero, Act.put, List.setIfInBounds_toArray, List.set_cons_zero, List.set_cons_succ]
      refine anyU_ready (rs := [3]) (by kernel_rfl) (by simp) ?_
      refine ReadyU.cons (i := 3) rfl (fun K hK => ?_) ReadyU.nil
      simp only [List.getElem_toArray, List.getElem_cons_succ, List.getElem_cons_zero]
      refine ite_is (by rfl) ?_
      simp [go_sem]
      refine (l1OwnO_any bj oj j c1 (x.take j) HTL.out _ (fun i hi => by rw [nth_take hi]; exact (HF10.out.cell (by omega) (by omega)).trans (HCX.out i (by omega))) (by have := HF10.out.size; omega) (by omega)).mono ?_
      rintro e W12 ⟨r7, rfl, hr7, hb12⟩
      have hg12 := grown_below hb12; clear hb12
      have hs12 := hg12.size
      have HF12 := Lib.hid (HF10.out.still hg12); clear HF10
      have O12 := Lib.hid hr7; clear hr7
      have LO := Lib.hid O12.out.lt
      have hS13 : W12.cell? ⟨bj, oj + j, none⟩ = some (.int .i64 (a : Nat)) := (by have h := ((IntS.turned F1.out HF12.out (by omega) (by omega)).at_ hjl).1; rw [HA.out] at h; exact h)
      refine hK.out _ _ ⟨fun _ => hS13, ?_⟩
      clear hK K hS11
      try simp only [List.getElem_toArray, List.getElem_cons_succ, List.getElem_cons_zero, Act.put, List.setIfInBounds_toArray, List.set_cons_zero, List.set_cons_succ]
      refine anyU_ready (rs := [8]) (by kernel_rfl) (by simp) ?_
      refine ReadyU.cons (i := 8) rfl (fun K hK => ?_) ReadyU.nil
      skip
      refine step_append_piece Tryz.underlying26 Tryz.info3 (by decide) W12 (by rfl) _ (by rfl) O12.out (by rfl) (x.drop (j + 1)) (b := bj) (off := o2) (m := m2) (c := c1 - (j + 1)) (by rfl) (by rw [List.length_drop]; exact HM2.out) (fun i hi => (HF12.out.cell (by omega) (by omega)).trans (HC2.out i (by rw [HM2.out]; exact hi))) (by rw [HTL.out]; have := HM2.out; omega) (by omega) ?_
      intro r8 W14 hown hg14
      have hs14 := hg14.size
      have HF14 := Lib.hid (HF12.out.grown hg14 (fun g hg => .inr (by have := LO.out g hg; omega))); clear HF12
      have HOO := Lib.hid (show OwnI W14 _ _ r8 (cutJ x j) from hown)
      clear hown LO O12
      have hS15 : W14.cell? ⟨bj, oj + j, none⟩ = some (.int .i64 (a : Nat)) := (by have h := ((IntS.turned F1.out HF14.out (by omega) (by omega)).at_ hjl).1; rw [HA.out] at h; exact h)
      refine hK.out _ _ ⟨fun _ => hS15, ?_⟩
      clear hK K hS13
      try simp only [List.getElem_toArray, List.getElem_cons_succ, List.getElem_cons_zero, Act.put, List.setIfInBounds_toArray, List.set_cons_zero, List.set_cons_succ]
      refine anyU_ready (rs := [12]) (by kernel_rfl) (by simp) ?_
      refine ReadyU.cons (i := 12) rfl (fun K hK => ?_) ReadyU.nil
      simp only [List.getElem_toArray, List.getElem_cons_succ, List.getElem_cons_zero]
      refine ite_is (by rfl) ?_
      simp [go_sem]
      have HCL := Lib.hid (cutJ_len hjl)
      obtain ⟨pb, HPB⟩ : ∃ z, Hid (placeB (ms.drop (k + 1)) (cutJ x j) = z) := ⟨_, Lib.hid rfl⟩
      refine (HIH.out hkl _ (cutJ x j) _ _ _ HOO.out.ints (Nat.le_refl _) (IntS.turned F2.out HF14.out (by omega) (by omega)) (by omega) (fun a ha => HXB.out a (cutJ_mem ha)) (by rw [HCL.out]; omega)).mono ?_
      rintro e W16 ⟨rfl, hb16⟩
      have hg16 := grown_below hb16; clear hb16
      have hs16 := hg16.size
      have HF16 := Lib.hid (HF14.out.still hg16); clear HF14
      have O16 := Lib.hid (OwnI.still HOO.out hg16); clear HOO
      rw [HPB.out]
      have hS17 : W16.cell? ⟨bj, oj + j, none⟩ = some (.int .i64 (a : Nat)) := (by have h := ((IntS.turned F1.out HF16.out (by omega) (by omega)).at_ hjl).1; rw [HA.out] at h; exact h)
      refine hK.out _ _ ⟨fun _ => hS17, ?_⟩
      clear hK K hS15
      try simp only [List.getElem_toArray, List.getElem_cons_succ, List.getElem_cons_zero, Act.put, List.setIfInBounds_toArray, List.set_cons_zero, List.set_cons_succ]
      clear hS17
      refine anyU_done (by kernel_rfl) ?_ _
      cases pb with
      | true =>
        have HR := Lib.hid (show placeB (ms.drop k) x = true by rw [HPA.out]; exact any_yes hjl (by rw [HNE.out, HAN.out, HB.out, HPB.out]; rfl))
        go_wp2_with fail
        go_ret
        exact ⟨ret_bool HR.out.symm, (HF16.out.below_of (Below.refl _ _) (by omega) (by omega))⟩
      | false =>
        have HNN := Lib.hid (below_succY (p := fun i => (!(decide (0 < i) && decide (nth x (i - 1) = nth x i)) && (mk.testBit (nth x i).toNat && placeB (ms.drop (k + 1)) (cutJ x i))) = false) HNO.out (by rw [HPB.out]; simp))
        go_wp2_with fail
        go_roundw
        case rel => exact ⟨j + 1, by omega, by go_num, HNN, HF16⟩
        case measure => simp [intOf]; omega

end Go.Proofs.YtkcbocoimbhhaaaGreat

/- Plain: nodes get layers; the least number for which all get one. -/
namespace Go.Proofs.YtkcbocoimbhhaaaGreat
set_option linter.unusedVariables false

def peelAt (N : NetD) (a : Int) (l : List Int) (v : Nat) : Bool := decide (nth l v < 0) && decide ((portsC N v l (-1) : Int) ≤ a)
def peelStep (N : NetD) (a : Int) (k : Nat) (l : List Int) : List Int := (List.range N.ends.length).map fun v => if peelAt N a l v = true then (k : Int) else nth l v
def anyPeel (N : NetD) (a : Int) (l : List Int) : Bool := (List.range N.ends.length).any (peelAt N a l)
def peel (N : NetD) (a : Int) : Nat → Nat → List Int → List Int
  | 0, _, l => l
  | f + 1, k, l => if anyPeel N a l = true then peel N a f (k + 1) (peelStep N a k l) else l
def peel0 (N : NetD) : List Int := List.replicate N.ends.length (-1)
def peelAll (N : NetD) (a : Int) : List Int := peel N a (N.ends.length + 1) 0 (peel0 N)
theorem peelStep_length (N : NetD) (a : Int) (k : Nat) (l : List Int) : (peelStep N a k l).length = N.ends.length := by simp [peelStep]
theorem nth_peelStep {N : NetD} {a : Int} {k : Nat} {l : List Int} {v : Nat} (hv : v < N.ends.length) : nth (peelStep N a k l) v = if peelAt N a l v = true then (k : Int) else nth l v := by simp [nth, peelStep, hv]
/-- the nodes without a layer -/
def leftN (l : List Int) : Nat := (l.filter fun x => decide (x < 0)).length
structure PInv (N : NetD) (k : Nat) (l : List Int) : Prop where
  len : l.length = N.ends.length
  low : ∀ j, j < N.ends.length → -1 ≤ nth l j ∧ nth l j ≤ k
  left : leftN l + k ≤ N.ends.length
theorem PInv.zero (N : NetD) : PInv N 0 (peel0 N) := ⟨by simp [peel0], fun j hj => by unfold peel0; rw [nth_replicate _ _ hj]; omega, by simp [leftN, peel0]⟩
theorem filter_map_lt {n : Nat} {f g : Nat → Int} (h : ∀ k, k < n → (f k < 0 → g k < 0)) (hex : ∃ k, k < n ∧ g k < 0 ∧ ¬ f k < 0) : leftN ((List.range n).map f) < leftN ((List.range n).map g) := by
  unfold leftN
  induction n with
  | zero => obtain ⟨k, hk, _⟩ := hex; omega
  | succ n ih =>
    rw [List.range_succ, List.map_append, List.map_append, List.filter_append, List.filter_append, List.length_append, List.length_append]
    have hle : ∀ m, m ≤ n → (List.filter (fun x => decide (x < 0)) ((List.range m).map f)).length ≤ (List.filter (fun x => decide (x < 0)) ((List.range m).map g)).length := by
      intro m
      induction m with
      | zero => intro _; exact Nat.le_refl _
      | succ m ihm =>
        intro hm
        rw [List.range_succ, List.map_append, List.map_append, List.filter_append, List.filter_append, List.length_append, List.length_append]
        have := ihm (by omega)
        have h1 := h m (by omega)
        by_cases c1 : f m < 0
        · simp [c1, h1 c1]; exact this
        · by_cases c2 : g m < 0 <;> simp [c1, c2] <;> omega
    by_cases hx : ∃ k, k < n ∧ g k < 0 ∧ ¬ f k < 0
    · have := ih (fun k hk => h k (by omega)) hx
      have h1 := h n (by omega)
      by_cases c1 : f n < 0
      · simp [c1, h1 c1]; exact this
      · by_cases c2 : g n < 0 <;> simp [c1, c2] <;> omega
    · obtain ⟨k, hk, h1, h2⟩ := hex
      have e : k = n := Classical.byContradiction fun e => hx ⟨k, by omega, h1, h2⟩
      subst e
      have := hle k (Nat.le_refl _)
      simp [h1, h2]
      omega
theorem map_nth (l : List Int) : (List.range l.length).map (fun v => nth l v) = l := by
  apply List.ext_getElem (by simp)
  intro i h1 h2
  simp at h1
  simp [nth_eq h1]
theorem anyPeel_at {N : NetD} {a : Int} {l : List Int} (h : anyPeel N a l = true) : ∃ v, v < N.ends.length ∧ peelAt N a l v = true := by
  obtain ⟨v, hv, h1⟩ := List.any_eq_true.1 h
  exact ⟨v, List.mem_range.1 hv, h1⟩
theorem PInv.step {N : NetD} {a : Int} {k : Nat} {l : List Int} (h : PInv N k l) (ha : anyPeel N a l = true) : PInv N (k + 1) (peelStep N a k l) := by
  refine ⟨peelStep_length _ _ _ _, fun j hj => ?_, ?_⟩
  · rw [nth_peelStep hj]
    have := h.low j hj
    split <;> omega
  · obtain ⟨v, hv, h1⟩ := anyPeel_at ha
    have hlt : leftN (peelStep N a k l) < leftN l := by
      have := filter_map_lt (n := N.ends.length) (f := fun v => if peelAt N a l v = true then (k : Int) else nth l v) (g := fun v => nth l v) (fun j hj hf => ?_) ⟨v, hv, ?_, ?_⟩
      · rwa [show (List.range N.ends.length).map (fun v => nth l v) = l by rw [← h.len]; exact map_nth l] at this
      · by_cases e : peelAt N a l j = true
        · simp only [if_pos e] at hf; omega
        · simpa only [if_neg e] using hf
      · unfold peelAt at h1; rw [Bool.and_eq_true] at h1; simpa using h1.1
      · simp only [if_pos h1]; omega
    have := h.left
    omega
structure PTop (N : NetD) (a : Int) (k : Nat) (l : List Int) : Prop where
  inv : PInv N k l
  eq : peelAll N a = peel N a (N.ends.length + 1 - k) k l
theorem PTop.zero (N : NetD) (a : Int) : PTop N a 0 (peel0 N) := ⟨PInv.zero N, rfl⟩
theorem PTop.step {N : NetD} {a : Int} {k : Nat} {l : List Int} (h : PTop N a k l) (ha : anyPeel N a l = true) : PTop N a (k + 1) (peelStep N a k l) := by
  have := h.inv.left
  refine ⟨h.inv.step ha, ?_⟩
  rw [h.eq, show N.ends.length + 1 - k = (N.ends.length + 1 - (k + 1)) + 1 by omega, peel, if_pos ha]
end Go.Proofs.YtkcbocoimbhhaaaGreat

/- Contracts: soPlace, soChoose, zeFits (reference). -/
namespace Go.Proofs.YtkcbocoimbhhaaaGreat
open Go.ChangeShapes Go.WideShapes Go.ChangeAt Go.RowKit
set_option linter.unusedVariables false

theorem soPlace_any {v2 : Value} {zm : List Int} {lo2 hi2 : Nat} {ms : List Nat} (hz : zm = ms.map fun (m : Nat) => (m : Int)) (hms : ∀ m ∈ ms, m < 1000000) : ∀ (d k : Nat), ms.length - k = d → k ≤ ms.length → ∀ (v : Value) (y : List Int) (lo hi : Nat) (W : World), IntS W lo hi v y → hi ≤ W.heap.size → IntS W lo2 hi2 v2 zm → hi2 ≤ W.heap.size → (∀ a ∈ y, 0 ≤ a ∧ a ≤ 60) → y.length ≤ 1000 →
    Calls Tryz.prog 75 #[v, v2, .int .i64 ((k : Nat) : Int)] W fun e w' => e = .returned (.bool (placeB (ms.drop k) y)) ∧ Below W.heap.size W w'
  | 0, k, hd, hk => fun v y lo hi W h1 hh1 h2 hh2 hy hyl => soPlace_step v y lo hi v2 zm lo2 hi2 k W h1 hh1 h2 hh2 ms hz hk hms hy hyl (fun h => absurd h (by omega))
  | d + 1, k, hd, hk => fun v y lo hi W h1 hh1 h2 hh2 hy hyl => soPlace_step v y lo hi v2 zm lo2 hi2 k W h1 hh1 h2 hh2 ms hz hk hms hy hyl (fun h => soPlace_any hz hms d (k + 1) (by omega) (by omega))
theorem choose_yes {P : PrD} {ms : List Nat} {k : Nat} (hk : k < P.nodes.length) (h : placeB ms (nthL P.nodes k) = true) : chooseB P ms = true :=
  List.any_eq_true.2 ⟨_, by rw [nthL_eq hk]; exact List.getElem_mem hk, h⟩
theorem choose_no {P : PrD} {ms : List Nat} (h : ∀ k, k < P.nodes.length → placeB ms (nthL P.nodes k) = false) : chooseB P ms = false := by
  unfold chooseB
  rw [List.any_eq_false]
  intro x hx
  obtain ⟨k, hk, rfl⟩ := List.mem_iff_getElem.1 hx
  have := h k hk
  rw [nthL_eq hk] at this
  simp [this]
/-- sets of ports: i below j has one set, the others another -/
def setsJ (j m s i : Nat) : List Nat := List.replicate j s ++ List.replicate m i
theorem nth_map (ms : List Nat) {i : Nat} (h : i < ms.length) : nth (ms.map fun (m : Nat) => (m : Int)) i = ((ms.getD i 0 : Nat) : Int) := by
  rw [nth_eq (by simpa using h)]; simp [h]
theorem setsJ_at {j m s i k : Nat} (h : k < j + m) : (setsJ j m s i).getD k 0 = if k < j then s else i := by
  unfold setsJ
  rw [List.getD_eq_getElem?_getD, List.getElem?_append]
  by_cases hk : k < j
  · simp [hk]
  · rw [List.length_replicate, if_neg hk, if_neg hk, List.getElem?_replicate_of_lt (by omega)]; rfl

set_option maxHeartbeats 4000000 in
set_option maxRecDepth 100000 in
theorem soChoose_any (v1 : Value) (P : PrD) (lo1 hi1 : Nat) (v2 : Value) (zm : List Int) (lo2 hi2 : Nat) (w : World) (h1 : Pro w lo1 hi1 v1 P) (hh1 : hi1 ≤ w.heap.size) (h2 : IntS w lo2 hi2 v2 zm) (hh2 : hi2 ≤ w.heap.size) (ms : List Nat) (hz : zm = ms.map fun (m : Nat) => (m : Int)) (hg : P.good = true) (hms : ∀ m ∈ ms, m < 1000000) :
    Calls Tryz.prog 47 #[v1, v2] w fun e w' => e = .returned (.bool (chooseB P ms)) ∧ Below w.heap.size w w' := by
  have HZM := Lib.hid hz; clear hz
  have HMS := Lib.hid hms; clear hms
  have HG := Lib.hid hg; clear hg
  have F1 := Lib.hid h1
  obtain ⟨A1, c1, A1', c1', rfl, hc1, hd1⟩ := h1.parts
  clear h1
  have F2 := Lib.hid h2
  obtain ⟨A2, c2, rfl, hc2, hd2⟩ := h2.dims
  clear h2
  obtain ⟨WA, HWA⟩ : ∃ W, Hid (W = (w.alloc (.cells #[.int .i64 P.L, .int .i64 P.D, .slice A1 P.nodes.length c1, .slice A1' P.edges.length c1'] 34))) := ⟨_, Lib.hid rfl⟩
  have hbA : Below w.heap.size w WA := by rw [HWA.out]; exact ((Below.refl _ _).alloc (Nat.le_refl _) _)
  have hsA : w.heap.size + 1 ≤ WA.heap.size := by rw [HWA.out]; simp; try omega
  have bx1 : BoxN WA (w.heap.size) #[.int .i64 P.L, .int .i64 P.D, .slice A1 P.nodes.length c1, .slice A1' P.edges.length c1'] 34 := by rw [HWA.out]; exact (BoxN.new' _ _ _ (by simp))
  have G1 := Lib.hid (Pro.below F1.out hbA hh1); clear F1
  have G2 := Lib.hid (IntS.below F2.out hbA hh2); clear F2
  go_enter Tryz.func47, Tryz.ntmps47
  go_upto_region 1 with (fail)
  rw [← HWA.out]; clear HWA
  have kbx1_0 : WA.cell? ⟨w.heap.size, 0, none⟩ = some (.int .i64 P.L) := bx1.cell 0 (by simp)
  have kbx1_1 : WA.cell? ⟨w.heap.size, 1, none⟩ = some (.int .i64 P.D) := bx1.cell 1 (by simp)
  have kbx1_2 : WA.cell? ⟨w.heap.size, 2, none⟩ = some (.slice A1 P.nodes.length c1) := bx1.cell 2 (by simp)
  have kbx1_3 : WA.cell? ⟨w.heap.size, 3, none⟩ = some (.slice A1' P.edges.length c1') := bx1.cell 3 (by simp)
  go_wp2_with fail
  clear kbx1_0 kbx1_1 kbx1_2 kbx1_3
  have HND := Lib.hid (Pro.nodesS G1.out)
  have HND0 := HND
  go_loopw [10] (fun kv wr => ∃ (k : Nat), k ≤ P.nodes.length ∧ kv = .int .i64 k ∧ Hid (∀ j, j < k → placeB ms (nthL P.nodes j) = false) ∧ Hid (Turned WA.heap.size WA.heap.size WA wr)) (fun kv _ => P.nodes.length - (intOf kv).toNat)
  case atStart => exact ⟨0, Nat.zero_le _, rfl, Lib.hid (fun k hk => absurd hk (by omega)), Lib.hid (Turned.refl WA.heap.size WA.heap.size WA)⟩
  case round =>
    obtain ⟨k, hk, rfl, HN, HF1⟩ := hrel
    have hs1 := HF1.out.size
    obtain ⟨wq, rfl⟩ : ∃ wq : World, wq = wr := ⟨_, rfl⟩
    by_cases hlt : k < P.nodes.length
    case neg =>
      have HR := Lib.hid (choose_no (P := P) (ms := ms) fun j hj => HN.out j (by omega))
      go_wp2_with fail
      go_ret
      exact ⟨ret_bool HR.out.symm, (HF1.out.below_of hbA (by omega) (by omega))⟩
    have hki : (k : Int) < P.nodes.length := by omega
    obtain ⟨x, HX⟩ : ∃ x, Hid (nthL P.nodes k = x) := ⟨_, Lib.hid rfl⟩
    have HXM := Lib.hid (show x ∈ P.nodes by rw [← HX.out, nthL_eq hlt]; exact List.getElem_mem hlt)
    have HXP := Lib.hid (node_parts HG.out HXM.out)
    have HLD := Lib.hid (prd_LD HG.out)
    obtain ⟨br, or, ur, rfl, _, hbr, zr, hur⟩ := SS.opened HND.out hlt
    replace zr := (HF1.out.cell (by omega) (by omega)).trans zr
    obtain ⟨Ar, cr, rfl, hcr, hdr⟩ := hur.dims
    have Ur := Lib.hid hur; clear hur
    rw [HX.out] at Ur
    try rw [HX.out] at zr
    try rw [HX.out] at hcr
    go_wp2_with fail
    clear zr
    obtain ⟨pb, HPB⟩ : ∃ z, Hid (placeB ms x = z) := ⟨_, Lib.hid rfl⟩
    have HX60 := Lib.hid (show ∀ a ∈ x, 0 ≤ a ∧ a ≤ 60 from fun a ha => by obtain ⟨_, h, _⟩ := HXP.out; obtain ⟨n, D, h1, _, _, h8, _⟩ := HLD.out; have := h a ha; omega)
    have HXL := Lib.hid (show x.length ≤ 1000 by obtain ⟨h, _, _⟩ := HXP.out; obtain ⟨n, D, _, h2, _, _, _, h4⟩ := HLD.out; omega)
    refine (soPlace_any HZM.out HMS.out _ 0 rfl (Nat.zero_le _) _ x _ _ _ (IntS.turned Ur.out HF1.out (by omega) (by omega)) (by omega) (IntS.turned G2.out HF1.out (by omega) (by omega)) (by omega) HX60.out HXL.out).mono ?_
    rintro e W2 ⟨rfl, hb2⟩
    have hg2 := grown_below hb2; clear hb2
    have hs2 := hg2.size
    have HF2 := Lib.hid (HF1.out.still hg2); clear HF1
    rw [show ms.drop 0 = ms from rfl, HPB.out]
    cases pb with
    | true =>
      have HR := Lib.hid (choose_yes (P := P) (ms := ms) hlt (by rw [HX.out]; exact HPB.out))
      go_wp2_with fail
      go_ret
      exact ⟨ret_bool HR.out.symm, (HF2.out.below_of hbA (by omega) (by omega))⟩
    | false =>
      have HNN := Lib.hid (below_succY (p := fun j => placeB ms (nthL P.nodes j) = false) HN.out (by rw [HX.out]; exact HPB.out))
      go_wp2_with fail
      go_roundw
      case rel => exact ⟨k + 1, by omega, by go_num, HNN, HF2⟩
      case measure => simp [intOf]; omega

set_option maxHeartbeats 4000000 in
set_option maxRecDepth 100000 in
theorem zeFits_any (v1 : Value) (P : PrD) (lo1 hi1 : Nat) (v2 : Value) (out : List Int) (lo2 hi2 : Nat) (v3 : Value) (inn : List Int) (lo3 hi3 : Nat) (j : Nat) (w : World) (h1 : Pro w lo1 hi1 v1 P) (hh1 : hi1 ≤ w.heap.size) (h2 : IntS w lo2 hi2 v2 out) (hh2 : hi2 ≤ w.heap.size) (h3 : IntS w lo3 hi3 v3 inn) (hh3 : hi3 ≤ w.heap.size) (hg : P.good = true) (n D : Nat) (hL : P.L = (n : Nat)) (hD : P.D = (D : Nat)) (f g : Nat → Bool) (hf : out = ascI n f) (hi : inn = ascI n g) (hj : j ≤ D) :
    Calls Tryz.prog 72 #[v1, v2, v3, .int .i64 (j : Nat)] w fun e w' => e = .returned (.bool (chooseB P (setsJ j (D - j) (setOf n f) (setOf n g)))) ∧ Below w.heap.size w w' := by
  have HG := Lib.hid hg; clear hg
  have HLN := Lib.hid hL; clear hL
  have HDN := Lib.hid hD; clear hD
  have HF := Lib.hid hf; clear hf
  have HI := Lib.hid hi; clear hi
  have n8 : n ≤ 8 := by obtain ⟨a, b, h1, h2, _, h8, _, h4⟩ := prd_LD HG.out; have := HLN.out; omega
  have d4 : D ≤ 4 := by obtain ⟨a, b, h1, h2, _, h8, _, h4⟩ := prd_LD HG.out; have := HDN.out; omega
  have F1 := Lib.hid h1
  obtain ⟨A1, c1, A1', c1', rfl, hc1, hd1⟩ := h1.parts
  clear h1
  have F2 := Lib.hid h2
  obtain ⟨A2, c2, rfl, hc2, hd2⟩ := h2.dims
  clear h2
  have F3 := Lib.hid h3
  obtain ⟨A3, c3, rfl, hc3, hd3⟩ := h3.dims
  clear h3
  obtain ⟨WA, HWA⟩ : ∃ W, Hid (W = (w.alloc (.cells #[.int .i64 P.L, .int .i64 P.D, .slice A1 P.nodes.length c1, .slice A1' P.edges.length c1'] 34))) := ⟨_, Lib.hid rfl⟩
  have hbA : Below w.heap.size w WA := by rw [HWA.out]; exact ((Below.refl _ _).alloc (Nat.le_refl _) _)
  have hsA : w.heap.size + 1 ≤ WA.heap.size := by rw [HWA.out]; simp; try omega
  have bx1 : BoxN WA (w.heap.size) #[.int .i64 P.L, .int .i64 P.D, .slice A1 P.nodes.length c1, .slice A1' P.edges.length c1'] 34 := by rw [HWA.out]; exact (BoxN.new' _ _ _ (by simp))
  have G1 := Lib.hid (Pro.below F1.out hbA hh1); clear F1
  have G2 := Lib.hid (IntS.below F2.out hbA hh2); clear F2
  have G3 := Lib.hid (IntS.below F3.out hbA hh3); clear F3
  go_enter Tryz.func72, Tryz.ntmps72
  go_upto_region 1 with (fail)
  rw [← HWA.out]; clear HWA
  obtain ⟨sf, HSF⟩ : ∃ z, Hid (setOf n f = z) := ⟨_, Lib.hid rfl⟩
  obtain ⟨sg, HSG⟩ : ∃ z, Hid (setOf n g = z) := ⟨_, Lib.hid rfl⟩
  have hp8 : 2 ^ n ≤ 2 ^ 8 := Nat.pow_le_pow_right (by decide) n8
  have hsf : sf < 256 := by have := setOf_lt n f; have := HSF.out; omega
  have hsg : sg < 256 := by have := setOf_lt n g; have := HSG.out; omega
  clear hp8
  have kbx1_0 : WA.cell? ⟨w.heap.size, 0, none⟩ = some (.int .i64 P.L) := bx1.cell 0 (by simp)
  have kbx1_1 : WA.cell? ⟨w.heap.size, 1, none⟩ = some (.int .i64 P.D) := bx1.cell 1 (by simp)
  have kbx1_2 : WA.cell? ⟨w.heap.size, 2, none⟩ = some (.slice A1 P.nodes.length c1) := bx1.cell 2 (by simp)
  have kbx1_3 : WA.cell? ⟨w.heap.size, 3, none⟩ = some (.slice A1' P.edges.length c1') := bx1.cell 3 (by simp)
  rw [HDN.out] at kbx1_1
  have hmk := fun W => run_make_row' (P := Tryz.prog) 26 3 (.int .i64 0) 8 Tryz.underlying26 Tryz.info3 rfl .i64 .i64 D (by omega) (by omega) W
  go_upto_region 2 with (fail)
  refine nameC ?_
  intro W1 HW1
  have hg1 : WA.grownBy W1 none := by rw [HW1.out]; exact grown_alloc _ _
  have hs1 := hg1.size
  have HF1 := Lib.hid ((Turned.refl WA.heap.size WA.heap.size WA).still hg1)
  have HO := Lib.hid (show IntS W1 WA.heap.size (WA.heap.size + 1) (.slice (some ⟨WA.heap.size, 0, none⟩) D D) (List.replicate D 0) by rw [HW1.out]; exact made_ints _ _ _ rfl (by omega))
  have hz : WA.heap.size + 1 ≤ W1.heap.size := by rw [HW1.out]; simp
  clear HW1 hmk kbx1_0 kbx1_1 kbx1_2 kbx1_3
  go_wp2_with fail
  go_loopw [16] (fun iv wr => ∃ (i : Nat) (zz : List Int), i ≤ D ∧ iv = .int .i64 i ∧ Hid (IntS wr WA.heap.size (WA.heap.size + 1) (.slice (some ⟨WA.heap.size, 0, none⟩) D D) zz) ∧ Hid (zz.length = D) ∧ Hid (∀ k, k < i → nth zz k = if k < j then (sf : Int) else (sg : Int)) ∧ WA.heap.size + 1 ≤ wr.heap.size ∧ Hid (Turned WA.heap.size WA.heap.size WA wr)) (fun iv _ => D - (intOf iv).toNat)
  case atStart => exact ⟨0, List.replicate D 0, Nat.zero_le _, rfl, HO, Lib.hid (by simp), Lib.hid (fun k hk => absurd hk (by omega)), hz, HF1⟩
  case round =>
    clear HF1
    obtain ⟨i, zz, hi, rfl, HO, HL, HZ, hz, HF2⟩ := hrel
    have hs2 := HF2.out.size
    obtain ⟨wq, rfl⟩ : ∃ wq : World, wq = wr := ⟨_, rfl⟩
    by_cases hlt : i < D
    case neg =>
      obtain rfl : i = D := by omega
      have HZE := Lib.hid (show zz = (setsJ j (i - j) sf sg).map fun (m : Nat) => (m : Int) from ext_nth (by rw [HL.out]; simp [setsJ]; omega) fun k hk => by
        rw [HL.out] at hk
        rw [HZ.out k hk, nth_map _ (by simp [setsJ]; omega), setsJ_at (by omega)]
        by_cases h : k < j
        · rw [if_pos h, if_pos h]
        · rw [if_neg h, if_neg h])
      have HMB := Lib.hid (show ∀ m ∈ setsJ j (i - j) sf sg, m < 1000000 from fun m hm => by
        unfold setsJ at hm
        rcases List.mem_append.1 hm with h | h
        · have := List.eq_of_mem_replicate h; omega
        · have := List.eq_of_mem_replicate h; omega)
      have kbx1_0 : wq.cell? ⟨w.heap.size, 0, none⟩ = some (.int .i64 P.L) := (HF2.out.boxN bx1 (by omega)).cell 0 (by simp)
      have kbx1_1 : wq.cell? ⟨w.heap.size, 1, none⟩ = some (.int .i64 P.D) := (HF2.out.boxN bx1 (by omega)).cell 1 (by simp)
      have kbx1_2 : wq.cell? ⟨w.heap.size, 2, none⟩ = some (.slice A1 P.nodes.length c1) := (HF2.out.boxN bx1 (by omega)).cell 2 (by simp)
      have kbx1_3 : wq.cell? ⟨w.heap.size, 3, none⟩ = some (.slice A1' P.edges.length c1') := (HF2.out.boxN bx1 (by omega)).cell 3 (by simp)
      go_wp2_with fail
      clear kbx1_0 kbx1_1 kbx1_2 kbx1_3
      have HLZ := Lib.hid HL.out
      have HOZ := Lib.hid (show IntS wq _ _ (.slice (some ⟨WA.heap.size, 0, none⟩) i i) zz from HO.out)
      refine (soChoose_any _ P _ _ _ zz _ _ _ (Pro.turned G1.out HF2.out (by omega) (by omega)) (by omega) HOZ.out (by omega) _ HZE.out HG.out HMB.out).mono ?_
      rintro e W3 ⟨rfl, hb3⟩
      have hg3 := grown_below hb3; clear hb3
      have hs3 := hg3.size
      have HF3 := Lib.hid (HF2.out.still hg3); clear HF2
      have O3 := Lib.hid (IntS.still HO.out hg3 (by omega)); clear HO
      obtain ⟨cb, HCB⟩ : ∃ z, Hid (chooseB P (setsJ j (i - j) sf sg) = z) := ⟨_, Lib.hid rfl⟩
      try rw [HCB.out]
      go_wp2_with fail
      go_ret
      exact ⟨ret_bool (by rw [HSF.out, HSG.out, HCB.out]), (HF3.out.below_of hbA (by omega) (by omega))⟩
    have hii : (i : Int) < D := by omega
    go_wp2_with fail
    refine (zeMask_any _ inn _ _ _ (IntS.turned G3.out HF2.out (by omega) (by omega)) (by omega) n g HI.out n8).mono ?_
    rintro e w' ⟨rfl, rfl⟩
    rw [HSG.out]
    obtain ⟨x1, x2⟩ := HO.out.at0 (j := i) (by rw [HL.out]; exact hlt)
    have HS := Lib.hid (HO.out.set0 (j := i) (by rw [HL.out]; exact hlt) (sg : Nat))
    obtain ⟨y, HY⟩ : ∃ y, Hid (nth zz i = y) := ⟨_, Lib.hid rfl⟩
    rw [HY.out] at x1
    go_upto_region 6 with (fail)
    refine nameC ?_
    intro W4 HW4
    have hg4 : wq.grownBy W4 (some WA.heap.size) := by rw [HW4.out]; exact grown_set _ _ _
    have hs4 := hg4.size
    have HF4 := Lib.hid (HF2.out.grown hg4 (fun g hg => .inr (by cases hg; omega))); clear HF2
    have HO4 : Hid (IntS W4 WA.heap.size (WA.heap.size + 1) (.slice (some ⟨WA.heap.size, 0, none⟩) D D) (zz.set i (sg : Nat))) := by rw [HW4.out]; exact HS
    have hz4 : WA.heap.size + 1 ≤ W4.heap.size := by rw [HW4.out, size_setCell]; exact hz
    have HL4 := Lib.hid (show (zz.set i (sg : Nat)).length = D by rw [List.length_set]; exact HL.out)
    clear HW4 HS x1 x2 HO HY y
    by_cases hij : i < j
    case neg =>
      have hiji : ¬ (i : Int) < j := by omega
      go_wp2_with fail
      go_roundw
      case rel => exact ⟨i + 1, _, by omega, by go_num, HO4, HL4, Lib.hid (fun k hk => by
        rw [nth_set _ _ _ _ (by rw [HL.out]; exact hlt)]
        by_cases h : k = i
        · rw [if_pos h, if_neg (by omega)]
        · rw [if_neg h]; exact HZ.out k (by omega)), hz4, HF4⟩
      case measure => simp [intOf]; omega
    have hiji : (i : Int) < j := by omega
    obtain ⟨zs, HZS⟩ : ∃ z, Hid (zz.set i (sg : Nat) = z) := ⟨_, Lib.hid rfl⟩
    rw [HZS.out] at HO4 HL4
    go_wp2_with fail
    refine (zeMask_any _ out _ _ _ (IntS.turned G2.out HF4.out (by omega) (by omega)) (by omega) n f HF.out n8).mono ?_
    rintro e w' ⟨rfl, rfl⟩
    rw [HSF.out]
    obtain ⟨x1, x2⟩ := HO4.out.at0 (j := i) (by rw [HL4.out]; exact hlt)
    have HS := Lib.hid (HO4.out.set0 (j := i) (by rw [HL4.out]; exact hlt) (sf : Nat))
    obtain ⟨y, HY⟩ : ∃ y, Hid (nth zs i = y) := ⟨_, Lib.hid rfl⟩
    rw [HY.out] at x1
    go_wp2_with fail
    go_roundw
    case rel => exact ⟨i + 1, _, by omega, by go_num, HS, Lib.hid (by rw [List.length_set]; exact HL4.out), Lib.hid (fun k hk => by
      rw [nth_set _ _ _ _ (by rw [HL4.out]; exact hlt)]
      by_cases h : k = i
      · rw [if_pos h, if_pos (by omega)]
      · rw [if_neg h, ← HZS.out, nth_set _ _ _ _ (by rw [HL.out]; exact hlt), if_neg h]; exact HZ.out k (by omega)), by rw [size_setCell]; exact hz4, Lib.hid (HF4.out.grown (grown_set _ ⟨WA.heap.size, i, none⟩ _) fun g hg => .inr (by cases hg; exact Nat.le_refl _))⟩
    case measure => simp [intOf]; omega

end Go.Proofs.YtkcbocoimbhhaaaGreat

/- Contracts: zeOriented, ZeroOriented (reference). -/
namespace Go.Proofs.YtkcbocoimbhhaaaGreat
open Go.ChangeShapes Go.WideShapes Go.ChangeAt Go.RowKit
set_option linter.unusedVariables false

theorem fits_eq {P : PrD} {n D j : Nat} (hg : P.good = true) (hD : P.D = (D : Nat)) (hj : j ≤ D) (f g : Nat → Bool) : chooseB P (setsJ j (D - j) (setOf n f) (setOf n g)) = fitsB P (ascI n f) (ascI n g) D j := by
  unfold fitsB
  refine choose_first hg ⟨by rw [repL_length]; simp [setsJ], fun k hk a => ?_⟩ (by rw [repL_length, hD]; congr 1; omega)
  rw [repL_length] at hk
  rw [repL_at hk, setsJ_at hk]
  by_cases h : k < j
  · rw [if_pos h, if_pos h]; exact ascI_bits
  · rw [if_neg h, if_neg h]; exact ascI_bits
theorem good_zero {P : PrD} {n D : Nat} (hd : 1 ≤ D) : goodSet P n D 0 = false := by
  rw [Bool.eq_false_iff]
  intro h
  unfold goodSet at h
  have h1 := List.all_eq_true.1 h 1 (List.mem_range.2 (by omega))
  unfold fitsB at h1
  refine firstC_ne h1 (zoOut n 0) (by unfold repL; simp) ?_
  apply List.eq_nil_iff_forall_not_mem.2
  intro a ha
  obtain ⟨x, _, hx, _⟩ := ascI_mem.1 ha
  simp at hx
theorem all_snocF {p : Nat → Bool} {j : Nat} (h : false = (List.range j).all p) : false = (List.range (j + 1)).all p := (all_cut h.symm (Nat.le_succ j)).symm

set_option maxHeartbeats 4000000 in
set_option maxRecDepth 100000 in
theorem zeOriented_any (v1 : Value) (P : PrD) (lo1 hi1 : Nat) (w : World) (h1 : Pro w lo1 hi1 v1 P) (hh1 : hi1 ≤ w.heap.size) (hg : P.good = true) :
    Calls Tryz.prog 41 #[v1] w fun e w' => (∀ S, zoS P = some S → ∃ ro ri, e = .returned (.tuple #[ro, ri, .bool true]) ∧ IntS w' w.heap.size w'.heap.size ro (zoOut P.L.toNat S) ∧ IntS w' w.heap.size w'.heap.size ri (zoIn P P.L.toNat S)) ∧ (zoS P = none → e = .returned (.tuple #[.slice none 0 0, .slice none 0 0, .bool false])) ∧ Below w.heap.size w w' := by
  have HG := Lib.hid hg; clear hg
  obtain ⟨n, D, hL, hD, n1, n8, d1, d4⟩ := prd_LD HG.out
  have HL8 := Lib.hid hL; have HD8 := Lib.hid hD; clear hL hD
  have HNT := Lib.hid (show P.L.toNat = n by rw [HL8.out]; rfl)
  have F1 := Lib.hid h1
  obtain ⟨A1, c1, A1', c1', rfl, hc1, hd1⟩ := h1.parts
  clear h1
  obtain ⟨WA, HWA⟩ : ∃ W, Hid (W = (w.alloc (.cells #[.int .i64 P.L, .int .i64 P.D, .slice A1 P.nodes.length c1, .slice A1' P.edges.length c1'] 34))) := ⟨_, Lib.hid rfl⟩
  have hbA : Below w.heap.size w WA := by rw [HWA.out]; exact ((Below.refl _ _).alloc (Nat.le_refl _) _)
  have hsA : w.heap.size + 1 ≤ WA.heap.size := by rw [HWA.out]; simp; try omega
  have bx1 : BoxN WA (w.heap.size) #[.int .i64 P.L, .int .i64 P.D, .slice A1 P.nodes.length c1, .slice A1' P.edges.length c1'] 34 := by rw [HWA.out]; exact (BoxN.new' _ _ _ (by simp))
  have G1 := Lib.hid (Pro.below F1.out hbA hh1); clear F1
  go_enter Tryz.func41, Tryz.ntmps41
  go_upto_region 1 with (fail)
  rw [← HWA.out]; clear HWA
  rw [HL8.out, HD8.out] at bx1 G1
  try rw [HL8.out, HD8.out]
  obtain ⟨N, HN2⟩ : ∃ N, Hid (2 ^ n = N) := ⟨_, Lib.hid rfl⟩
  have hN256 : N ≤ 256 := by rw [← HN2.out]; exact Nat.pow_le_pow_right (by decide) n8
  have hN2 : 2 ≤ N := by rw [← HN2.out]; exact Nat.pow_le_pow_right (n := 2) (by decide) n1
  have HPW := Lib.hid (show Go.RowKit.wrap64 (2 ^ n) = (N : Int) by rw [pow64 (show n < 12 by omega), HN2.out])
  go_wp2_with fail
  go_loopw [5] (fun sv wr => ∃ (S : Nat), S ≤ N ∧ sv = .int .i64 S ∧ Hid (∀ T, 1 ≤ T → T < S → goodSet P n D T = false) ∧ Hid (Turned WA.heap.size WA.heap.size WA wr)) (fun sv _ => N - (intOf sv).toNat)
  case atStart => exact ⟨0, Nat.zero_le _, rfl, Lib.hid (fun T h1 h2 => absurd h2 (by omega)), Lib.hid (Turned.refl WA.heap.size WA.heap.size WA)⟩
  case round =>
    obtain ⟨S, hSN, rfl, HNO, HF1⟩ := hrel
    have hs1 := HF1.out.size
    obtain ⟨wq, rfl⟩ : ∃ wq : World, wq = wr := ⟨_, rfl⟩
    have kbx1_0 : wq.cell? ⟨w.heap.size, 0, none⟩ = some (.int .i64 (n : Nat)) := (HF1.out.boxN bx1 (by omega)).cell 0 (by simp)
    have kbx1_1 : wq.cell? ⟨w.heap.size, 1, none⟩ = some (.int .i64 (D : Nat)) := (HF1.out.boxN bx1 (by omega)).cell 1 (by simp)
    have kbx1_2 : wq.cell? ⟨w.heap.size, 2, none⟩ = some (.slice A1 P.nodes.length c1) := (HF1.out.boxN bx1 (by omega)).cell 2 (by simp)
    have kbx1_3 : wq.cell? ⟨w.heap.size, 3, none⟩ = some (.slice A1' P.edges.length c1') := (HF1.out.boxN bx1 (by omega)).cell 3 (by simp)
    by_cases hlt : S < N
    case neg =>
      have hsi : ¬ (S : Int) < N := by omega
      have HZ := Lib.hid (zoS_none HL8.out HD8.out fun T h1 h2 => HNO.out T h1 (by rw [HN2.out] at h2; omega))
      have hpw := HPW.out
      go_wp2_with fail
      ((try simp only [Exit.inBlock, Exit.then]); refine bodyPost_ret (results_tmp3 rfl _ _ _) rfl ?_)
      clear hpw
      exact ⟨fun S hS => (by rw [HZ.out] at hS; cases hS), fun _ => rfl, (HF1.out.below_of hbA (by omega) (by omega))⟩
    have hsi : (S : Int) < N := by omega
    have HST := Lib.hid (show S = setOf n fun a => S.testBit a from testSet (by rw [HN2.out]; exact hlt))
    have hpw := HPW.out
    go_wp2_with fail
    clear hpw
    refine (zeLabels_any _ P _ _ S _ (Pro.turned G1.out HF1.out (by omega) (by omega)) (by omega) n HL8.out n8 (by omega)).mono ?_
    rintro e W2 ⟨ro, rfl, hr, hb2⟩
    have hg2 := grown_below hb2; clear hb2
    have hs2 := hg2.size
    have HF2 := Lib.hid (HF1.out.still hg2); clear HF1
    replace hr : IntS _ _ _ ro (zoOut n S) := hr
    obtain ⟨Ao, co, rfl, hco, hdo⟩ := hr.dims
    have RO2 := Lib.hid hr; clear hr
    clear kbx1_0 kbx1_1 kbx1_2 kbx1_3
    have kbx1_0 : W2.cell? ⟨w.heap.size, 0, none⟩ = some (.int .i64 (n : Nat)) := (HF2.out.boxN bx1 (by omega)).cell 0 (by simp)
    have kbx1_1 : W2.cell? ⟨w.heap.size, 1, none⟩ = some (.int .i64 (D : Nat)) := (HF2.out.boxN bx1 (by omega)).cell 1 (by simp)
    have kbx1_2 : W2.cell? ⟨w.heap.size, 2, none⟩ = some (.slice A1 P.nodes.length c1) := (HF2.out.boxN bx1 (by omega)).cell 2 (by simp)
    have kbx1_3 : W2.cell? ⟨w.heap.size, 3, none⟩ = some (.slice A1' P.edges.length c1') := (HF2.out.boxN bx1 (by omega)).cell 3 (by simp)
    go_wp2_with fail
    clear kbx1_0 kbx1_1 kbx1_2 kbx1_3
    refine (zeAnswer_any _ P _ _ _ (zoOut n S) _ _ _ (Pro.turned G1.out HF2.out (by omega) (by omega)) (by omega) RO2.out (by omega) n HL8.out n8).mono ?_
    rintro e W3 ⟨ri, rfl, hr, hb3⟩
    have hg3 := grown_below hb3; clear hb3
    have hs3 := hg3.size
    have HF3 := Lib.hid (HF2.out.still hg3); clear HF2
    have RO3 := Lib.hid (IntS.still RO2.out hg3 (by omega)); clear RO2
    replace hr : IntS _ _ _ ri (zoIn P n S) := hr
    obtain ⟨Ai, ci, rfl, hci, hdi⟩ := hr.dims
    have RI3 := Lib.hid hr; clear hr
    go_wp2_with fail
    have HOUT := Lib.hid HF3.out
    have P_3 := Lib.hid (Pro.turned G1.out HF3.out (by omega) (by omega)); clear G1
    have bx1_3 := HF3.out.boxN bx1 (by omega); clear bx1
    have hbA3 : Below w.heap.size w W3 := (HF3.out.below_of hbA (by omega) (by omega)); clear hbA HF3
    go_loopw [8, 9] (fun gv jv wr => ∃ (j : Nat) (gd : Bool), j ≤ D + 1 ∧ gv = .bool gd ∧ jv = .int .i64 j ∧ Hid (gd = (List.range j).all fun j => fitsB P (zoOut n S) (zoIn P n S) D j) ∧ Hid (Turned W3.heap.size W3.heap.size W3 wr)) (fun gv jv _ => D + 1 - (intOf jv).toNat)
    case atStart => exact ⟨0, true, Nat.zero_le _, rfl, rfl, Lib.hid rfl, Lib.hid (Turned.refl W3.heap.size W3.heap.size W3)⟩
    case round =>
      obtain ⟨j, gd, hj, rfl, rfl, HGD, HF4⟩ := hrel
      have hs4 := HF4.out.size
      obtain ⟨wi, rfl⟩ : ∃ wi : World, wi = wr := ⟨_, rfl⟩
      have kbx1_0 : wi.cell? ⟨w.heap.size, 0, none⟩ = some (.int .i64 (n : Nat)) := (HF4.out.boxN bx1_3 (by omega)).cell 0 (by simp)
      have kbx1_1 : wi.cell? ⟨w.heap.size, 1, none⟩ = some (.int .i64 (D : Nat)) := (HF4.out.boxN bx1_3 (by omega)).cell 1 (by simp)
      have kbx1_2 : wi.cell? ⟨w.heap.size, 2, none⟩ = some (.slice A1 P.nodes.length c1) := (HF4.out.boxN bx1_3 (by omega)).cell 2 (by simp)
      have kbx1_3 : wi.cell? ⟨w.heap.size, 3, none⟩ = some (.slice A1' P.edges.length c1') := (HF4.out.boxN bx1_3 (by omega)).cell 3 (by simp)
      by_cases hjD : j ≤ D
      case neg =>
        obtain rfl : j = D + 1 := by omega
        have hji : ¬ ((D + 1 : Nat) : Int) ≤ D := by omega
        cases gd with
        | false =>
          have HBAD := Lib.hid (succ1 (p := fun T => goodSet P n D T = false) HNO.out HGD.out.symm)
          have hb1 := (HF4.out.below_of hbA3 (by omega) (by omega))
          go_wp2_with fail
          go_roundw
          case rel => exact ⟨S + 1, by omega, by go_num, HBAD, Lib.hid (Turned.all_trans HOUT.out HF4.out)⟩
          case measure => simp [intOf]; omega
        | true =>
          have hS1 : 1 ≤ S := by
            rcases Nat.eq_zero_or_pos S with h | h
            · have h2 := HGD.out.symm
              rw [h] at h2
              have h3 := good_zero (P := P) (n := n) d1
              unfold goodSet at h3
              rw [h3] at h2; cases h2
            · exact h
          have HZ := Lib.hid (zoS_some HG.out HL8.out HD8.out hS1 (by rw [HN2.out]; exact hlt) HGD.out.symm HNO.out)
          go_wp2_with fail
          ((try simp only [Exit.inBlock, Exit.then]); refine bodyPost_ret (results_tmp3 rfl _ _ _) rfl ?_)
          refine ⟨fun S' hS' => ?_, fun h => (by rw [HZ.out] at h; cases h), (HF4.out.below_of hbA3 (by omega) (by omega))⟩
          rw [HZ.out] at hS'
          injection hS' with e
          subst e
          rw [HNT.out]
          exact ⟨_, _, rfl, (IntS.turned RO3.out HF4.out (by omega) (by omega)).mono (by omega) (by omega), (IntS.turned RI3.out HF4.out (by omega) (by omega)).mono (by omega) (by omega)⟩
      have hji : (j : Int) ≤ D := by omega
      cases gd with
      | false =>
        have HGN := Lib.hid (all_snocF HGD.out)
        go_wp2_with fail
        go_roundw
        case rel => exact ⟨j + 1, false, by omega, rfl, by go_num, HGN, HF4⟩
        case measure => simp [intOf]; omega
      | true =>
        go_wp2_with fail
        clear kbx1_0 kbx1_1 kbx1_2 kbx1_3
        refine (zeFits_any _ P _ _ _ (zoOut n S) _ _ _ (zoIn P n S) _ _ j _ (Pro.turned P_3.out HF4.out (by omega) (by omega)) (by omega) (IntS.turned RO3.out HF4.out (by omega) (by omega)) (by omega) (IntS.turned RI3.out HF4.out (by omega) (by omega)) (by omega) HG.out n D HL8.out HD8.out _ _ rfl rfl hjD).mono ?_
        rintro e W5 ⟨rfl, hb5⟩
        have hg5 := grown_below hb5; clear hb5
        have hs5 := hg5.size
        have HF5 := Lib.hid (HF4.out.still hg5); clear HF4
        rw [fits_eq HG.out HD8.out hjD]
        obtain ⟨z, HZ⟩ : ∃ z, Hid (fitsB P (zoOut n S) (zoIn P n S) D j = z) := ⟨_, Lib.hid rfl⟩
        rw [show fitsB P (ascI n fun a => S.testBit a) (ascI n fun b : Nat => pairsB P (zoOut n S) [(b : Int)]) D j = z from HZ.out]
        have HGN := Lib.hid (all_snoc (p := fun j => fitsB P (zoOut n S) (zoIn P n S) D j) (z := z) HGD.out HZ.out rfl)
        go_wp2_with fail
        go_roundw
        case rel => exact ⟨j + 1, z, by omega, rfl, by go_num, HGN, HF5⟩
        case measure => simp [intOf]; omega

set_option maxHeartbeats 4000000 in
set_option maxRecDepth 100000 in
theorem ZeroOriented_spec (v1 : Value) (P : PrD) (lo1 hi1 : Nat) (w : World) (h1 : Pro w lo1 hi1 v1 P) (hh1 : hi1 ≤ w.heap.size)  :
    Calls Tryz.prog 21 #[v1] w fun e w' => (∀ S, zoS P = some S → ∃ ro ri, e = .returned (.tuple #[ro, ri, .bool true]) ∧ IntS w' w.heap.size w'.heap.size ro (zoOut P.L.toNat S) ∧ IntS w' w.heap.size w'.heap.size ri (zoIn P P.L.toNat S)) ∧ (zoS P = none → e = .returned (.tuple #[.slice none 0 0, .slice none 0 0, .bool false])) ∧ Below w.heap.size w w' := by
  have F1 := Lib.hid h1
  obtain ⟨A1, c1, A1', c1', rfl, hc1, hd1⟩ := h1.parts
  clear h1
  obtain ⟨WA, HWA⟩ : ∃ W, Hid (W = (w.alloc (.cells #[.int .i64 P.L, .int .i64 P.D, .slice A1 P.nodes.length c1, .slice A1' P.edges.length c1'] 34))) := ⟨_, Lib.hid rfl⟩
  have hbA : Below w.heap.size w WA := by rw [HWA.out]; exact ((Below.refl _ _).alloc (Nat.le_refl _) _)
  have hsA : w.heap.size + 1 ≤ WA.heap.size := by rw [HWA.out]; simp; try omega
  have bx1 : BoxN WA (w.heap.size) #[.int .i64 P.L, .int .i64 P.D, .slice A1 P.nodes.length c1, .slice A1' P.edges.length c1'] 34 := by rw [HWA.out]; exact (BoxN.new' _ _ _ (by simp))
  have G1 := Lib.hid (Pro.below F1.out hbA hh1); clear F1
  go_enter Tryz.func21, Tryz.ntmps21
  go_upto_region 1 with (fail)
  rw [← HWA.out]; clear HWA
  have kbx1_0 : WA.cell? ⟨w.heap.size, 0, none⟩ = some (.int .i64 P.L) := bx1.cell 0 (by simp)
  have kbx1_1 : WA.cell? ⟨w.heap.size, 1, none⟩ = some (.int .i64 P.D) := bx1.cell 1 (by simp)
  have kbx1_2 : WA.cell? ⟨w.heap.size, 2, none⟩ = some (.slice A1 P.nodes.length c1) := bx1.cell 2 (by simp)
  have kbx1_3 : WA.cell? ⟨w.heap.size, 3, none⟩ = some (.slice A1' P.edges.length c1') := bx1.cell 3 (by simp)
  go_wp2_with fail
  clear kbx1_0 kbx1_1 kbx1_2 kbx1_3
  refine (prGood_any _ P _ _ _ G1.out (by omega)).mono ?_
  rintro e W1 ⟨rfl, hb1⟩
  have hg1 := grown_below hb1; clear hb1
  have hs1 := hg1.size
  have HF1 := Lib.hid ((Turned.refl WA.heap.size WA.heap.size WA).still hg1)
  by_cases hg : P.good = true
  case neg =>
    have hg' : P.good = false := by simpa using hg
    rw [hg']
    have HZ := Lib.hid (zoS_bad hg')
    clear hg hg'
    go_wp2_with fail
    ((try simp only [Exit.inBlock, Exit.then]); refine bodyPost_ret (results_tmp3 rfl _ _ _) rfl ?_)
    exact ⟨fun S hS => (by rw [HZ.out] at hS; cases hS), fun _ => rfl, (HF1.out.below_of hbA (by omega) (by omega))⟩
  rw [hg]
  have HG := Lib.hid hg; clear hg
  have kbx1_0 : W1.cell? ⟨w.heap.size, 0, none⟩ = some (.int .i64 P.L) := (HF1.out.boxN bx1 (by omega)).cell 0 (by simp)
  have kbx1_1 : W1.cell? ⟨w.heap.size, 1, none⟩ = some (.int .i64 P.D) := (HF1.out.boxN bx1 (by omega)).cell 1 (by simp)
  have kbx1_2 : W1.cell? ⟨w.heap.size, 2, none⟩ = some (.slice A1 P.nodes.length c1) := (HF1.out.boxN bx1 (by omega)).cell 2 (by simp)
  have kbx1_3 : W1.cell? ⟨w.heap.size, 3, none⟩ = some (.slice A1' P.edges.length c1') := (HF1.out.boxN bx1 (by omega)).cell 3 (by simp)
  go_wp2_with fail
  clear kbx1_0 kbx1_1 kbx1_2 kbx1_3
  refine (zeOriented_any _ P _ _ _ (Pro.turned G1.out HF1.out (by omega) (by omega)) (by omega) HG.out).mono ?_
  rintro e W2 ⟨hy, hn, hb2⟩
  have hg2 := grown_below hb2; clear hb2
  have hs2 := hg2.size
  have HF2 := Lib.hid (HF1.out.still hg2); clear HF1
  obtain ⟨zz, HZ⟩ : ∃ z, Hid (zoS P = z) := ⟨_, Lib.hid rfl⟩
  cases zz with
  | none =>
    obtain rfl := hn HZ.out
    clear hy hn
    go_wp2_with fail
    ((try simp only [Exit.inBlock, Exit.then]); refine bodyPost_ret (results_tmp3 rfl _ _ _) rfl ?_)
    exact ⟨fun S hS => (by rw [HZ.out] at hS; cases hS), fun _ => rfl, (HF2.out.below_of hbA (by omega) (by omega))⟩
  | some S =>
    obtain ⟨ro, ri, rfl, ho, hi⟩ := hy S HZ.out
    clear hy hn
    obtain ⟨Ao, co, rfl, hco, hdo⟩ := ho.dims
    obtain ⟨Ai, ci, rfl, hci, hdi⟩ := hi.dims
    go_wp2_with fail
    ((try simp only [Exit.inBlock, Exit.then]); refine bodyPost_ret (results_tmp3 rfl _ _ _) rfl ?_)
    refine ⟨fun S' hS' => ?_, fun h => (by rw [HZ.out] at h; cases h), (HF2.out.below_of hbA (by omega) (by omega))⟩
    rw [HZ.out] at hS'
    injection hS' with e
    subst e
    exact ⟨_, _, rfl, ho.mono (by omega) (by omega), hi.mono (by omega) (by omega)⟩

end Go.Proofs.YtkcbocoimbhhaaaGreat

/- Contracts: zeIs (reference): orientations. -/
namespace Go.Proofs.YtkcbocoimbhhaaaGreat
open Go.ChangeShapes Go.WideShapes Go.ChangeAt Go.RowKit
set_option linter.unusedVariables false

/-- the numbers of a port and of the one that it is joined with make up one -/
def sumOk (N : NetD) (o : List (List Int)) (v i : Nat) : Bool := decide (nth (nthL o v) i + nth (nthL o (nthE (nthL N.ends v) i).1.toNat) (nthE (nthL N.ends v) i).2.toNat = 1)
def sumRow (N : NetD) (o : List (List Int)) (v : Nat) : Bool := (List.range (nthL N.ends v).length).all (sumOk N o v)
def zeB (N : NetD) (o : List (List Int)) : Bool := portsIn N o 0 1 && (List.range o.length).all (sumRow N o)
theorem sumOk_at {N : NetD} {o : List (List Int)} {v i t r : Nat} (h : nthE (nthL N.ends v) i = ((t : Int), (r : Int))) : sumOk N o v i = decide (nth (nthL o v) i + nth (nthL o t) r = 1) := by
  unfold sumOk; rw [h]; rfl
theorem zeB_eq {N : NetD} (hg : N.good = true) (o : List (List Int)) : zeB N o = oriOk N o := by
  rw [Bool.eq_iff_iff]
  unfold zeB oriOk oriB
  rw [portsIn_eq]
  constructor
  · intro h
    rw [Bool.and_eq_true] at h
    obtain ⟨h1, h2⟩ := h
    have hp := (Bool.and_eq_true _ _ ▸ h1 : portsB N o = true ∧ rowsIn o 0 1 = true).1
    have hl := ports_len hp
    have hat : ∀ v i, v < N.ends.length → i < (nthL N.ends v).length → sumOk N o v i = true := fun v i hv hi => rangeAll_at (rangeAll_at h2 (by omega : v < o.length)) hi
    have hs : N.stubless = true := by
      unfold NetD.stubless
      rw [hg, ← noStub_eq, Bool.true_and]
      refine rangeAll_true fun v hv => rangeAll_true fun i hi => ?_
      rw [Bool.not_eq_true', Bool.eq_false_iff]
      intro hself
      have e := of_decide_eq_true hself
      have h3 := hat v i hv hi
      rw [sumOk_at e] at h3
      have := of_decide_eq_true h3
      omega
    rw [hs, h1]
    unfold oriE
    rw [Bool.true_and, Bool.true_and, List.all_eq_true]
    intro q hq
    obtain ⟨v, i, t, r, rfl, q1, q2, q3, q4, e, _⟩ := edge_nat hg hq
    rw [edgeOne_nat]
    have h3 := hat v i q1 q2
    rw [sumOk_at e] at h3
    exact h3
  · intro h
    rw [Bool.and_eq_true, Bool.and_eq_true] at h
    obtain ⟨h0, h1, h2⟩ := h
    rw [h1, Bool.true_and]
    have hp := (Bool.and_eq_true _ _ ▸ h1 : portsB N o = true ∧ rowsIn o 0 1 = true).1
    have hl := ports_len hp
    unfold oriE at h2
    rw [List.all_eq_true] at h2
    refine rangeAll_true fun v hv => rangeAll_true fun i hi => ?_
    have hv' : v < N.ends.length := by omega
    obtain ⟨t, r, e, e1, e2, e3⟩ := good_end hg hv' hi
    rw [sumOk_at e]
    by_cases hf : firstB N v i = true
    · have h3 := h2 _ (mem_edges.2 ⟨v, i, hv', hi, hf, rfl⟩)
      unfold quadAt at h3
      rw [e] at h3
      dsimp only at h3
      rw [edgeOne_nat] at h3
      exact h3
    · have hf2 : firstB N t r = true := by
        unfold firstB at hf ⊢
        rw [e] at hf; rw [e3]
        simp at hf ⊢
        omega
      have h3 := h2 _ (mem_edges.2 ⟨t, r, e1, e2, hf2, rfl⟩)
      unfold quadAt at h3
      rw [e3] at h3
      dsimp only at h3
      rw [edgeOne_nat] at h3
      have := of_decide_eq_true h3
      exact decide_eq_true (by omega)

set_option maxHeartbeats 4000000 in
set_option maxRecDepth 100000 in
theorem zeIs_any (v1 : Value) (N : NetD) (lo1 hi1 : Nat) (v2 : Value) (o : List (List Int)) (lo2 hi2 : Nat) (w : World) (h1 : Net w lo1 hi1 v1 N) (hh1 : hi1 ≤ w.heap.size) (h2 : IntSS w lo2 hi2 v2 o) (hh2 : hi2 ≤ w.heap.size) (hg : N.good = true) :
    Calls Tryz.prog 23 #[v1, v2] w fun e w' => e = .returned (.bool (oriOk N o)) ∧ Below w.heap.size w w' := by
  have HEQ := Lib.hid (zeB_eq hg o)
  obtain ⟨n1, n40⟩ := good_n hg
  have HG := Lib.hid hg; clear hg
  have F1 := Lib.hid h1
  obtain ⟨A1, c1, A1', c1', A1'', c1'', rfl, hc1, hd1, _⟩ := h1.parts
  obtain ⟨b1, o1, _, _, rfl, _⟩ := Net.rowAt F1.out (u := 0) (by omega)
  clear h1
  have F2 := Lib.hid h2
  obtain ⟨A2, c2, rfl, hc2, hd2⟩ := h2.dims
  clear h2
  obtain ⟨WA, HWA⟩ : ∃ W, Hid (W = (w.alloc (.cells #[.slice (some ⟨b1, o1, none⟩) N.ends.length c1, .slice A1' N.ids.length c1', .slice A1'' N.inputs.length c1''] 38))) := ⟨_, Lib.hid rfl⟩
  have hbA : Below w.heap.size w WA := by rw [HWA.out]; exact ((Below.refl _ _).alloc (Nat.le_refl _) _)
  have hsA : w.heap.size + 1 ≤ WA.heap.size := by rw [HWA.out]; simp; try omega
  have bx1 : BoxN WA (w.heap.size) #[.slice (some ⟨b1, o1, none⟩) N.ends.length c1, .slice A1' N.ids.length c1', .slice A1'' N.inputs.length c1''] 38 := by rw [HWA.out]; exact (BoxN.new' _ _ _ (by simp))
  have G1 := Lib.hid (Net.below F1.out hbA hh1); clear F1
  have G2 := Lib.hid (ISS.below F2.out hbA hh2); clear F2
  go_enter Tryz.func23, Tryz.ntmps23
  go_upto_region 1 with (fail)
  rw [← HWA.out]; clear HWA
  have kbx1_0 : WA.cell? ⟨w.heap.size, 0, none⟩ = some (.slice (some ⟨b1, o1, none⟩) N.ends.length c1) := bx1.cell 0 (by simp)
  have kbx1_1 : WA.cell? ⟨w.heap.size, 1, none⟩ = some (.slice A1' N.ids.length c1') := bx1.cell 1 (by simp)
  have kbx1_2 : WA.cell? ⟨w.heap.size, 2, none⟩ = some (.slice A1'' N.inputs.length c1'') := bx1.cell 2 (by simp)
  by_cases hl : o.length = N.ends.length
  case neg =>
    have hl' : ((o.length : Int) != (N.ends.length : Int)) = true := by simp; omega
    go_wp2_with fail
    go_ret
    exact ⟨ret_bool (by rw [← HEQ.out]; unfold zeB portsIn; rw [decide_eq_false hl]; rfl), hbA⟩
  have hl' : ((o.length : Int) != (N.ends.length : Int)) = false := by simp; omega
  have HL := Lib.hid hl
  have hle : o.length ≤ N.ends.length := by omega
  clear hl
  go_wp2_with fail
  go_loop [19] (fun iv => ∃ (k : Nat), k ≤ o.length ∧ iv = .int .i64 k ∧ Hid (∀ j, j < k → portIn N o 0 1 j = true)) (fun iv => o.length - (intOf iv).toNat)
  case atStart => exact ⟨0, Nat.zero_le _, rfl, Lib.hid fun j hj => absurd hj (by omega)⟩
  case round =>
    obtain ⟨k, hk, rfl, HU⟩ := hrel
    by_cases hlt : k < o.length
    case pos =>
      obtain ⟨Ar, cr, hbr, qr, hcr, hdr, hRr⟩ := Net.rowIn G1.out (Nat.lt_of_lt_of_le hlt hle)
      have Rr := Lib.hid hRr; clear hRr
      obtain ⟨bs, os, us, rfl, _, hbs, zs, hus⟩ := SS.opened G2.out hlt
      obtain ⟨As, cs, rfl, hcs, hds⟩ := hus.dims
      have Us := Lib.hid hus; clear hus
      have hki : (k : Int) < N.ends.length := by omega
      by_cases he : (nthL o k).length = (nthL N.ends k).length
      case neg =>
        have he' : (((nthL o k).length : Int) != ((nthL N.ends k).length : Int)) = true := by simp; omega
        have HE := Lib.hid he; clear he
        go_wp2_with fail
        go_ret
        exact ⟨ret_bool (by rw [← HEQ.out]; unfold zeB portsIn; rw [rangeAll_false hlt (by unfold portIn; rw [decide_eq_false HE.out]; rfl), Bool.and_false]; rfl), hbA⟩
      have he' : (((nthL o k).length : Int) != ((nthL N.ends k).length : Int)) = false := by simp; omega
      have HE := Lib.hid he; clear he
      cases hq : rowIn o 0 1 k with
      | false =>
        have HQ := Lib.hid hq; clear hq
        go_wp2_with (go_at_call 44; refine (l1All_any _ (nthL o k) 0 1 _ _ _ Us.out).mono ?_; rintro e w' ⟨rfl, rfl⟩; rw [show ((nthL o k).all fun x => inB x 0 1) = false from HQ.out])
        go_ret
        exact ⟨ret_bool (by rw [← HEQ.out]; unfold zeB portsIn; rw [rangeAll_false hlt (by unfold portIn; rw [HQ.out, Bool.and_false]), Bool.and_false]; rfl), hbA⟩
      | true =>
        have HQ := Lib.hid hq; clear hq
        go_wp2_with (go_at_call 44; refine (l1All_any _ (nthL o k) 0 1 _ _ _ Us.out).mono ?_; rintro e w' ⟨rfl, rfl⟩; rw [show ((nthL o k).all fun x => inB x 0 1) = true from HQ.out])
        go_round
        case rel =>
          refine ⟨k + 1, by omega, by go_num, Lib.hid fun j hj => ?_⟩
          by_cases e : j = k
          · rw [e]; unfold portIn; rw [decide_eq_true HE.out, HQ.out]; rfl
          · exact HU.out j (by omega)
        case measure => simp [intOf]; omega
    obtain rfl : k = o.length := by omega
    have HPI := Lib.hid (show portsIn N o 0 1 = true by unfold portsIn; rw [decide_eq_true HL.out, rangeAll_true HU.out]; rfl)
    have HPB := Lib.hid (show portsB N o = true by have := HPI.out; rw [portsIn_eq, Bool.and_eq_true] at this; exact this.1)
    have HRI := Lib.hid (show rowsIn o 0 1 = true by have := HPI.out; rw [portsIn_eq, Bool.and_eq_true] at this; exact this.2)
    clear hlt hk
    go_wp2_with fail
    clear kbx1_0 kbx1_1 kbx1_2
    go_loopw [41] (fun jv wr => ∃ (k : Nat), k ≤ o.length ∧ jv = .int .i64 k ∧ Hid (∀ j, j < k → sumRow N o j = true) ∧ Hid (Turned WA.heap.size WA.heap.size WA wr)) (fun jv _ => o.length - (intOf jv).toNat)
    case atStart => exact ⟨0, Nat.zero_le _, rfl, Lib.hid fun j hj => absurd hj (by omega), Lib.hid (Turned.refl WA.heap.size WA.heap.size WA)⟩
    case round =>
      obtain ⟨k, hk, rfl, HV, HF2⟩ := hrel
      have hs2 := HF2.out.size
      obtain ⟨wq, rfl⟩ : ∃ wq : World, wq = wr := ⟨_, rfl⟩
      by_cases hlt : k < o.length
      case neg =>
        obtain rfl : k = o.length := by omega
        have HR := Lib.hid (show oriOk N o = true by rw [← HEQ.out]; unfold zeB; rw [HPI.out, rangeAll_true HV.out]; rfl)
        go_wp2_with fail
        go_ret
        exact ⟨ret_bool HR.out.symm, (HF2.out.below_of hbA (by omega) (by omega))⟩
      have kbx1_0 : wq.cell? ⟨w.heap.size, 0, none⟩ = some (.slice (some ⟨b1, o1, none⟩) N.ends.length c1) := (HF2.out.boxN bx1 (by omega)).cell 0 (by simp)
      have kbx1_1 : wq.cell? ⟨w.heap.size, 1, none⟩ = some (.slice A1' N.ids.length c1') := (HF2.out.boxN bx1 (by omega)).cell 1 (by simp)
      have kbx1_2 : wq.cell? ⟨w.heap.size, 2, none⟩ = some (.slice A1'' N.inputs.length c1'') := (HF2.out.boxN bx1 (by omega)).cell 2 (by simp)
      obtain ⟨Ar, cr, hbr, qr, hcr, hdr, hRr⟩ := Net.rowIn G1.out (Nat.lt_of_lt_of_le hlt hle)
      replace qr := (HF2.out.cell (by omega) (by omega)).trans qr
      have Rr := Lib.hid hRr; clear hRr
      obtain ⟨bs, os, us, rfl, _, hbs, zs, hus⟩ := SS.opened G2.out hlt
      replace zs := (HF2.out.cell (by omega) (by omega)).trans zs
      obtain ⟨As, cs, rfl, hcs, hds⟩ := hus.dims
      have Us := Lib.hid hus; clear hus
      have hki : (k : Int) < N.ends.length := by omega
      have hko : (k : Int) < o.length := by omega
      go_wp2_with fail
      clear kbx1_0 kbx1_1 kbx1_2 qr zs
      go_loopw [52] (fun mv wr => ∃ (i : Nat), i ≤ (nthL N.ends k).length ∧ mv = .int .i64 i ∧ Hid (∀ j, j < i → sumOk N o k j = true) ∧ Hid (Turned WA.heap.size WA.heap.size WA wr)) (fun mv _ => (nthL N.ends k).length - (intOf mv).toNat)
      case atStart => exact ⟨0, Nat.zero_le _, rfl, Lib.hid fun j hj => absurd hj (by omega), HF2⟩
      case round =>
        clear HF2
        obtain ⟨i, hi, rfl, HX, HF3⟩ := hrel
        have hs3 := HF3.out.size
        obtain ⟨wi, rfl⟩ : ∃ wi : World, wi = wr := ⟨_, rfl⟩
        by_cases hil : i < (nthL N.ends k).length
        case neg =>
          obtain rfl : i = (nthL N.ends k).length := by omega
          have HVN := Lib.hid (below_succY (p := fun j => sumRow N o j = true) HV.out (rangeAll_true HX.out))
          go_wp2_with fail
          go_roundw
          case rel => exact ⟨k + 1, by omega, by go_num, HVN, HF3⟩
          case measure => simp [intOf]; omega
        obtain ⟨br, or, rfl, _, hbr', er, er'⟩ := (EndS.turned Rr.out HF3.out (by omega) (by omega)).opened hil
        obtain ⟨t, r, etr, ht, hr, eur⟩ := good_end HG.out (Nat.lt_of_lt_of_le hlt hle) hil
        rw [etr] at er er'
        dsimp only at er er'
        have ETr := Lib.hid etr
        have EUr := Lib.hid eur
        clear etr eur
        have hii : (i : Int) < (nthL N.ends k).length := by omega
        have HEN := Lib.hid (show nthE (nthL N.ends k) i = ((t : Int), (r : Int)) from ETr.out)
        go_upto_region 15 with (fail)
        refine nameC ?_
        intro W4 HW4
        have hg4 : wi.grownBy W4 none := by rw [HW4.out]; exact grown_alloc _ _
        have hs4 := hg4.size
        have HF4 := Lib.hid (HF3.out.still hg4); clear HF3
        have bxe4 := Lib.hid (show BoxN W4 wi.heap.size #[.int .i64 t, .int .i64 r] 72 by rw [HW4.out]; exact BoxN.new _ _ _)
        clear HW4
        clear er er'
        have hl := HL.out
        have r1 := ports_row HPB.out (show k < N.ends.length by omega)
        have r2 := ports_row HPB.out ht
        obtain ⟨s1, s2⟩ := rows_val HRI.out (v := k) (i := i) (by omega) (by omega)
        obtain ⟨s3, s4⟩ := rows_val HRI.out (v := t) (i := r) (by omega) (by omega)
        have hto : t < o.length := by omega
        have hiko : i < (nthL o k).length := by omega
        have hrto : r < (nthL o t).length := by omega
        have i2 : (t : Int) < o.length := by omega
        have i3 : (i : Int) < (nthL o k).length := by omega
        have i4 : (r : Int) < (nthL o t).length := by omega
        clear hl r1 r2
        obtain ⟨uq, hbq, zq, huq⟩ := SS.openedIn G2.out hto
        replace zq := (HF4.out.cell (by omega) (by omega)).trans zq
        obtain ⟨Aq, cq, rfl, hcq, hdq⟩ := huq.dims
        have Uq := Lib.hid huq; clear huq
        obtain ⟨by1, oy1, rfl, _, hby1', xy1, _⟩ := (IntS.turned Us.out HF4.out (by omega) (by omega)).opened hiko
        obtain ⟨by2, oy2, rfl, _, hby2', xy2, _⟩ := (IntS.turned Uq.out HF4.out (by omega) (by omega)).opened hrto
        obtain ⟨p1, H1⟩ : ∃ s, Hid (nth (nthL o k) i = s) := ⟨_, Lib.hid rfl⟩
        obtain ⟨p2, H2⟩ : ∃ s, Hid (nth (nthL o t) r = s) := ⟨_, Lib.hid rfl⟩
        rw [H1.out] at xy1 s1 s2
        rw [H2.out] at xy2 s3 s4
        have hsum : IntKind.i64.wrap (p1 + p2) = p1 + p2 := IntWalk.i64_in _ (by omega)
        have kbxe_0 : W4.cell? ⟨wi.heap.size, 0, none⟩ = some (.int .i64 t) := bxe4.out.cell 0 (by simp)
        have kbxe_1 : W4.cell? ⟨wi.heap.size, 1, none⟩ = some (.int .i64 r) := bxe4.out.cell 1 (by simp)
        by_cases he : p1 + p2 = 1
        · have he' : ((p1 + p2 : Int) != 1) = false := by simp [he]
          have HE := Lib.hid he; clear he
          have HXN := Lib.hid (below_succY (p := fun j => sumOk N o k j = true) HX.out (by rw [sumOk_at HEN.out, H1.out, H2.out]; exact decide_eq_true HE.out))
          go_wp2_with fail
          go_quiet (fail)
          go_wp2_with fail
          go_roundw
          case rel => exact ⟨i + 1, by omega, by go_num, HXN, Lib.hid (HF4.out.still (grown_drewN _ _))⟩
          case measure => simp [intOf]; omega
        · have he' : ((p1 + p2 : Int) != 1) = true := by simpa using he
          have HE := Lib.hid he; clear he
          have HR := Lib.hid (show oriOk N o = false by rw [← HEQ.out]; unfold zeB; rw [rangeAll_false hlt (rangeAll_false hil (by rw [sumOk_at HEN.out, H1.out, H2.out]; exact decide_eq_false HE.out)), Bool.and_false])
          go_wp2_with fail
          go_quiet (fail)
          go_wp2_with fail
          go_ret
          exact ⟨ret_bool HR.out.symm, below_drewN (HF4.out.below_of hbA (by omega) (by omega)) _⟩

end Go.Proofs.YtkcbocoimbhhaaaGreat

/- Plain: the greedy choice is the first one; every row of an orientation has a choice. -/
namespace Go.Proofs.YtkcbocoimbhhaaaGreat
open Go.ChangeShapes Go.WideShapes Go.ChangeAt Go.RowKit
set_option linter.unusedVariables false

theorem firstC_pre {good : List Int → Bool} {r : List Int} : ∀ {lists : List (List Int)} {pre : List Int}, firstC good lists pre = some r → ∃ t, r = pre ++ t ∧ t.length = lists.length
  | [], pre, h => by
    unfold firstC at h
    split at h
    · injection h with h; exact ⟨[], by simp [h], rfl⟩
    · cases h
  | l :: ls, pre, h => by
    unfold firstC at h
    obtain ⟨a, _, ha⟩ := List.exists_of_findSome?_eq_some h
    obtain ⟨t, e, hl⟩ := firstC_pre ha
    exact ⟨a :: t, by rw [e]; simp, by simp [hl]⟩
theorem ascI_sorted (n : Nat) (f : Nat → Bool) : (ascI n f).Pairwise (· < ·) := by
  unfold ascI ascN
  rw [List.pairwise_map]
  exact (List.pairwise_lt_range.filter _).imp (fun h => by omega)
theorem greedy_step {good : List Int → Bool} {lists : List (List Int)} {c : List Int} {i : Nat} (hi : i < lists.length) (hcl : c.length = lists.length) (h : firstC good (lists.drop i) (c.take i) = some c) (hs : (nthL lists i).Pairwise (· < ·)) :
    nth c i ∈ nthL lists i ∧ firstC good (lists.drop (i + 1)) (c.take (i + 1)) = some c ∧ ∀ a ∈ nthL lists i, a < nth c i → firstC good (lists.drop (i + 1)) (c.take i ++ [a]) = none := by
  rw [firstC_at hi] at h
  obtain ⟨l1, a, l2, e1, e2, e3⟩ := List.findSome?_eq_some_iff.1 h
  obtain ⟨t, et, _⟩ := firstC_pre e2
  have hic : i < c.length := by omega
  have htl : (c.take i).length = i := by simp; omega
  have hci : nth c i = a := by
    rw [nth_eq hic]
    have : c[i]? = some a := by rw [et, List.getElem?_append_left (by simp; omega), List.getElem?_append_right (by omega), htl, Nat.sub_self]; rfl
    rw [List.getElem?_eq_getElem hic] at this
    injection this
  have hts : c.take (i + 1) = c.take i ++ [a] := by rw [List.take_succ_eq_append_getElem hic, ← nth_eq hic, hci]
  refine ⟨by rw [hci, e1]; simp, by rw [hts]; exact e2, fun b hb hlt => ?_⟩
  rw [hci] at hlt
  rw [e1] at hb hs
  rcases List.mem_append.1 hb with hb | hb
  · exact e3 b hb
  · exfalso
    rcases List.mem_cons.1 hb with rfl | hb
    · omega
    · have := (List.pairwise_cons.1 (List.pairwise_append.1 hs).2.1).1 b hb
      omega
theorem firstC_ones {good : List Int → Bool} {ls : List (List Int)} : ∀ (q p : List Int), firstC good (q.map (fun z => [z]) ++ ls) p = firstC good ls (p ++ q)
  | [], p => by simp
  | a :: q, p => by
    rw [List.map_cons, List.cons_append]
    show [a].findSome? (fun a => firstC good (q.map (fun z => [z]) ++ ls) (p ++ [a])) = _
    rw [List.findSome?_cons, firstC_ones q, List.append_assoc]
    rw [show [a] ++ q = a :: q from rfl]
    cases firstC good ls (p ++ a :: q) <;> rfl
theorem choose_step {P : PrD} {ms : List Nat} {lists : List (List Int)} {q : List Int} (hg : P.good = true) (hs : SameL ms lists) (hl : (lists.length : Int) = P.D) (hq : q.length ≤ lists.length) (h0 : ∀ z ∈ q, 0 ≤ z) :
    chooseB P (q.map (fun z => 2 ^ z.toNat) ++ ms.drop q.length) = (firstC (nodeB P) (lists.drop q.length) q).isSome := by
  rw [← List.nil_append q, ← firstC_ones q [], List.nil_append]
  refine choose_first hg ⟨by simp [hs.1], fun k hk a => ?_⟩ (by simp; omega)
  unfold nthL
  rw [List.getD_eq_getElem?_getD, List.getD_eq_getElem?_getD, List.getElem?_append, List.getElem?_append, List.length_map, List.length_map]
  by_cases h : k < q.length
  · rw [if_pos h, if_pos h, List.getElem?_map, List.getElem?_map, List.getElem?_eq_getElem h]
    have hz := h0 _ (List.getElem_mem h)
    simp [Nat.testBit_two_pow]
    omega
  · rw [if_neg h, if_neg h, List.getElem?_drop, List.getElem?_drop, show q.length + (k - q.length) = k by omega]
    have hk2 : k < lists.length := by simp at hk; omega
    have := hs.2 k hk2 a
    unfold nthL at this
    rw [List.getD_eq_getElem?_getD, List.getD_eq_getElem?_getD] at this
    exact this
theorem choose_at {P : PrD} {ms : List Nat} {lists : List (List Int)} {c : List Int} {i : Nat} (hg : P.good = true) (hs : SameL ms lists) (hl : (lists.length : Int) = P.D) (hcl : c.length = lists.length) (h0 : ∀ z ∈ c, 0 ≤ z) (hi : i < lists.length) (a : Nat) :
    chooseB P ((c.take i).map (fun z => 2 ^ z.toNat) ++ 2 ^ a :: ms.drop (i + 1)) = (firstC (nodeB P) (lists.drop (i + 1)) (c.take i ++ [(a : Int)])).isSome := by
  have htl : (c.take i ++ [(a : Int)]).length = i + 1 := by simp; omega
  have := choose_step (q := c.take i ++ [(a : Int)]) hg hs hl (by omega) (fun z hz => by
    rcases List.mem_append.1 hz with h | h
    · exact h0 z (List.mem_of_mem_take h)
    · simp at h; omega)
  rw [htl] at this
  rw [← this, List.map_append, List.append_assoc]
  simp
/-- a choice from lists -/
def Ch : List (List Int) → List Int → Prop
  | [], [] => True
  | l :: ls, a :: us => a ∈ l ∧ Ch ls us
  | _, _ => False
theorem firstC_ch {good : List Int → Bool} : ∀ {lists : List (List Int)} {pre : List Int}, (firstC good lists pre).isSome = true ↔ ∃ c, Ch lists c ∧ good (pre ++ c) = true
  | [], pre => by
    unfold firstC
    constructor
    · intro h
      refine ⟨[], trivial, ?_⟩
      rw [List.append_nil]
      by_cases hg : good pre = true
      · exact hg
      · rw [if_neg hg] at h; cases h
    · rintro ⟨c, hc, hg⟩
      cases c with
      | nil => rw [List.append_nil] at hg; rw [if_pos hg]; rfl
      | cons a us => exact absurd hc (by simp [Ch])
  | l :: ls, pre => by
    unfold firstC
    rw [List.findSome?_isSome_iff]
    constructor
    · rintro ⟨a, ha, h⟩
      obtain ⟨c, h1, h2⟩ := firstC_ch.1 h
      exact ⟨a :: c, ⟨ha, h1⟩, by simpa using h2⟩
    · rintro ⟨c, hc, hg⟩
      cases c with
      | nil => exact absurd hc (by simp [Ch])
      | cons a us => exact ⟨a, hc.1, firstC_ch.2 ⟨us, hc.2, by simpa using hg⟩⟩
theorem ch_perm {l1 l2 : List (List Int)} (h : l1.Perm l2) : ∀ c1, Ch l1 c1 → ∃ c2, c1.Perm c2 ∧ Ch l2 c2 := by
  induction h with
  | nil => intro c1 h1; exact ⟨c1, List.Perm.refl _, h1⟩
  | cons x _ ih =>
    intro c1 h1
    cases c1 with
    | nil => exact absurd h1 (by simp [Ch])
    | cons a us =>
      obtain ⟨c2, p, h2⟩ := ih us h1.2
      exact ⟨a :: c2, p.cons a, h1.1, h2⟩
  | swap x y l =>
    intro c1 h1
    match c1, h1 with
    | [], h1 => exact absurd h1 (by simp [Ch])
    | [_], h1 => exact absurd h1.2 (by simp [Ch])
    | a :: b :: us, h1 => exact ⟨b :: a :: us, List.Perm.swap b a us, h1.2.1, h1.1, h1.2.2⟩
  | trans _ _ i1 i2 =>
    intro c1 h1
    obtain ⟨c2, p, h2⟩ := i1 c1 h1
    obtain ⟨c3, q, h3⟩ := i2 c2 h2
    exact ⟨c3, p.trans q, h3⟩
theorem nodeB_perm {P : PrD} {a b : List Int} (h : a.Perm b) : nodeB P a = nodeB P b := by
  unfold nodeB
  rw [sortI_of_perm (h.trans (sortI_perm b).symm) (sortI_sorted b)]
theorem row_perm {α : Type} (o i : α) : ∀ row : List Int, (row.map fun x => if x = 1 then o else i).Perm (List.replicate (onesI row) o ++ List.replicate (row.length - onesI row) i)
  | [] => List.Perm.refl _
  | x :: row => by
    have ih := row_perm o i row
    have hl := onesI_le row
    rw [List.map_cons]
    by_cases h : x = 1
    · have e : onesI (x :: row) = onesI row + 1 := by unfold onesI; simp [h]
      rw [if_pos h, e, List.replicate_succ, show (x :: row).length - (onesI row + 1) = row.length - onesI row by simp]
      exact ih.cons o
    · have e : onesI (x :: row) = onesI row := by unfold onesI; simp [h]
      rw [if_neg h, e, show (x :: row).length - onesI row = (row.length - onesI row) + 1 by simp; omega, List.replicate_succ]
      exact (ih.cons i).trans List.perm_middle.symm
/-- the labels of a row that is not full -/
def plainL (P : PrD) (S : Nat) (row : List Int) : List Int := row.map fun x => nth (if x = 1 then zoOut P.L.toNat S else zoIn P P.L.toNat S) 0
theorem firstC_heads {good : List Int → Bool} (hg : ∀ z, good z = true) (f : Int → List Int) : ∀ (row pre : List Int), (∀ x ∈ row, 1 ≤ (f x).length) → firstC good (row.map fun x => (f x).take 1) pre = some (pre ++ row.map fun x => nth (f x) 0)
  | [], pre, _ => by unfold firstC; simp [hg]
  | x :: row, pre, h => by
    have hx := h x (by simp)
    have ih := firstC_heads hg f row (pre ++ [nth (f x) 0]) (fun y hy => h y (by simp [hy]))
    rw [List.map_cons]
    show ((f x).take 1).findSome? (fun a => firstC good (row.map fun x => (f x).take 1) (pre ++ [a])) = _
    have e : (f x).take 1 = [nth (f x) 0] := by
      cases hf : f x with
      | nil => rw [hf] at hx; simp at hx
      | cons a us => rfl
    rw [e, List.findSome?_cons, ih]
    simp
theorem rowO_plain {P : PrD} {S : Nat} (h : zoS P = some S) {row : List Int} (hf : fullB P row = false) : rowO P S row = some (plainL P S row) := by
  unfold rowO plainL
  obtain ⟨h1, h2⟩ := zo_ne h
  have ht : ∀ z, testO P row.length z = true := fun z => by
    unfold testO
    rw [if_neg (of_decide_eq_false hf)]
  have := firstC_heads ht (fun x => if x = 1 then zoOut P.L.toNat S else zoIn P P.L.toNat S) row [] (fun x _ => by split <;> assumption)
  rw [List.nil_append] at this
  rw [← this]
  congr 1
  apply List.map_congr_left
  intro x _
  unfold selL
  rw [hf]
  rfl
theorem rowO_full {P : PrD} {S : Nat} {row : List Int} (hf : fullB P row = true) : rowO P S row = firstC (nodeB P) (row.map fun x => if x = 1 then zoOut P.L.toNat S else zoIn P P.L.toNat S) [] := by
  unfold rowO
  have e : testO P row.length = nodeB P := by
    funext z; unfold testO; rw [if_pos (of_decide_eq_true hf)]
  rw [e]
  congr 1
  apply List.map_congr_left
  intro x _
  unfold selL
  rw [hf]
  rfl
theorem rowO_some {P : PrD} {S : Nat} (h : zoS P = some S) (row : List Int) : (rowO P S row).isSome = true := by
  cases hf : fullB P row with
  | false => rw [rowO_plain h hf]; rfl
  | true =>
    rw [rowO_full hf, firstC_ch]
    have hD : (row.length : Int) = P.D := of_decide_eq_true hf
    have hl := onesI_le row
    have hfit := zoS_fits h (j := onesI row) (by omega)
    unfold fitsB repL at hfit
    rw [show P.D.toNat = row.length by omega] at hfit
    obtain ⟨c, hc, hgc⟩ := firstC_ch.1 hfit
    obtain ⟨c2, p, h2⟩ := ch_perm (row_perm (zoOut P.L.toNat S) (zoIn P P.L.toNat S) row).symm c hc
    refine ⟨c2, h2, ?_⟩
    rw [List.nil_append] at hgc ⊢
    rw [← nodeB_perm p]; exact hgc
end Go.Proofs.YtkcbocoimbhhaaaGreat

/- Contract: zeFirst (reference). -/
namespace Go.Proofs.YtkcbocoimbhhaaaGreat
open Go.ChangeShapes Go.WideShapes Go.ChangeAt Go.RowKit
set_option linter.unusedVariables false

theorem set_mid {p r : List Nat} {u i : Nat} (y : Nat) (hi : p.length = i) : ((p ++ u :: r).map fun (m : Nat) => (m : Int)).set i (y : Nat) = (p ++ y :: r).map fun (m : Nat) => (m : Int) := by
  subst hi
  rw [List.map_append, List.map_cons, List.map_append, List.map_cons, List.set_append_right _ _ (by simp), List.length_map, Nat.sub_self]
  rfl
def preM (c : List Int) (i : Nat) : List Nat := (c.take i).map fun z => 2 ^ z.toNat
theorem preM_len {c : List Int} {i : Nat} (h : i ≤ c.length) : (preM c i).length = i := by unfold preM; simp; omega
def rowM (ms : List Nat) (c : List Int) (i : Nat) : List Nat := preM c i ++ ms.drop i
theorem rowM_zero (ms : List Nat) (c : List Int) : rowM ms c 0 = ms := by simp [rowM, preM]
theorem rowM_open {ms : List Nat} {i : Nat} (c : List Int) (hi : i < ms.length) : rowM ms c i = preM c i ++ ms.getD i 0 :: ms.drop (i + 1) := by
  unfold rowM
  rw [List.drop_eq_getElem_cons hi, show ms.getD i 0 = ms[i] by simp [hi]]
theorem rowM_next {ms : List Nat} {c : List Int} {i a : Nat} (hi : i < c.length) (ha : nth c i = (a : Int)) : preM c i ++ 2 ^ a :: ms.drop (i + 1) = rowM ms c (i + 1) := by
  unfold rowM preM
  rw [List.take_succ_eq_append_getElem hi, ← nth_eq hi, ha]
  simp
theorem rowM_low {ms : List Nat} {c : List Int} {i y : Nat} (hm : ∀ m ∈ ms, m < 1000000) (hc : ∀ z ∈ c, 0 ≤ z ∧ z < 8) (hy : y < 1000000) : ∀ m ∈ preM c i ++ y :: ms.drop (i + 1), m < 1000000 := by
  intro m h
  rcases List.mem_append.1 h with h | h
  · unfold preM at h
    obtain ⟨z, hz, rfl⟩ := List.mem_map.1 h
    have h8 := hc z (List.mem_of_mem_take hz)
    have := Nat.pow_le_pow_right (n := 2) (by decide) (show z.toNat ≤ 8 by omega)
    omega
  · rcases List.mem_cons.1 h with h | h
    · omega
    · exact hm m (List.mem_of_mem_drop h)
theorem firstC_all {good : List Int → Bool} {p : Int → Prop} {r : List Int} : ∀ {lists : List (List Int)} {pre : List Int}, firstC good lists pre = some r → (∀ l ∈ lists, ∀ a ∈ l, p a) → (∀ a ∈ pre, p a) → ∀ z ∈ r, p z
  | [], pre, h, _, hp => by
    unfold firstC at h
    split at h
    · injection h with h; subst h; exact hp
    · cases h
  | l :: ls, pre, h, hl, hp => by
    unfold firstC at h
    obtain ⟨a, ha, hr⟩ := List.exists_of_findSome?_eq_some h
    refine firstC_all hr (fun l' h' => hl l' (by simp [h'])) (fun b hb => ?_)
    rcases List.mem_append.1 hb with hb | hb
    · exact hp b hb
    · simp at hb; subst hb; exact hl l (by simp) _ ha

set_option maxHeartbeats 4000000 in
set_option maxRecDepth 100000 in
theorem zeFirst_any (v1 : Value) (P : PrD) (lo1 hi1 : Nat) (v2 : Value) (zm : List Int) (lo2 hi2 : Nat) (w : World) (h1 : Pro w lo1 hi1 v1 P) (hh1 : hi1 ≤ w.heap.size) (h2 : IntS w lo2 hi2 v2 zm) (hh2 : hi2 ≤ w.heap.size) (ms : List Nat) (ls : List (List Int)) (cc : List Int) (n D : Nat) (hz : zm = ms.map fun (m : Nat) => (m : Int)) (hg : P.good = true) (hL : P.L = (n : Nat)) (hD : P.D = (D : Nat)) (hs : SameL ms ls) (hl : ls.length = D) (ha : ∀ k, k < ls.length → ∃ f, nthL ls k = ascI n f) (hms : ∀ m ∈ ms, m < 1000000) (hc : firstC (nodeB P) ls [] = some cc) :
    Calls Tryz.prog 25 #[v1, v2] w fun e w' => ∃ r, e = .returned (r) ∧ IntS w' w.heap.size w'.heap.size r (cc) ∧ Below w.heap.size w w' := by
  have HZM := Lib.hid hz; clear hz
  have HG := Lib.hid hg; clear hg
  have HL8 := Lib.hid hL; have HD8 := Lib.hid hD; have HSL := Lib.hid hs; have HLS := Lib.hid hl; have HA := Lib.hid ha; have HMS := Lib.hid hms; have HC := Lib.hid hc
  clear hL hD hs hl ha hms hc
  have hnd : n ≤ 8 ∧ 1 ≤ D ∧ D ≤ 4 := by
    obtain ⟨a, b, h1, h2, h3, h4, h5, h6⟩ := prd_LD HG.out
    have := HL8.out; have := HD8.out
    omega
  obtain ⟨n8, d1, d4⟩ := hnd
  have HCL := Lib.hid (show cc.length = D by have := firstC_len HC.out; have := HLS.out; simp at *; omega)
  have HZL := Lib.hid (show zm.length = D by rw [HZM.out, List.length_map, HSL.out.1, HLS.out])
  have HML := Lib.hid (show ms.length = D by rw [HSL.out.1, HLS.out])
  have HC0 := Lib.hid (show ∀ z ∈ cc, 0 ≤ z ∧ z < 8 from firstC_all HC.out (fun l hl a hla => by
    obtain ⟨k, hk, e⟩ := List.mem_iff_getElem.1 hl
    obtain ⟨f, hf⟩ := HA.out k hk
    rw [nthL_eq hk, e] at hf
    rw [hf] at hla
    obtain ⟨x, hx, _, rfl⟩ := ascI_mem.1 hla
    omega) (fun a h => by simp at h))
  have F1 := Lib.hid h1
  obtain ⟨A1, c1, A1', c1', rfl, hc1, hd1⟩ := h1.parts
  clear h1
  have F2 := Lib.hid h2
  obtain ⟨A2, c2, rfl, hc2, hd2⟩ := h2.dims
  clear h2
  obtain ⟨WA, HWA⟩ : ∃ W, Hid (W = (w.alloc (.cells #[.int .i64 P.L, .int .i64 P.D, .slice A1 P.nodes.length c1, .slice A1' P.edges.length c1'] 34))) := ⟨_, Lib.hid rfl⟩
  have hbA : Below w.heap.size w WA := by rw [HWA.out]; exact ((Below.refl _ _).alloc (Nat.le_refl _) _)
  have hsA : w.heap.size + 1 ≤ WA.heap.size := by rw [HWA.out]; simp; try omega
  have bx1 : BoxN WA (w.heap.size) #[.int .i64 P.L, .int .i64 P.D, .slice A1 P.nodes.length c1, .slice A1' P.edges.length c1'] 34 := by rw [HWA.out]; exact (BoxN.new' _ _ _ (by simp))
  have G1 := Lib.hid (Pro.below F1.out hbA hh1); clear F1
  have G2 := Lib.hid (IntS.below F2.out hbA hh2); clear F2
  go_enter Tryz.func25, Tryz.ntmps25
  go_upto_region 1 with (fail)
  rw [← HWA.out]; clear HWA
  rw [HL8.out] at bx1 G1
  rw [HZL.out] at G2 hc2
  try rw [HL8.out]
  try rw [HZL.out]
  obtain ⟨bz, oz, rfl, _, hbz, _, _⟩ := G2.out.opened (j := 0) (by rw [HZL.out]; omega)
  go_wp2_with fail
  refine (l1OwnO_any bz oz D c2 zm HZL.out _ (fun j hj => (G2.out.at_ (j := j) (by rw [HZL.out]; exact hj)).1) (by omega) (by omega)).mono ?_
  rintro e W1 ⟨rv, rfl, hrv, hb1⟩
  have hg1 := grown_below hb1; clear hb1
  have hs1 := hg1.size
  have HF1 := Lib.hid ((Turned.refl WA.heap.size WA.heap.size WA).still hg1)
  have hr0 := hrv.ints
  clear hrv
  obtain ⟨Ar, cr, rfl, hcr, hdr⟩ := hr0.dims
  rw [HZL.out] at hr0 hcr
  try rw [HZL.out]
  obtain ⟨br, orr, rfl, hbr1, hbr2, _, _⟩ := hr0.opened (j := 0) (by rw [HZL.out]; omega)
  have HR0 := Lib.hid hr0; clear hr0
  go_wp2_with fail
  have P_1 := Lib.hid (Pro.turned G1.out HF1.out (by omega) (by omega)); clear G1
  have zm_1 := Lib.hid (IntS.turned G2.out HF1.out (by omega) (by omega)); clear G2
  have bx1_1 := HF1.out.boxN bx1 (by omega); clear bx1
  have hbA1 : Below w.heap.size w W1 := (HF1.out.below_of hbA (by omega) (by omega)); clear hbA HF1
  go_loopw [13, 6] (fun iv ov wr => ∃ (i : Nat) (zr : List Int), i ≤ D ∧ iv = .int .i64 i ∧ Hid (OwnI wr W1.heap.size 3 ov (cc.take i)) ∧ Hid (IntS wr WA.heap.size W1.heap.size (.slice (some ⟨br, orr, none⟩) D cr) zr) ∧ Hid (zr = (rowM ms cc i).map fun (m : Nat) => (m : Int)) ∧ Hid (firstC (nodeB P) (ls.drop i) (cc.take i) = some cc) ∧ Hid (Turned WA.heap.size W1.heap.size W1 wr)) (fun iv ov _ => D - (intOf iv).toNat)
  case atStart => exact ⟨0, zm, Nat.zero_le _, rfl, Lib.hid (OwnI.nil _ _ _), HR0, Lib.hid (by rw [rowM_zero]; exact HZM.out), Lib.hid HC.out, Lib.hid (Turned.refl WA.heap.size W1.heap.size W1)⟩
  case round =>
    obtain ⟨i, zr, hi, rfl, HO, HR, HZR, HGR, HF2⟩ := hrel
    have hs2 := HF2.out.size
    obtain ⟨wq, rfl⟩ : ∃ wq : World, wq = wr := ⟨_, rfl⟩
    by_cases hlt : i < D
    case neg =>
      obtain rfl : i = D := by omega
      have HTK := Lib.hid (show cc.take i = cc from List.take_of_length_le (by rw [HCL.out]; exact Nat.le_refl _))
      rw [HTK.out] at HO
      obtain ⟨Ao, co, rfl, hco, hdo⟩ := HO.out.ints.dims
      go_wp2_with fail
      go_ret
      exact ⟨_, rfl, HO.out.ints.mono (by omega) (Nat.le_refl _), (HF2.out.below_of hbA1 (by omega) (by omega))⟩
    have hil : i < ls.length := by rw [HLS.out]; exact hlt
    have HST := Lib.hid (greedy_step hil (by rw [HCL.out, HLS.out]) HGR.out (by obtain ⟨f, e⟩ := HA.out i hil; rw [e]; exact ascI_sorted n f))
    obtain ⟨mk, HMK⟩ : ∃ m, Hid (ms.getD i 0 = m) := ⟨_, Lib.hid rfl⟩
    obtain ⟨ci, HCI, hcin, HBT⟩ : ∃ ci : Nat, Hid (nth cc i = (ci : Int)) ∧ ci < n ∧ Hid (mk.testBit ci = true) := by
      obtain ⟨f, e⟩ := HA.out i hil
      have h1 := HST.out.1
      have h2 := ((HSL.out.2 i hil _).1 h1).2
      rw [e] at h1
      obtain ⟨x, hx, _, ex⟩ := ascI_mem.1 h1
      rw [ex, HMK.out] at h2
      exact ⟨x, Lib.hid ex, hx, Lib.hid (by simpa using h2)⟩
    have hmk : mk < 1000000 := by rw [← HMK.out]; exact HMS.out _ (by rw [show ms.getD i 0 = ms[i]'(by rw [HML.out]; exact hlt) by simp [HML.out, hlt]]; exact List.getElem_mem _)
    have HZK := Lib.hid (show nth zm i = (mk : Int) by rw [HZM.out, nth_map ms (by rw [HML.out]; exact hlt), HMK.out])
    have HPL := Lib.hid (preM_len (c := cc) (i := i) (by rw [HCL.out]; omega))
    have HZR2 := Lib.hid (show zr = (preM cc i ++ mk :: ms.drop (i + 1)).map fun (m : Nat) => (m : Int) by rw [HZR.out, rowM_open cc (by rw [HML.out]; exact hlt), HMK.out])
    have hiD : (i : Int) < D := by omega
    clear hil
    obtain ⟨ov, rfl⟩ : ∃ z : Value, z = u6 := ⟨_, rfl⟩
    go_wp2_with fail
    go_loopw [8, 6] (fun av ov2 wr => ∃ (a : Nat) (zr2 : List Int) (u : Nat), a ≤ ci ∧ av = .int .i64 a ∧ ov = ov2 ∧ Hid (OwnI wr W1.heap.size 3 ov (cc.take i)) ∧ Hid (IntS wr WA.heap.size W1.heap.size (.slice (some ⟨br, orr, none⟩) D cr) zr2) ∧ Hid (zr2 = (preM cc i ++ u :: ms.drop (i + 1)).map fun (m : Nat) => (m : Int)) ∧ Hid (Turned WA.heap.size W1.heap.size W1 wr)) (fun av ov2 _ => n - (intOf av).toNat)
    case atStart => exact ⟨0, zr, mk, Nat.zero_le _, rfl, rfl, HO, HR, HZR2, HF2⟩
    case round =>
      clear HF2
      obtain ⟨a, zr2, u, ha, rfl, rfl, HO2, HR2, HZ2, HF3⟩ := hrel
      have hs3 := HF3.out.size
      obtain ⟨wi, rfl⟩ : ∃ wi : World, wi = wr := ⟨_, rfl⟩
      have kbx1_0 : wi.cell? ⟨w.heap.size, 0, none⟩ = some (.int .i64 (n : Nat)) := (HF3.out.boxN bx1_1 (by omega)).cell 0 (by simp)
      have kbx1_1 : wi.cell? ⟨w.heap.size, 1, none⟩ = some (.int .i64 P.D) := (HF3.out.boxN bx1_1 (by omega)).cell 1 (by simp)
      have kbx1_2 : wi.cell? ⟨w.heap.size, 2, none⟩ = some (.slice A1 P.nodes.length c1) := (HF3.out.boxN bx1_1 (by omega)).cell 2 (by simp)
      have kbx1_3 : wi.cell? ⟨w.heap.size, 3, none⟩ = some (.slice A1' P.edges.length c1') := (HF3.out.boxN bx1_1 (by omega)).cell 3 (by simp)
      have han : (a : Int) < n := by omega
      have xm := ((IntS.turned zm_1.out HF3.out (by omega) (by omega)).at_ (by rw [HZL.out]; exact hlt)).1
      rw [HZK.out] at xm
      go_wp2_with fail
      clear xm kbx1_0 kbx1_1 kbx1_2 kbx1_3
      refine (soIn_any mk a _ hmk (by omega)).mono ?_
      rintro e w' ⟨rfl, rfl⟩
      cases hb : mk.testBit a with
      | false =>
        have hne : a ≠ ci := fun e => by rw [e, HBT.out] at hb; cases hb
        clear hb
        go_wp2_with fail
        go_roundw
        case rel => exact ⟨a + 1, zr2, u, by omega, by go_num, rfl, HO2, HR2, HZ2, HF3⟩
        case measure => simp [intOf]; omega
      | true =>
        have HB := Lib.hid hb; clear hb
        obtain ⟨pa, HP⟩ : ∃ p, Hid (2 ^ a = p) := ⟨_, Lib.hid rfl⟩
        have hpa : pa ≤ 256 := by rw [← HP.out]; exact Nat.pow_le_pow_right (n := 2) (j := 8) (by decide) (by omega)
        have HPW := Lib.hid (show Go.RowKit.wrap64 (2 ^ a) = (pa : Int) by rw [pow64 (show a < 12 by omega), HP.out])
        have hux : IntKind.u64.wrap (a : Int) = (a : Int) := IntWalk.u64_in _ (by omega)
        obtain ⟨x1, x2⟩ := HR2.out.at_ (j := i) (by rw [HZ2.out, List.length_map, List.length_append, HPL.out]; simp)
        have HS := Lib.hid (HR2.out.set (j := i) (by rw [HZ2.out, List.length_map, List.length_append, HPL.out]; simp) (pa : Nat))
        rw [HZ2.out, set_mid pa HPL.out] at HS
        obtain ⟨y, HY⟩ : ∃ y, Hid (nth zr2 i = y) := ⟨_, Lib.hid rfl⟩
        rw [HY.out] at x1
        have hpw := HPW.out
        go_upto_region 11 with (fail)
        refine nameC ?_
        intro W4 HW4
        have hg4 : wi.grownBy W4 (some br) := by rw [HW4.out]; exact grown_set _ _ _
        have hs4 := hg4.size
        have HF4 := Lib.hid (HF3.out.grown hg4 (fun g hg => by cases hg; omega)); clear HF3
        have O4 := Lib.hid (OwnI.far HO2.out hg4 (fun g hg => .inl (by cases hg; omega))); clear HO2
        have HRN : Hid (IntS W4 WA.heap.size W1.heap.size (.slice (some ⟨br, orr, none⟩) D cr) ((preM cc i ++ pa :: ms.drop (i + 1)).map fun (m : Nat) => (m : Int))) := by rw [HW4.out]; exact HS
        clear HW4 HS x1 x2 HY y hpw
        have kbx1_0 : W4.cell? ⟨w.heap.size, 0, none⟩ = some (.int .i64 (n : Nat)) := (HF4.out.boxN bx1_1 (by omega)).cell 0 (by simp)
        have kbx1_1 : W4.cell? ⟨w.heap.size, 1, none⟩ = some (.int .i64 P.D) := (HF4.out.boxN bx1_1 (by omega)).cell 1 (by simp)
        have kbx1_2 : W4.cell? ⟨w.heap.size, 2, none⟩ = some (.slice A1 P.nodes.length c1) := (HF4.out.boxN bx1_1 (by omega)).cell 2 (by simp)
        have kbx1_3 : W4.cell? ⟨w.heap.size, 3, none⟩ = some (.slice A1' P.edges.length c1') := (HF4.out.boxN bx1_1 (by omega)).cell 3 (by simp)
        go_wp2_with fail
        clear kbx1_0 kbx1_1 kbx1_2 kbx1_3
        have HMB := Lib.hid (rowM_low (i := i) HMS.out HC0.out (show pa < 1000000 by omega))
        have HCH := Lib.hid (choose_at HG.out HSL.out (by rw [HLS.out, HD8.out]) (by rw [HCL.out, HLS.out]) (fun z hz => (HC0.out z hz).1) (show i < ls.length by rw [HLS.out]; exact hlt) a)
        rw [HP.out] at HCH
        refine (soChoose_any _ P _ _ _ _ _ _ _ (Pro.turned P_1.out HF4.out (by omega) (by omega)) (by omega) HRN.out (by omega) _ rfl HG.out HMB.out).mono ?_
        rintro e W5 ⟨rfl, hb5⟩
        have hg5 := grown_below hb5; clear hb5
        have hs5 := hg5.size
        have HF5 := Lib.hid (HF4.out.still hg5); clear HF4
        have O5 := Lib.hid (OwnI.still O4.out hg5); clear O4
        have R5 := Lib.hid (IntS.still HRN.out hg5 (by omega)); clear HRN
        rw [show chooseB P (preM cc i ++ pa :: ms.drop (i + 1)) = _ from HCH.out]
        by_cases hac : a = ci
        case pos =>
          subst hac
          have HTS := Lib.hid (show cc.take (i + 1) = cc.take i ++ [(a : Int)] by rw [List.take_succ_eq_append_getElem (by rw [HCL.out]; exact hlt), ← nth_eq (by rw [HCL.out]; exact hlt), HCI.out])
          rw [show (firstC (nodeB P) (ls.drop (i + 1)) (cc.take i ++ [(a : Int)])).isSome = true by rw [← HTS.out, HST.out.2.1]; rfl]
          have HLT := Lib.hid O5.out.lt
          have hll : (cc.take i).length ≤ 4 := by rw [List.length_take]; omega
          have HRX := Lib.hid (rowM_next (ms := ms) (show i < cc.length by rw [HCL.out]; exact hlt) HCI.out)
          rw [HP.out] at HRX
          go_wp2_with (at_builtin; refine append_int (s := .tmp 38) Tryz.underlying26 Tryz.info3 (by decide) W5 rfl _ rfl O5.out a _ rfl (by simp [Act.eval, go_sem]) (by simp; omega) (by omega) ?_; intro v' w' ho' hg' hat')
          go_roundw
          case rel => exact ⟨i + 1, _, by omega, by go_num, Lib.hid (by rw [HTS.out]; exact ho'), Lib.hid (IntS.far R5.out hg' (by omega) (fun g e => by have := HLT.out g e; omega)), Lib.hid (by rw [HRX.out]), Lib.hid HST.out.2.1, Lib.hid (HF5.out.grown hg' fun g e => .inr (HLT.out g e).1)⟩
          case measure => simp [intOf]; omega
        have HNC := Lib.hid (HST.out.2.2 (a : Int) ((HSL.out.2 i (by rw [HLS.out]; exact hlt) _).2 ⟨by omega, by rw [HMK.out]; simpa using HB.out⟩) (by rw [HCI.out]; omega))
        rw [show (firstC (nodeB P) (ls.drop (i + 1)) (cc.take i ++ [(a : Int)])).isSome = false by rw [HNC.out]; rfl]
        go_wp2_with fail
        go_roundw
        case rel => exact ⟨a + 1, _, pa, by omega, by go_num, rfl, O5, R5, Lib.hid rfl, HF5⟩
        case measure => simp [intOf]; omega

end Go.Proofs.YtkcbocoimbhhaaaGreat
