/-
  Contracts: slices.Compact, slices.Contains at []bool, near with a row of its own, the closure of GreedyDominating.
-/
import Derived.Test.YtoebgfmnjjiddaaDomP
import Derived.Test.YtoebgfmnjjiddaaBasics
import Derived.Test.YtoebgfmnjjiddaaPut2
import Derived.Test.YtoebgfmnjjiddaaReg
import Derived.Deep.AppendLies
import Derived.Lib.Hide
namespace Go.Proofs.Ytoebgfmnjjiddaa
open Go.ChangeShapes Go.WideShapes Go.ChangeAt Go.RowKit
set_option linter.unusedVariables false

open Go.Sort in
/-- slices.Compact -/
theorem compact_any (v : Value) (zs : List Int) (lo hi : Nat) (w : World) (h : IntS w lo hi v zs) (hhi : hi ≤ w.heap.size) (hn : zs.length ≤ 16777216) :
    Calls Try.prog 83 #[v] w fun e w' => ∃ r, e = .returned r ∧ IntS w' lo hi r (Lib.compact zs) ∧ w.grownBy w' (rowOf zs.length v) := by
  obtain ⟨A, c, rfl, hc1, hc2, hcell⟩ := h.form
  rcases Nat.eq_zero_or_pos zs.length with h0 | h0
  · obtain rfl : zs = [] := List.eq_nil_of_length_eq_zero h0
    refine (Try.slices_Compact_int_empty _ _ _).mono ?_
    rintro e w' ⟨rfl, rfl⟩
    exact ⟨_, rfl, by simpa [Lib.compact, Lib.compactUpTo] using h, World.grownBy.refl _ _⟩
  · obtain ⟨b, off, rfl, hb1, hb2, hcs⟩ := hcell h0
    have hH : Holds (Value.int .i64) w b off zs.toArray := fun j hj => by
      have hj' : j < zs.length := by simpa using hj
      have := hcs j hj'
      rw [nth_eq hj'] at this
      simpa [hj'] using this
    refine (Try.slices_Compact_int b off c zs w hH (by omega) hc1).mono ?_
    rintro e w' ⟨rfl, q, rfl⟩
    have hl := compact_len zs
    obtain ⟨cs, HC⟩ : ∃ cs, Lib.compact zs = cs := ⟨_, rfl⟩
    rw [HC] at hl ⊢
    have hs : (cs ++ List.replicate (zs.length - cs.length) 0).toArray.size = zs.toArray.size := by simp; omega
    have hH2 := holds_putRow (Value.int .i64) (Sort.ahead w q) b off zs.toArray (cs ++ List.replicate (zs.length - cs.length) 0).toArray hH hs
    refine ⟨_, rfl, ?_, ?_⟩
    · refine ⟨_, c, rfl, by omega, hc2, fun _ => ⟨b, off, rfl, hb1, hb2, fun j hj => ?_⟩⟩
      have hj1 : j < cs.length := by omega
      have hj2 : j < (cs ++ List.replicate (zs.length - cs.length) 0).length := by rw [List.length_append]; omega
      obtain ⟨q1, q2⟩ := hH2 j (by simpa using hj2)
      refine ⟨?_, q2⟩
      show _ = some (Value.int .i64 (nth cs j))
      rw [q1, nth_eq hj1]
      rw [getElem!_pos _ j (by simpa using hj2)]
      simp [List.getElem_append_left hj1]
    · rw [rowOf_some h0]
      refine ⟨rfl, rfl, rfl, by simp [putRow, mapBlock, Sort.ahead], fun k hk hne => ?_⟩
      have hkb : b ≠ k := fun e => hne (by rw [e])
      simp [putRow, mapBlock, Array.getElem?_modify, hkb, Sort.ahead]

/-- some truth value of the list is false -/
def hasF (bs : List Bool) : Bool := (List.range bs.length).any fun j => !nthB bs j
theorem hasF_true {bs : List Bool} : hasF bs = true ↔ ∃ j, j < bs.length ∧ nthB bs j = false := by
  unfold hasF
  rw [List.any_eq_true]
  constructor
  · rintro ⟨j, hj, e⟩; exact ⟨j, List.mem_range.1 hj, by simpa using e⟩
  · rintro ⟨j, hj, e⟩; exact ⟨j, List.mem_range.2 hj, by simpa using e⟩
theorem hasF_false {bs : List Bool} : hasF bs = false ↔ ∀ j, j < bs.length → nthB bs j = true := by
  rw [Bool.eq_false_iff]
  constructor
  · intro h j hj
    by_cases hc : nthB bs j = true
    · exact hc
    · exact absurd (hasF_true.2 ⟨j, hj, by simpa using hc⟩) h
  · intro h h2
    obtain ⟨j, hj, e⟩ := hasF_true.1 h2
    rw [h j hj] at e; cases e
theorem hasF_idx (bs : List Bool) : decide (0 ≤ fidxN (fun j => !nthB bs j) bs.length) = hasF bs := by
  unfold fidxN hasF
  cases (List.range bs.length).any fun j => !nthB bs j <;> simp
theorem ownI_app {w : World} {base : Nat} {e : TypeId} {v : Value} {ps : List Int} {z : Int} (h : w.ownsRow base e 1 v (ps.length + 1) (ps.map (Value.int .i64) ++ [.int .i64 z])) : OwnI w base e v (ps ++ [z]) := by
  unfold OwnI Own
  rw [List.map_append]
  simpa using h

set_option maxHeartbeats 1000000 in
set_option maxRecDepth 100000 in
theorem idxB_any (v1 : Value) (bs : List Bool) (lo1 hi1 : Nat) (b : Bool) (w : World) (h1 : BoolS w lo1 hi1 v1 bs) (hh1 : hi1 ≤ w.heap.size) (hb : b = false) (hn : bs.length ≤ 1048576) :
    Calls Try.prog 149 #[v1, .bool b] w fun e w' => e = .returned (.int .i64 (fidxN (fun j => !nthB bs j) bs.length)) ∧ w = w' := by
  subst hb
  have F1 := Lib.hid h1
  obtain ⟨A1, c1, rfl, hc1, hd1⟩ := h1.dims
  clear h1
  go_enter Try.func149, Try.ntmps149
  go_wp2_with fail
  go_loop [8] (fun i => ∃ (m : Nat), m ≤ bs.length ∧ i = .int .i64 m ∧ Hid (∀ j, j < m → nthB bs j = true)) (fun i => bs.length - (intOf i).toNat)
  case atStart => exact ⟨0, Nat.zero_le _, rfl, Lib.hid (fun j hj => absurd hj (by omega))⟩
  case round =>
    obtain ⟨m, hm, rfl, HB⟩ := hrel
    by_cases hml : m < bs.length
    case neg =>
      obtain rfl : m = bs.length := by omega
      go_wp2_with fail
      go_ret
      exact ⟨ret_int (by rw [fidxN_none (fun j hj => by rw [HB.out j hj]; rfl)]), rfl⟩
    obtain ⟨b2, o2, rfl, _, _, x2, _⟩ := BoolS.opened F1.out hml
    have hmi : (m : Int) < bs.length := by omega
    cases hc : nthB bs m with
    | true =>
      rw [hc] at x2
      have HC := Lib.hid hc; clear hc
      go_wp2_with fail
      go_round
      case rel => exact ⟨m + 1, by omega, by go_num, Lib.hid fun j hj => by
        by_cases e : j = m
        · subst e; exact HC.out
        · exact HB.out j (by omega)⟩
      case measure => simp [intOf]; omega
    | false =>
      rw [hc] at x2
      have HC := Lib.hid hc; clear hc
      go_wp2_with fail
      go_ret
      exact ⟨ret_int (by rw [fidxN_hit hml (by rw [HC.out]; rfl) (fun j hj => by rw [HB.out j hj]; rfl)]), rfl⟩

set_option maxHeartbeats 1000000 in
set_option maxRecDepth 100000 in
theorem conB_any (v1 : Value) (bs : List Bool) (lo1 hi1 : Nat) (b : Bool) (w : World) (h1 : BoolS w lo1 hi1 v1 bs) (hh1 : hi1 ≤ w.heap.size) (hb : b = false) (hn : bs.length ≤ 1048576) :
    Calls Try.prog 84 #[v1, .bool b] w fun e w' => e = .returned (.bool (hasF bs)) ∧ w = w' := by
  subst hb
  have F1 := Lib.hid h1
  obtain ⟨A1, c1, rfl, hc1, hd1⟩ := h1.dims
  clear h1
  go_enter Try.func84, Try.ntmps84
  obtain ⟨y, HY⟩ : ∃ y, Hid (fidxN (fun j => !nthB bs j) bs.length = y) := ⟨_, Lib.hid rfl⟩
  go_wp2_with (go_at_call 149; refine (idxB_any _ bs _ _ false _ F1.out (by omega) rfl hn).mono ?_; rintro e w' ⟨rfl, rfl⟩; rw [HY.out])
  go_ret
  exact ⟨ret_bool (by rw [← hasF_idx, HY.out]), rfl⟩

set_option maxHeartbeats 4000000 in
set_option maxRecDepth 100000 in
theorem near_own (v1 : Value) (N : NetD) (lo1 hi1 : Nat) (v : Nat) (v3 : Value) (l : List Int) (lo3 hi3 : Nat) (w : World) (h1 : Net w lo1 hi1 v1 N) (hh1 : hi1 ≤ w.heap.size) (h3 : IntS w lo3 hi3 v3 l) (hh3 : hi3 ≤ w.heap.size) (hg : N.good = true) (hv : v < N.ends.length) (hl : l.length = N.ends.length) :
    Calls Try.prog 81 #[v1, .int .i64 (v : Nat), v3] w fun e w' => ∃ r, e = .returned (r) ∧ OwnI w' w.heap.size 3 r (nears N v l) ∧ Below w.heap.size w w' := by
  obtain ⟨n1, n40⟩ := good_n hg
  have HG := Lib.hid hg; clear hg
  have hd6 := good_deg HG.out hv
  have hvi : (v : Int) < N.ends.length := by omega
  have hle : N.ends.length ≤ l.length := by omega
  have HL := Lib.hid hl; clear hl
  have F1 := Lib.hid h1
  obtain ⟨A1, c1, A1', c1', A1'', c1'', rfl, hc1, hd1, _⟩ := h1.parts
  obtain ⟨b1, o1, _, _, rfl, _⟩ := Net.rowAt F1.out (u := 0) (by omega)
  clear h1
  have F3 := Lib.hid h3
  obtain ⟨A3, c3, rfl, hc3, hd3⟩ := h3.dims
  clear h3
  obtain ⟨WA, HWA⟩ : ∃ W, Hid (W = (w.alloc (.cells #[.slice (some ⟨b1, o1, none⟩) N.ends.length c1, .slice A1' N.ids.length c1', .slice A1'' N.inputs.length c1''] 33))) := ⟨_, Lib.hid rfl⟩
  have hbA : Below w.heap.size w WA := by rw [HWA.out]; exact ((Below.refl _ _).alloc (Nat.le_refl _) _)
  have hsA : w.heap.size + 1 ≤ WA.heap.size := by rw [HWA.out]; simp; try omega
  have bx1 : BoxN WA (w.heap.size) #[.slice (some ⟨b1, o1, none⟩) N.ends.length c1, .slice A1' N.ids.length c1', .slice A1'' N.inputs.length c1''] 33 := by rw [HWA.out]; exact (BoxN.new' _ _ _ (by simp))
  have G1 := Lib.hid (Net.below F1.out hbA hh1); clear F1
  have G3 := Lib.hid (IntS.below F3.out hbA hh3); clear F3
  go_enter Try.func81, Try.ntmps81
  go_upto_region 1 with (fail)
  rw [← HWA.out]; clear HWA
  have kbx1_0 : WA.cell? ⟨w.heap.size, 0, none⟩ = some (.slice (some ⟨b1, o1, none⟩) N.ends.length c1) := bx1.cell 0 (by simp)
  have kbx1_1 : WA.cell? ⟨w.heap.size, 1, none⟩ = some (.slice A1' N.ids.length c1') := bx1.cell 1 (by simp)
  have kbx1_2 : WA.cell? ⟨w.heap.size, 2, none⟩ = some (.slice A1'' N.inputs.length c1'') := bx1.cell 2 (by simp)
  obtain ⟨Ar, cr, hbr, qr, hcr, hdr, hRr⟩ := Net.rowIn G1.out hv
  have Rr := Lib.hid hRr; clear hRr
  go_wp2_with fail
  clear kbx1_0 kbx1_1 kbx1_2 qr
  go_loopw [16, 7] (fun i ov wr => ∃ (m : Nat) (zs : List Int), m ≤ (nthL N.ends v).length ∧ i = .int .i64 m ∧ Hid (OwnI wr WA.heap.size 3 ov zs) ∧ Hid (zs = (nears N v l).take m) ∧ zs.length ≤ m ∧ Hid (Turned WA.heap.size WA.heap.size WA wr)) (fun i ov _ => (nthL N.ends v).length - (intOf i).toNat)
  case atStart => exact ⟨0, [], Nat.zero_le _, rfl, Lib.hid (OwnI.nil _ _ _), Lib.hid (by simp), Nat.zero_le _, Lib.hid (Turned.refl WA.heap.size WA.heap.size WA)⟩
  case round =>
    obtain ⟨m, zs, hm, rfl, HO, HD, hl, HF1⟩ := hrel
    have hs1 := HF1.out.size
    by_cases hml : m < (nthL N.ends v).length
    case neg =>
      obtain rfl : m = (nthL N.ends v).length := by omega
      go_wp2_with fail
      go_ret
      refine ⟨_, rfl, ?_, (HF1.out.below_of hbA (by omega) (by omega))⟩
      have e : nears N v l = zs := by rw [HD.out, ← nears_length N v l, List.take_length]
      rw [e]
      exact HO.out.lower (by omega)
    obtain ⟨br, or, rfl, _, hbr', er, er'⟩ := (EndS.turned Rr.out HF1.out (by omega) (by omega)).opened hml
    obtain ⟨t, r, etr, ht, hr, eur⟩ := good_end HG.out hv hml
    rw [etr] at er er'
    dsimp only at er er'
    have ETr := Lib.hid etr
    have EUr := Lib.hid eur
    clear etr eur
    go_upto_region 5 with (fail)
    refine nameC ?_
    intro W2 HW2
    have hg2 : wr.grownBy W2 none := by rw [HW2.out]; exact grown_alloc _ _
    have hs2 := hg2.size
    have HF2 := Lib.hid (HF1.out.still hg2); clear HF1
    have HO2 := Lib.hid (OwnI.still HO.out hg2); clear HO
    have bxe2 := Lib.hid (show BoxN W2 wr.heap.size #[.int .i64 t, .int .i64 r] 74 by rw [HW2.out]; exact BoxN.new _ _ _)
    clear HW2
    clear er er'
    have kbxe_0 : W2.cell? ⟨wr.heap.size, 0, none⟩ = some (.int .i64 t) := bxe2.out.cell 0 (by simp)
    have kbxe_1 : W2.cell? ⟨wr.heap.size, 1, none⟩ = some (.int .i64 r) := bxe2.out.cell 1 (by simp)
    obtain ⟨b3, o3, rfl, _, hb3, x3, _⟩ := IntS.opened (IntS.turned G3.out HF2.out (by omega) (by omega)) (j := t) (by omega)
    obtain ⟨y, HY⟩ : ∃ y, Hid (nth l t = y) := ⟨_, Lib.hid rfl⟩
    rw [HY.out] at x3
    have hti : (t : Int) < l.length := by omega
    have hlv := HO2.out.lt
    go_wp2_with (at_builtin; refine append_int (s := .tmp 20) Try.underlying23 Try.info3 (by decide) W2 rfl _ rfl HO2.out y _ rfl (by simp [Act.eval, go_sem]) (by omega) (by omega) ?_; intro v' w' ho' hg' hat')
    go_roundw
    case rel =>
      refine ⟨m + 1, _, by omega, by go_num, Lib.hid ho', Lib.hid ?_, by simp; omega, Lib.hid (HF2.out.grown hg' fun g hg => .inr (hlv g hg).1)⟩
      rw [List.take_succ_eq_append_getElem (by rw [nears_length]; exact hml), ← nth_eq, nth_nears l hml, ETr.out, ← HD.out, Int.toNat_natCast, HY.out]
    case measure => simp [intOf]; omega

set_option maxHeartbeats 4000000 in
set_option maxRecDepth 100000 in
theorem around_any (v : Nat) (gn : Nat) (w : World)  (N : NetD) (lo1 hi1 : Nat) (A1 A1' A1'' : Option Addr) (c1 c1' c1'' : Nat) (hbx : BoxN w gn #[.slice A1 N.ends.length c1, .slice A1' N.ids.length c1', .slice A1'' N.inputs.length c1''] 33) (h1 : Net w lo1 hi1 (.agg #[.slice A1 N.ends.length c1, .slice A1' N.ids.length c1', .slice A1'' N.inputs.length c1'']) N) (hh1 : hi1 ≤ w.heap.size) (hg : N.good = true) (hv : v < N.ends.length) :
    Calls Try.prog 80 #[.int .i64 (v : Nat), .pointer (some ⟨gn, 0, none⟩)] w fun e w' => ∃ r, e = .returned (r) ∧ IntS w' w.heap.size w'.heap.size r (around N v) ∧ Below w.heap.size w w' := by
  obtain ⟨n1, n40⟩ := good_n hg
  have HG := Lib.hid hg; clear hg
  have F1 := Lib.hid h1; clear h1
  have hgn := hbx.lt
  have hd6 := good_deg HG.out hv
  have hul := upTo_length N.ends.length
  obtain ⟨zz, HZ⟩ : ∃ z, Hid (nears N v (upTo N.ends.length) = z) := ⟨_, Lib.hid rfl⟩
  have hzl : zz.length ≤ 6 := by rw [← HZ.out, nears_length]; exact hd6
  have hzm : (zz.map (Value.int .i64)).length ≤ 6 := by rw [List.length_map]; exact hzl
  obtain ⟨i1, hi1', hz1⟩ := Option.map_eq_some_iff.1 Try.info3
  simp only [Prod.mk.injEq] at hz1
  obtain ⟨hz1a, hz1b, hz1c⟩ := hz1
  have HI1 := Lib.hid hz1a; have HI2 := Lib.hid hz1b; have HI3 := Lib.hid hz1c; have HII := Lib.hid hi1'
  clear hz1a hz1b hz1c hi1'
  go_enter Try.func80, Try.ntmps80
  go_wp2_with fail
  refine wp_region_U (fun w' => w'.cell? ⟨gn, 0, none⟩ = some (.slice A1 N.ends.length c1) ∧ w'.cell? ⟨gn, 1, none⟩ = some (.slice A1' N.ids.length c1') ∧ w'.cell? ⟨gn, 2, none⟩ = some (.slice A1'' N.inputs.length c1'')) [] (by kernel_rfl) ?_
  refine nameU ?_
  intro W1 HW1
  have hg1 : w.grownBy W1 none := by rw [HW1.out]; exact grown_drew _
  clear HW1
  have hs1 := hg1.size
  have HF1 := Lib.hid ((Turned.refl w.heap.size w.heap.size w).still hg1)
  have hS2 : W1.cell? ⟨gn, 0, none⟩ = some (.slice A1 N.ends.length c1) ∧ W1.cell? ⟨gn, 1, none⟩ = some (.slice A1' N.ids.length c1') ∧ W1.cell? ⟨gn, 2, none⟩ = some (.slice A1'' N.inputs.length c1'') := ⟨(HF1.out.boxN hbx (by omega)).cell 0 (by simp), (HF1.out.boxN hbx (by omega)).cell 1 (by simp), (HF1.out.boxN hbx (by omega)).cell 2 (by simp)⟩
  refine anyU_take (i := 0) (v := .agg #[.slice A1 N.ends.length c1, .slice A1' N.ids.length c1', .slice A1'' N.inputs.length c1'']) rfl (by kernel_rfl) (by kernel_rfl) (by kernel_rfl) (fun _ _ _ h => h) ⟨by rfl, fun w' hS' => (by obtain ⟨s1, s2, s3⟩ := hS'; go_simp)⟩ hS2 ?_
  simp only [List.getElem_toArray, List.getElem_cons_zero, Act.put, List.setIfInBounds_toArray, List.set_cons_zero, List.set_cons_succ]
  refine anyU_take (i := 1) (v := .int .i64 v) rfl (by kernel_rfl) (by kernel_rfl) (by kernel_rfl) (fun _ _ _ h => h) ⟨by rfl, fun w' hS' => (by obtain ⟨s1, s2, s3⟩ := hS'; go_simp)⟩ hS2 ?_
  simp only [List.getElem_toArray, List.getElem_cons_succ, List.getElem_cons_zero, Act.put, List.setIfInBounds_toArray, List.set_cons_zero, List.set_cons_succ]
  refine anyU_take (i := 2) (v := .pointer (some ⟨gn, 0, none⟩)) rfl (by kernel_rfl) (by kernel_rfl) (by kernel_rfl) (fun _ _ _ h => h) ⟨by rfl, fun w' hS' => (by obtain ⟨s1, s2, s3⟩ := hS'; go_simp)⟩ hS2 ?_
  simp only [List.getElem_toArray, List.getElem_cons_succ, List.getElem_cons_zero, Act.put, List.setIfInBounds_toArray, List.set_cons_zero, List.set_cons_succ]
  refine anyU_take (i := 3) (v := .slice A1 N.ends.length c1) rfl (by kernel_rfl) (by kernel_rfl) (by kernel_rfl) (fun _ _ _ h => h) ⟨by rfl, fun w' hS' => (by obtain ⟨s1, s2, s3⟩ := hS'; go_simp)⟩ hS2 ?_
  simp only [List.getElem_toArray, List.getElem_cons_succ, List.getElem_cons_zero, Act.put, List.setIfInBounds_toArray, List.set_cons_zero, List.set_cons_succ]
  refine anyU_take (i := 4) (v := .int .i64 (N.ends.length : Nat)) rfl (by kernel_rfl) (by kernel_rfl) (by kernel_rfl) (fun _ _ _ h => h) ⟨by rfl, fun w' hS' => (by obtain ⟨s1, s2, s3⟩ := hS'; go_simp)⟩ hS2 ?_
  simp only [List.getElem_toArray, List.getElem_cons_succ, List.getElem_cons_zero, Act.put, List.setIfInBounds_toArray, List.set_cons_zero, List.set_cons_succ]
  refine anyU_take (i := 7) (v := .int .i64 v) rfl (by kernel_rfl) (by kernel_rfl) (by kernel_rfl) (fun _ _ _ h => h) ⟨by rfl, fun w' hS' => (by obtain ⟨s1, s2, s3⟩ := hS'; go_simp)⟩ hS2 ?_
  simp only [List.getElem_toArray, List.getElem_cons_succ, List.getElem_cons_zero, Act.put, List.setIfInBounds_toArray, List.set_cons_zero, List.set_cons_succ]
  refine anyU_ready (rs := [5, 8]) (by kernel_rfl) (by simp) ?_
  refine ReadyU.cons (i := 5) rfl (fun K hK => ?_) ?_
  · skip
    simp only [List.getElem_toArray, List.getElem_cons_succ, List.getElem_cons_zero]
    refine ite_is (by rfl) ?_
    simp [go_sem]
    refine (numbersTo_any N.ends.length _ (by omega)).mono ?_
    rintro e W3 ⟨r5, rfl, hr5, hb3⟩
    have hg3 := grown_below hb3; clear hb3
    have hs3 := hg3.size
    have HF3 := Lib.hid (HF1.out.still hg3); clear HF1
    have U3 := Lib.hid hr5; clear hr5
    have hS4 : W3.cell? ⟨gn, 0, none⟩ = some (.slice A1 N.ends.length c1) ∧ W3.cell? ⟨gn, 1, none⟩ = some (.slice A1' N.ids.length c1') ∧ W3.cell? ⟨gn, 2, none⟩ = some (.slice A1'' N.inputs.length c1'') := ⟨(HF3.out.boxN hbx (by omega)).cell 0 (by simp), (HF3.out.boxN hbx (by omega)).cell 1 (by simp), (HF3.out.boxN hbx (by omega)).cell 2 (by simp)⟩
    refine hK.out _ _ ⟨fun _ => hS4, ?_⟩
    clear hK K hS2
    try simp only [List.getElem_toArray, List.getElem_cons_succ, List.getElem_cons_zero, Act.put, List.setIfInBounds_toArray, List.set_cons_zero, List.set_cons_succ]
    refine anyU_ready (rs := [6, 8]) (by kernel_rfl) (by simp) ?_
    refine ReadyU.cons (i := 6) rfl (fun K hK => ?_) ?_
    · skip
      simp only [List.getElem_toArray, List.getElem_cons_succ, List.getElem_cons_zero]
      refine ite_is (by rfl) ?_
      simp [go_sem]
      refine (near_own _ N lo1 hi1 v r5 (upTo N.ends.length) _ _ _ (Net.turned F1.out HF3.out (by omega) (by omega)) (by omega) U3.out (by omega) HG.out hv hul).mono ?_
      rintro e W5 ⟨r6, rfl, hr6, hb5⟩
      have hg5 := grown_below hb5; clear hb5
      have hs5 := hg5.size
      have HF5 := Lib.hid (HF3.out.still hg5); clear HF3
      rw [HZ.out] at hr6
      have O5 := Lib.hid hr6; clear hr6
      have LO := Lib.hid O5.out.lt
      have hS6 : W5.cell? ⟨gn, 0, none⟩ = some (.slice A1 N.ends.length c1) ∧ W5.cell? ⟨gn, 1, none⟩ = some (.slice A1' N.ids.length c1') ∧ W5.cell? ⟨gn, 2, none⟩ = some (.slice A1'' N.inputs.length c1'') := ⟨(HF5.out.boxN hbx (by omega)).cell 0 (by simp), (HF5.out.boxN hbx (by omega)).cell 1 (by simp), (HF5.out.boxN hbx (by omega)).cell 2 (by simp)⟩
      refine hK.out _ _ ⟨fun _ => hS6, ?_⟩
      clear hK K hS4
      try simp only [List.getElem_toArray, List.getElem_cons_succ, List.getElem_cons_zero, Act.put, List.setIfInBounds_toArray, List.set_cons_zero, List.set_cons_succ]
      refine anyU_ready (rs := [8]) (by kernel_rfl) (by simp) ?_
      refine ReadyU.cons (i := 8) rfl (fun K hK => ?_) ?_
      · skip
        simp only [List.getElem_toArray, List.getElem_cons_succ, List.getElem_cons_zero]
        refine ite_is (by rfl) ?_
        simp [go_sem]
        refine hK.out _ _ ⟨fun _ => ⟨((HF5.out.boxN hbx (by omega)).still (grown_alloc _ _)).cell 0 (by simp), ((HF5.out.boxN hbx (by omega)).still (grown_alloc _ _)).cell 1 (by simp), ((HF5.out.boxN hbx (by omega)).still (grown_alloc _ _)).cell 2 (by simp)⟩, ?_⟩
        clear hK K
        try simp only [List.getElem_toArray, List.getElem_cons_succ, List.getElem_cons_zero, Act.put, List.setIfInBounds_toArray, List.set_cons_zero, List.set_cons_succ]
        refine nameU ?_
        intro W7 HW7
        have hg7 : W5.grownBy W7 none := by rw [HW7.out]; exact grown_alloc _ _
        have BV7 := Lib.hid (show BoxN W7 W5.heap.size #[.int .i64 v] 3 by rw [HW7.out]; exact BoxN.new _ _ _)
        have hz7 : W5.heap.size < W7.heap.size := BV7.out.lt
        clear HW7
        have hs7 := hg7.size
        have HF7 := Lib.hid (HF5.out.still hg7); clear HF5
        have O7 := Lib.hid (OwnI.still O5.out hg7); clear O5
        have hS8 : W7.cell? ⟨gn, 0, none⟩ = some (.slice A1 N.ends.length c1) ∧ W7.cell? ⟨gn, 1, none⟩ = some (.slice A1' N.ids.length c1') ∧ W7.cell? ⟨gn, 2, none⟩ = some (.slice A1'' N.inputs.length c1'') := ⟨(HF7.out.boxN hbx (by omega)).cell 0 (by simp), (HF7.out.boxN hbx (by omega)).cell 1 (by simp), (HF7.out.boxN hbx (by omega)).cell 2 (by simp)⟩
        clear hS6
        refine anyU_ready (rs := [9]) (by kernel_rfl) (by simp) ?_
        refine ReadyU.cons (i := 9) rfl (fun K hK => ?_) ReadyU.nil
        have LOX := Lib.hid O7.out.lt
        refine step_append_lies W7 (by rfl) _ _ _ (by rfl) W3.heap.size 3 i1 _ 1 _ Try.underlying23 HII.out HI1.out HI2.out HI3.out rfl (by omega) r6 _ (zz.map (Value.int .i64)) (by rfl) O7.out ⟨W5.heap.size, 0, none⟩ 1 1 [.int .i64 v] (by rfl) (by rfl) (World.news_of_block BV7.out) (by simp [Value.oneCell']) (by omega) (by unfold maxLen; omega) (by omega) (by omega) _ rfl ?_
        intro gp cp W9 hown hg9 hatp hltp
        simp only [List.length_map] at hown ⊢
        have hs9 := hg9.size
        have HF9 := Lib.hid (HF7.out.grown hg9 (fun g hg => by have := LO.out g hg; omega)); clear HF7
        have HOO := Lib.hid (ownI_app hown)
        clear hown LOX
        have hS10 : W9.cell? ⟨gn, 0, none⟩ = some (.slice A1 N.ends.length c1) ∧ W9.cell? ⟨gn, 1, none⟩ = some (.slice A1' N.ids.length c1') ∧ W9.cell? ⟨gn, 2, none⟩ = some (.slice A1'' N.inputs.length c1'') := ⟨(HF9.out.boxN hbx (by omega)).cell 0 (by simp), (HF9.out.boxN hbx (by omega)).cell 1 (by simp), (HF9.out.boxN hbx (by omega)).cell 2 (by simp)⟩
        refine hK.out _ _ ⟨fun _ => hS10, ?_⟩
        clear hK K hS8
        try simp only [List.getElem_toArray, List.getElem_cons_succ, List.getElem_cons_zero, Act.put, List.setIfInBounds_toArray, List.set_cons_zero, List.set_cons_succ]
        refine anyU_ready (rs := [10]) (by kernel_rfl) (by simp) ?_
        refine ReadyU.cons (i := 10) rfl (fun K hK => ?_) ReadyU.nil
        simp only [List.getElem_toArray, List.getElem_cons_succ, List.getElem_cons_zero]
        refine ite_is (by rfl) ?_
        simp [go_sem]
        refine hK.out _ _ ⟨fun _ => hS10, ?_⟩
        clear hK K
        try simp only [List.getElem_toArray, List.getElem_cons_succ, List.getElem_cons_zero, Act.put, List.setIfInBounds_toArray, List.set_cons_zero, List.set_cons_succ]
        clear hS10
        refine anyU_done (by kernel_rfl) ?_ _
        have hal : (zz ++ [(v : Int)]).length = zz.length + 1 := by simp
        go_wp2_with fail
        refine (sort_any _ (zz ++ [(v : Int)]) _ _ _ HOO.out.ints (Nat.le_refl _) (by omega)).mono ?_
        rintro e W20 ⟨rfl, hr20, hg20⟩
        have hs20 := hg20.size
        have HR20 := Lib.hid hr20; clear hr20
        have HF20 := Lib.hid (HF9.out.grown hg20 fun g hg => .inr (by
          rcases Sl.row HOO.out.ints with e | ⟨b, e, l1, l2⟩
          · rw [e] at hg; cases hg
          · rw [e] at hg; injection hg; omega))
        clear hg20
        go_wp2_with fail
        refine (compact_any _ (sortI (zz ++ [(v : Int)])) _ _ _ HR20.out (by omega) (by rw [sortI_length]; omega)).mono ?_
        rintro e W21 ⟨r21, rfl, hr21, hg21⟩
        have hs21 := hg21.size
        have HR21 := Lib.hid hr21; clear hr21
        have HF21 := Lib.hid (HF20.out.grown hg21 fun g hg => .inr (by
          rcases Sl.row HR20.out with e | ⟨b, e, l1, l2⟩
          · rw [e] at hg; cases hg
          · rw [e] at hg; injection hg; omega))
        clear hg21
        go_wp2_with fail
        go_ret
        refine ⟨_, rfl, ?_, (HF21.out.below_of (Below.refl _ _) (by omega) (by omega))⟩
        unfold around
        rw [HZ.out]
        exact HR21.out.mono (by omega) (by omega)
      exact ReadyU.nil
    refine ReadyU.cons (i := 8) rfl (fun K hK => ?_) ?_
    · skip
      simp only [List.getElem_toArray, List.getElem_cons_succ, List.getElem_cons_zero]
      refine ite_is (by rfl) ?_
      simp [go_sem]
      refine hK.out _ _ ⟨fun _ => ⟨((HF3.out.boxN hbx (by omega)).still (grown_alloc _ _)).cell 0 (by simp), ((HF3.out.boxN hbx (by omega)).still (grown_alloc _ _)).cell 1 (by simp), ((HF3.out.boxN hbx (by omega)).still (grown_alloc _ _)).cell 2 (by simp)⟩, ?_⟩
      clear hK K
      try simp only [List.getElem_toArray, List.getElem_cons_succ, List.getElem_cons_zero, Act.put, List.setIfInBounds_toArray, List.set_cons_zero, List.set_cons_succ]
      refine nameU ?_
      intro W11 HW11
      have hg11 : W3.grownBy W11 none := by rw [HW11.out]; exact grown_alloc _ _
      have BV11 := Lib.hid (show BoxN W11 W3.heap.size #[.int .i64 v] 3 by rw [HW11.out]; exact BoxN.new _ _ _)
      have hz11 : W3.heap.size < W11.heap.size := BV11.out.lt
      clear HW11
      have hs11 := hg11.size
      have HF11 := Lib.hid (HF3.out.still hg11); clear HF3
      have U11 := Lib.hid (IntS.still U3.out hg11 (by omega)); clear U3
      have hS12 : W11.cell? ⟨gn, 0, none⟩ = some (.slice A1 N.ends.length c1) ∧ W11.cell? ⟨gn, 1, none⟩ = some (.slice A1' N.ids.length c1') ∧ W11.cell? ⟨gn, 2, none⟩ = some (.slice A1'' N.inputs.length c1'') := ⟨(HF11.out.boxN hbx (by omega)).cell 0 (by simp), (HF11.out.boxN hbx (by omega)).cell 1 (by simp), (HF11.out.boxN hbx (by omega)).cell 2 (by simp)⟩
      clear hS4
      refine anyU_ready (rs := [6]) (by kernel_rfl) (by simp) ?_
      refine ReadyU.cons (i := 6) rfl (fun K hK => ?_) ?_
      · skip
        simp only [List.getElem_toArray, List.getElem_cons_succ, List.getElem_cons_zero]
        refine ite_is (by rfl) ?_
        simp [go_sem]
        refine (near_own _ N lo1 hi1 v r5 (upTo N.ends.length) _ _ _ (Net.turned F1.out HF11.out (by omega) (by omega)) (by omega) U11.out (by omega) HG.out hv hul).mono ?_
        rintro e W13 ⟨r6, rfl, hr6, hb13⟩
        have hg13 := grown_below hb13; clear hb13
        have hs13 := hg13.size
        have HF13 := Lib.hid (HF11.out.still hg13); clear HF11
        have BV13 := Lib.hid (BoxN.still BV11.out hg13); clear BV11
        rw [HZ.out] at hr6
        have O13 := Lib.hid hr6; clear hr6
        have LO := Lib.hid O13.out.lt
        have hS14 : W13.cell? ⟨gn, 0, none⟩ = some (.slice A1 N.ends.length c1) ∧ W13.cell? ⟨gn, 1, none⟩ = some (.slice A1' N.ids.length c1') ∧ W13.cell? ⟨gn, 2, none⟩ = some (.slice A1'' N.inputs.length c1'') := ⟨(HF13.out.boxN hbx (by omega)).cell 0 (by simp), (HF13.out.boxN hbx (by omega)).cell 1 (by simp), (HF13.out.boxN hbx (by omega)).cell 2 (by simp)⟩
        refine hK.out _ _ ⟨fun _ => hS14, ?_⟩
        clear hK K hS12
        try simp only [List.getElem_toArray, List.getElem_cons_succ, List.getElem_cons_zero, Act.put, List.setIfInBounds_toArray, List.set_cons_zero, List.set_cons_succ]
        refine anyU_ready (rs := [9]) (by kernel_rfl) (by simp) ?_
        refine ReadyU.cons (i := 9) rfl (fun K hK => ?_) ReadyU.nil
        have LOX := Lib.hid O13.out.lt
        refine step_append_lies W13 (by rfl) _ _ _ (by rfl) W11.heap.size 3 i1 _ 1 _ Try.underlying23 HII.out HI1.out HI2.out HI3.out rfl (by omega) r6 _ (zz.map (Value.int .i64)) (by rfl) O13.out ⟨W3.heap.size, 0, none⟩ 1 1 [.int .i64 v] (by rfl) (by rfl) (World.news_of_block BV13.out) (by simp [Value.oneCell']) (by omega) (by unfold maxLen; omega) (by omega) (by omega) _ rfl ?_
        intro gp cp W15 hown hg15 hatp hltp
        simp only [List.length_map] at hown ⊢
        have hs15 := hg15.size
        have HF15 := Lib.hid (HF13.out.grown hg15 (fun g hg => by have := LO.out g hg; omega)); clear HF13
        have HOO := Lib.hid (ownI_app hown)
        clear hown LOX
        have hS16 : W15.cell? ⟨gn, 0, none⟩ = some (.slice A1 N.ends.length c1) ∧ W15.cell? ⟨gn, 1, none⟩ = some (.slice A1' N.ids.length c1') ∧ W15.cell? ⟨gn, 2, none⟩ = some (.slice A1'' N.inputs.length c1'') := ⟨(HF15.out.boxN hbx (by omega)).cell 0 (by simp), (HF15.out.boxN hbx (by omega)).cell 1 (by simp), (HF15.out.boxN hbx (by omega)).cell 2 (by simp)⟩
        refine hK.out _ _ ⟨fun _ => hS16, ?_⟩
        clear hK K hS14
        try simp only [List.getElem_toArray, List.getElem_cons_succ, List.getElem_cons_zero, Act.put, List.setIfInBounds_toArray, List.set_cons_zero, List.set_cons_succ]
        refine anyU_ready (rs := [10]) (by kernel_rfl) (by simp) ?_
        refine ReadyU.cons (i := 10) rfl (fun K hK => ?_) ReadyU.nil
        simp only [List.getElem_toArray, List.getElem_cons_succ, List.getElem_cons_zero]
        refine ite_is (by rfl) ?_
        simp [go_sem]
        refine hK.out _ _ ⟨fun _ => hS16, ?_⟩
        clear hK K
        try simp only [List.getElem_toArray, List.getElem_cons_succ, List.getElem_cons_zero, Act.put, List.setIfInBounds_toArray, List.set_cons_zero, List.set_cons_succ]
        clear hS16
        refine anyU_done (by kernel_rfl) ?_ _
        have hal : (zz ++ [(v : Int)]).length = zz.length + 1 := by simp
        go_wp2_with fail
        refine (sort_any _ (zz ++ [(v : Int)]) _ _ _ HOO.out.ints (Nat.le_refl _) (by omega)).mono ?_
        rintro e W20 ⟨rfl, hr20, hg20⟩
        have hs20 := hg20.size
        have HR20 := Lib.hid hr20; clear hr20
        have HF20 := Lib.hid (HF15.out.grown hg20 fun g hg => .inr (by
          rcases Sl.row HOO.out.ints with e | ⟨b, e, l1, l2⟩
          · rw [e] at hg; cases hg
          · rw [e] at hg; injection hg; omega))
        clear hg20
        go_wp2_with fail
        refine (compact_any _ (sortI (zz ++ [(v : Int)])) _ _ _ HR20.out (by omega) (by rw [sortI_length]; omega)).mono ?_
        rintro e W21 ⟨r21, rfl, hr21, hg21⟩
        have hs21 := hg21.size
        have HR21 := Lib.hid hr21; clear hr21
        have HF21 := Lib.hid (HF20.out.grown hg21 fun g hg => .inr (by
          rcases Sl.row HR20.out with e | ⟨b, e, l1, l2⟩
          · rw [e] at hg; cases hg
          · rw [e] at hg; injection hg; omega))
        clear hg21
        go_wp2_with fail
        go_ret
        refine ⟨_, rfl, ?_, (HF21.out.below_of (Below.refl _ _) (by omega) (by omega))⟩
        unfold around
        rw [HZ.out]
        exact HR21.out.mono (by omega) (by omega)
      exact ReadyU.nil
    exact ReadyU.nil
  refine ReadyU.cons (i := 8) rfl (fun K hK => ?_) ?_
  · skip
    simp only [List.getElem_toArray, List.getElem_cons_succ, List.getElem_cons_zero]
    refine ite_is (by rfl) ?_
    simp [go_sem]
    refine hK.out _ _ ⟨fun _ => ⟨((HF1.out.boxN hbx (by omega)).still (grown_alloc _ _)).cell 0 (by simp), ((HF1.out.boxN hbx (by omega)).still (grown_alloc _ _)).cell 1 (by simp), ((HF1.out.boxN hbx (by omega)).still (grown_alloc _ _)).cell 2 (by simp)⟩, ?_⟩
    clear hK K
    try simp only [List.getElem_toArray, List.getElem_cons_succ, List.getElem_cons_zero, Act.put, List.setIfInBounds_toArray, List.set_cons_zero, List.set_cons_succ]
    refine nameU ?_
    intro W17 HW17
    have hg17 : W1.grownBy W17 none := by rw [HW17.out]; exact grown_alloc _ _
    have BV17 := Lib.hid (show BoxN W17 W1.heap.size #[.int .i64 v] 3 by rw [HW17.out]; exact BoxN.new _ _ _)
    have hz17 : W1.heap.size < W17.heap.size := BV17.out.lt
    clear HW17
    have hs17 := hg17.size
    have HF17 := Lib.hid (HF1.out.still hg17); clear HF1
    have hS18 : W17.cell? ⟨gn, 0, none⟩ = some (.slice A1 N.ends.length c1) ∧ W17.cell? ⟨gn, 1, none⟩ = some (.slice A1' N.ids.length c1') ∧ W17.cell? ⟨gn, 2, none⟩ = some (.slice A1'' N.inputs.length c1'') := ⟨(HF17.out.boxN hbx (by omega)).cell 0 (by simp), (HF17.out.boxN hbx (by omega)).cell 1 (by simp), (HF17.out.boxN hbx (by omega)).cell 2 (by simp)⟩
    clear hS2
    refine anyU_ready (rs := [5]) (by kernel_rfl) (by simp) ?_
    refine ReadyU.cons (i := 5) rfl (fun K hK => ?_) ?_
    · skip
      simp only [List.getElem_toArray, List.getElem_cons_succ, List.getElem_cons_zero]
      refine ite_is (by rfl) ?_
      simp [go_sem]
      refine (numbersTo_any N.ends.length _ (by omega)).mono ?_
      rintro e W19 ⟨r5, rfl, hr5, hb19⟩
      have hg19 := grown_below hb19; clear hb19
      have hs19 := hg19.size
      have HF19 := Lib.hid (HF17.out.still hg19); clear HF17
      have BV19 := Lib.hid (BoxN.still BV17.out hg19); clear BV17
      have U19 := Lib.hid hr5; clear hr5
      have hS20 : W19.cell? ⟨gn, 0, none⟩ = some (.slice A1 N.ends.length c1) ∧ W19.cell? ⟨gn, 1, none⟩ = some (.slice A1' N.ids.length c1') ∧ W19.cell? ⟨gn, 2, none⟩ = some (.slice A1'' N.inputs.length c1'') := ⟨(HF19.out.boxN hbx (by omega)).cell 0 (by simp), (HF19.out.boxN hbx (by omega)).cell 1 (by simp), (HF19.out.boxN hbx (by omega)).cell 2 (by simp)⟩
      refine hK.out _ _ ⟨fun _ => hS20, ?_⟩
      clear hK K hS18
      try simp only [List.getElem_toArray, List.getElem_cons_succ, List.getElem_cons_zero, Act.put, List.setIfInBounds_toArray, List.set_cons_zero, List.set_cons_succ]
      refine anyU_ready (rs := [6]) (by kernel_rfl) (by simp) ?_
      refine ReadyU.cons (i := 6) rfl (fun K hK => ?_) ?_
      · skip
        simp only [List.getElem_toArray, List.getElem_cons_succ, List.getElem_cons_zero]
        refine ite_is (by rfl) ?_
        simp [go_sem]
        refine (near_own _ N lo1 hi1 v r5 (upTo N.ends.length) _ _ _ (Net.turned F1.out HF19.out (by omega) (by omega)) (by omega) U19.out (by omega) HG.out hv hul).mono ?_
        rintro e W21 ⟨r6, rfl, hr6, hb21⟩
        have hg21 := grown_below hb21; clear hb21
        have hs21 := hg21.size
        have HF21 := Lib.hid (HF19.out.still hg21); clear HF19
        have BV21 := Lib.hid (BoxN.still BV19.out hg21); clear BV19
        rw [HZ.out] at hr6
        have O21 := Lib.hid hr6; clear hr6
        have LO := Lib.hid O21.out.lt
        have hS22 : W21.cell? ⟨gn, 0, none⟩ = some (.slice A1 N.ends.length c1) ∧ W21.cell? ⟨gn, 1, none⟩ = some (.slice A1' N.ids.length c1') ∧ W21.cell? ⟨gn, 2, none⟩ = some (.slice A1'' N.inputs.length c1'') := ⟨(HF21.out.boxN hbx (by omega)).cell 0 (by simp), (HF21.out.boxN hbx (by omega)).cell 1 (by simp), (HF21.out.boxN hbx (by omega)).cell 2 (by simp)⟩
        refine hK.out _ _ ⟨fun _ => hS22, ?_⟩
        clear hK K hS20
        try simp only [List.getElem_toArray, List.getElem_cons_succ, List.getElem_cons_zero, Act.put, List.setIfInBounds_toArray, List.set_cons_zero, List.set_cons_succ]
        refine anyU_ready (rs := [9]) (by kernel_rfl) (by simp) ?_
        refine ReadyU.cons (i := 9) rfl (fun K hK => ?_) ReadyU.nil
        have LOX := Lib.hid O21.out.lt
        refine step_append_lies W21 (by rfl) _ _ _ (by rfl) W19.heap.size 3 i1 _ 1 _ Try.underlying23 HII.out HI1.out HI2.out HI3.out rfl (by omega) r6 _ (zz.map (Value.int .i64)) (by rfl) O21.out ⟨W1.heap.size, 0, none⟩ 1 1 [.int .i64 v] (by rfl) (by rfl) (World.news_of_block BV21.out) (by simp [Value.oneCell']) (by omega) (by unfold maxLen; omega) (by omega) (by omega) _ rfl ?_
        intro gp cp W23 hown hg23 hatp hltp
        simp only [List.length_map] at hown ⊢
        have hs23 := hg23.size
        have HF23 := Lib.hid (HF21.out.grown hg23 (fun g hg => by have := LO.out g hg; omega)); clear HF21
        have HOO := Lib.hid (ownI_app hown)
        clear hown LOX
        have hS24 : W23.cell? ⟨gn, 0, none⟩ = some (.slice A1 N.ends.length c1) ∧ W23.cell? ⟨gn, 1, none⟩ = some (.slice A1' N.ids.length c1') ∧ W23.cell? ⟨gn, 2, none⟩ = some (.slice A1'' N.inputs.length c1'') := ⟨(HF23.out.boxN hbx (by omega)).cell 0 (by simp), (HF23.out.boxN hbx (by omega)).cell 1 (by simp), (HF23.out.boxN hbx (by omega)).cell 2 (by simp)⟩
        refine hK.out _ _ ⟨fun _ => hS24, ?_⟩
        clear hK K hS22
        try simp only [List.getElem_toArray, List.getElem_cons_succ, List.getElem_cons_zero, Act.put, List.setIfInBounds_toArray, List.set_cons_zero, List.set_cons_succ]
        refine anyU_ready (rs := [10]) (by kernel_rfl) (by simp) ?_
        refine ReadyU.cons (i := 10) rfl (fun K hK => ?_) ReadyU.nil
        simp only [List.getElem_toArray, List.getElem_cons_succ, List.getElem_cons_zero]
        refine ite_is (by rfl) ?_
        simp [go_sem]
        refine hK.out _ _ ⟨fun _ => hS24, ?_⟩
        clear hK K
        try simp only [List.getElem_toArray, List.getElem_cons_succ, List.getElem_cons_zero, Act.put, List.setIfInBounds_toArray, List.set_cons_zero, List.set_cons_succ]
        clear hS24
        refine anyU_done (by kernel_rfl) ?_ _
        have hal : (zz ++ [(v : Int)]).length = zz.length + 1 := by simp
        go_wp2_with fail
        refine (sort_any _ (zz ++ [(v : Int)]) _ _ _ HOO.out.ints (Nat.le_refl _) (by omega)).mono ?_
        rintro e W20 ⟨rfl, hr20, hg20⟩
        have hs20 := hg20.size
        have HR20 := Lib.hid hr20; clear hr20
        have HF20 := Lib.hid (HF23.out.grown hg20 fun g hg => .inr (by
          rcases Sl.row HOO.out.ints with e | ⟨b, e, l1, l2⟩
          · rw [e] at hg; cases hg
          · rw [e] at hg; injection hg; omega))
        clear hg20
        go_wp2_with fail
        refine (compact_any _ (sortI (zz ++ [(v : Int)])) _ _ _ HR20.out (by omega) (by rw [sortI_length]; omega)).mono ?_
        rintro e W21 ⟨r21, rfl, hr21, hg21⟩
        have hs21 := hg21.size
        have HR21 := Lib.hid hr21; clear hr21
        have HF21 := Lib.hid (HF20.out.grown hg21 fun g hg => .inr (by
          rcases Sl.row HR20.out with e | ⟨b, e, l1, l2⟩
          · rw [e] at hg; cases hg
          · rw [e] at hg; injection hg; omega))
        clear hg21
        go_wp2_with fail
        go_ret
        refine ⟨_, rfl, ?_, (HF21.out.below_of (Below.refl _ _) (by omega) (by omega))⟩
        unfold around
        rw [HZ.out]
        exact HR21.out.mono (by omega) (by omega)
      exact ReadyU.nil
    exact ReadyU.nil
  exact ReadyU.nil

end Go.Proofs.Ytoebgfmnjjiddaa
