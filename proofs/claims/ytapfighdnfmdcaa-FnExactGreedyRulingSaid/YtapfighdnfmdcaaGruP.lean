/-
  Contracts of GreedyRuling (program and reference).
-/
import Derived.Test.YtapfighdnfmdcaaRuleS
import Derived.Test.YtapfighdnfmdcaaPut2
import Derived.Test.YtapfighdnfmdcaaColour
namespace Go.Proofs.Ytapfighdnfmdcaa
open Go.ChangeShapes Go.WideShapes Go.ChangeAt Go.RowKit
set_option linter.unusedVariables false

def grHit (N : NetD) (α : Int) (set : List Int) (v : Nat) : Bool := set.any fun x => inB (nth (dist N v) x.toNat) 0 (α - 1)
def grStep (N : NetD) (α : Int) (set : List Int) (v : Int) : List Int := if grHit N α set v.toNat = true then set else set ++ [v]
def grU (N : NetD) (α : Int) (zs : List Int) : List Int := zs.foldl (grStep N α) []
def grOk (N : NetD) (zs : List Int) (α : Int) : Bool := orderB N zs && inB α 1 40
def grOut (N : NetD) (zs : List Int) (α : Int) : List Int := if grOk N zs α = true then sortI (grU N α zs) else []
structure GInv (N : NetD) (zs : List Int) (k : Nat) (U : List Int) : Prop where
  nodup : U.Nodup
  mem : ∀ x ∈ U, x ∈ zs.take k
  len : U.length ≤ k
theorem GInv.nil (N : NetD) (zs : List Int) : GInv N zs 0 [] := ⟨List.nodup_nil, (fun x hx => by cases hx), Nat.le_refl _⟩
theorem GInv.keep {N : NetD} {zs : List Int} {k : Nat} {U : List Int} (h : GInv N zs k U) (hk : k < zs.length) : GInv N zs (k + 1) U :=
  ⟨h.nodup, fun x hx => by rw [List.take_succ_eq_append_getElem hk]; exact List.mem_append_left _ (h.mem x hx), by have := h.len; omega⟩
theorem GInv.snoc {N : NetD} {zs : List Int} {k : Nat} {U : List Int} (h : GInv N zs k U) (hk : k < zs.length) (hn : nth zs k ∉ zs.take k) : GInv N zs (k + 1) (U ++ [nth zs k]) := by
  have hm : nth zs k ∉ U := fun hx => hn (h.mem _ hx)
  refine ⟨?_, fun x hx => ?_, by have := h.len; simp; omega⟩
  · rw [List.nodup_append]
    exact ⟨h.nodup, by simp, fun a ha b hb => by simp at hb; subst hb; rintro rfl; exact hm ha⟩
  · rw [List.take_succ_eq_append_getElem hk, ← nth_eq hk]
    simp only [List.mem_append, List.mem_singleton] at hx ⊢
    exact hx.imp (h.mem x) id
theorem GInv.node {N : NetD} {zs : List Int} {k : Nat} {U : List Int} (h : GInv N zs k U) (hp : permB zs N.ends.length = true) {x : Int} (hx : x ∈ U) : ∃ t : Nat, x = t ∧ t < N.ends.length := by
  obtain ⟨j, hj, e⟩ := List.mem_iff_getElem.1 (List.mem_of_mem_take (h.mem x hx))
  obtain ⟨t, et, ht, _⟩ := perm_at hp hj
  rw [nth_eq hj, e] at et
  exact ⟨t, et, ht⟩
theorem after_put (v : Int) : ∀ (S : List Int), S.Pairwise (· < ·) → v ∉ S → ∀ y ∈ S.dropWhile (fun y => decide (y < v)), v < y
  | [], _, _, y, hy => by simp at hy
  | z :: S, hs, hv, y, hy => by
    rw [List.pairwise_cons] at hs
    rw [List.dropWhile_cons] at hy
    by_cases h : z < v
    · rw [if_pos (by simpa using h)] at hy
      exact after_put v S hs.2 (fun h => hv (List.mem_cons_of_mem _ h)) y hy
    · rw [if_neg (by simpa using h)] at hy
      have hne : z ≠ v := fun e => hv (by simp [e])
      rcases List.mem_cons.1 hy with rfl | hy
      · omega
      · have := hs.1 y hy; omega
theorem before_put (v : Int) : ∀ (S : List Int), ∀ y ∈ S.takeWhile (fun y => decide (y < v)), y < v
  | [], y, hy => by simp at hy
  | z :: S, y, hy => by
    rw [List.takeWhile_cons] at hy
    by_cases h : z < v
    · rw [if_pos (by simpa using h)] at hy
      rcases List.mem_cons.1 hy with rfl | hy
      · exact h
      · exact before_put v S y hy
    · rw [if_neg (by simpa using h)] at hy; cases hy
theorem put_parts (S : List Int) (v : Int) : S.take (putK S v) = S.takeWhile (fun y => decide (y < v)) ∧ S.drop (putK S v) = S.dropWhile (fun y => decide (y < v)) := by
  have h := List.takeWhile_append_dropWhile (p := fun y => decide (y < v)) (l := S)
  unfold putK
  constructor
  · conv => lhs; arg 2; rw [← h]
    rw [List.take_left']; rfl
  · conv => lhs; arg 2; rw [← h]
    rw [List.drop_left']; rfl
theorem put_sort {U : List Int} {v : Int} (hn : U.Nodup) (hv : v ∉ U) : putL (sortI U) v = sortI (U ++ [v]) := by
  have hp := sortI_perm U
  have hvs : v ∉ sortI U := fun h => hv (hp.mem_iff.1 h)
  have hss : (sortI U).Pairwise (· < ·) := (List.Pairwise.and (sortI_sorted U) (hp.nodup_iff.2 hn)).imp fun h => by omega
  have hne : ¬ (putK (sortI U) v < (sortI U).length ∧ nth (sortI U) (putK (sortI U) v) = v) := fun h => hvs (by rw [← h.2]; exact nth_mem h.1)
  obtain ⟨e1, e2⟩ := put_parts (sortI U) v
  have heq : putL (sortI U) v = (sortI U).takeWhile (fun y => decide (y < v)) ++ [v] ++ (sortI U).dropWhile (fun y => decide (y < v)) := by unfold putL; rw [if_neg hne, e1, e2]
  rw [heq]
  have hbefore : ∀ y ∈ (sortI U).takeWhile (fun y => decide (y < v)), y < v := before_put v (sortI U)
  have hafter := after_put v (sortI U) hss hvs
  have hsplit := List.takeWhile_append_dropWhile (p := fun y => decide (y < v)) (l := sortI U)
  have hpw : ((sortI U).takeWhile (fun y => decide (y < v)) ++ (sortI U).dropWhile (fun y => decide (y < v))).Pairwise (· < ·) := by rw [hsplit]; exact hss
  rw [List.pairwise_append] at hpw
  apply List.Perm.eq_of_pairwise (le := (· ≤ ·)) (fun a b _ _ h1 h2 => by omega)
  · rw [List.pairwise_append, List.pairwise_append]
    refine ⟨⟨hpw.1.imp fun h => by omega, by simp, fun a ha b hb => ?_⟩, hpw.2.1.imp fun h => by omega, fun a ha b hb => ?_⟩
    · simp at hb; subst hb; have := hbefore a ha; omega
    · have h2 := hafter b hb
      rcases List.mem_append.1 ha with ha | ha
      · have := hbefore a ha; omega
      · simp at ha; subst ha; omega
  · exact sortI_sorted _
  · refine List.Perm.trans ?_ (sortI_perm (U ++ [v])).symm
    rw [List.append_assoc]
    refine List.Perm.trans (List.Perm.append_left _ List.perm_append_comm) ?_
    rw [← List.append_assoc, hsplit]
    exact hp.append_right _
theorem any_sortI (U : List Int) (p : Int → Bool) : (sortI U).any p = U.any p := (sortI_perm U).any_eq
theorem grOut_len (N : NetD) (zs : List Int) (α : Int) : (grOut N zs α).length ≤ zs.length := by
  unfold grOut; split
  · rw [sortI_length]
    have key : ∀ (l U : List Int), (l.foldl (grStep N α) U).length ≤ U.length + l.length := fun l => by
      induction l with
      | nil => intro U; simp
      | cons z l ih =>
        intro U
        rw [List.foldl_cons]
        refine Nat.le_trans (ih _) ?_
        unfold grStep
        split
        · simp only [List.length_cons]; omega
        · simp only [List.length_append, List.length_cons, List.length_nil]; omega
    have := key zs []
    simpa [grU] using this
  · exact Nat.zero_le _

set_option maxHeartbeats 4000000 in
set_option maxRecDepth 100000 in
theorem ruGreedy_any (v1 : Value) (N : NetD) (lo1 hi1 : Nat) (v2 : Value) (zs : List Int) (lo2 hi2 : Nat) (α : Int) (w : World) (h1 : Net w lo1 hi1 v1 N) (hh1 : hi1 ≤ w.heap.size) (h2 : IntS w lo2 hi2 v2 zs) (hh2 : hi2 ≤ w.heap.size) (hg : N.good = true) (hp : permB zs N.ends.length = true) (hα1 : 1 ≤ α) (hα2 : α ≤ 40) :
    Calls Try.prog 66 #[v1, v2, .int .i64 α] w fun e w' => ∃ r, e = .returned (r) ∧ IntS w' w.heap.size w'.heap.size r (sortI (grU N α zs)) ∧ Below w.heap.size w w' := by
  obtain ⟨n1, n40⟩ := good_n hg
  have HG := Lib.hid hg; clear hg
  have HP := Lib.hid hp; clear hp
  have hzl : zs.length ≤ N.ends.length := by have := perm_len HP.out; omega
  have F1 := Lib.hid h1
  obtain ⟨A1, c1, A1', c1', A1'', c1'', rfl, hc1, hd1, _⟩ := h1.parts
  obtain ⟨b1, o1, _, _, rfl, _⟩ := Net.rowAt F1.out (u := 0) (by omega)
  clear h1
  have F2 := Lib.hid h2
  obtain ⟨A2, c2, rfl, hc2, hd2⟩ := h2.dims
  clear h2
  obtain ⟨WA, HWA⟩ : ∃ W, Hid (W = (w.alloc (.cells #[.slice (some ⟨b1, o1, none⟩) N.ends.length c1, .slice A1' N.ids.length c1', .slice A1'' N.inputs.length c1''] 31))) := ⟨_, Lib.hid rfl⟩
  have hbA : Below w.heap.size w WA := by rw [HWA.out]; exact ((Below.refl _ _).alloc (Nat.le_refl _) _)
  have hsA : w.heap.size + 1 ≤ WA.heap.size := by rw [HWA.out]; simp; try omega
  have bx1 : BoxN WA (w.heap.size) #[.slice (some ⟨b1, o1, none⟩) N.ends.length c1, .slice A1' N.ids.length c1', .slice A1'' N.inputs.length c1''] 31 := by rw [HWA.out]; exact (BoxN.new' _ _ _ (by simp))
  have G1 := Lib.hid (Net.below F1.out hbA hh1); clear F1
  have G2 := Lib.hid (IntS.below F2.out hbA hh2); clear F2
  go_enter Try.func66, Try.ntmps66
  go_upto_region 1 with (fail)
  rw [← HWA.out]; clear HWA
  go_wp2_with fail
  go_loopw [12, 7] (fun i ov wr => ∃ (k : Nat) (U : List Int), k ≤ zs.length ∧ i = .int .i64 k ∧ Hid (OwnI wr WA.heap.size 3 ov (sortI U)) ∧ Hid (U = (zs.take k).foldl (grStep N α) []) ∧ Hid (GInv N zs k U) ∧ Hid (Turned WA.heap.size WA.heap.size WA wr)) (fun i ov _ => zs.length - (intOf i).toNat)
  case atStart => exact ⟨0, [], Nat.zero_le _, rfl, Lib.hid (by rw [show sortI [] = [] from List.eq_nil_of_length_eq_zero (by rw [sortI_length]; rfl)]; exact OwnI.nil _ _ _), Lib.hid rfl, Lib.hid (GInv.nil N zs), Lib.hid (Turned.refl WA.heap.size WA.heap.size WA)⟩
  case round =>
    obtain ⟨k, U, hk, rfl, HO, HX, HI, HF1⟩ := hrel
    have hs1 := HF1.out.size
    by_cases hlt : k < zs.length
    case neg =>
      obtain rfl : k = zs.length := by omega
      go_wp2_with fail
      go_ret
      refine ⟨_, rfl, ?_, (HF1.out.below_of hbA (by omega) (by omega))⟩
      have e : grU N α zs = U := by rw [HX.out, List.take_length]; rfl
      rw [e]
      exact HO.out.ints.mono (by omega) (Nat.le_refl _)
    obtain ⟨t, et, htl, hnm⟩ := perm_at HP.out hlt
    obtain ⟨b5, o5, rfl, _, _, x5, _⟩ := IntS.opened (IntS.turned G2.out HF1.out (by omega) (by omega)) hlt
    rw [et] at x5
    have HNM := Lib.hid hnm
    have ET := Lib.hid et
    have HXX := Lib.hid (show (zs.take (k + 1)).foldl (grStep N α) [] = if grHit N α U t = true then U else U ++ [(t : Int)] by rw [foldl_takeI _ _ _ hlt, ← HX.out, et]; rfl)
    have hul := HI.out.len
    obtain ⟨Az, cz, rfl, hcz, hdz⟩ := HO.out.ints.dims
    have HSL := Lib.hid (sortI_length U)
    rw [HSL.out] at hcz
    clear et hnm
    have kbx1_0 : wr.cell? ⟨w.heap.size, 0, none⟩ = some (.slice (some ⟨b1, o1, none⟩) N.ends.length c1) := (HF1.out.boxN bx1 (by omega)).cell 0 (by simp)
    have kbx1_1 : wr.cell? ⟨w.heap.size, 1, none⟩ = some (.slice A1' N.ids.length c1') := (HF1.out.boxN bx1 (by omega)).cell 1 (by simp)
    have kbx1_2 : wr.cell? ⟨w.heap.size, 2, none⟩ = some (.slice A1'' N.inputs.length c1'') := (HF1.out.boxN bx1 (by omega)).cell 2 (by simp)
    go_wp2_with fail
    clear kbx1_0 kbx1_1 kbx1_2 x5
    refine (ruFar_any _ N lo1 hi1 _ (sortI U) _ _ t _ (Net.turned G1.out HF1.out (by omega) (by omega)) (by omega) HO.out.ints (Nat.le_refl _) HG.out htl (by rw [HSL.out]; omega) (fun j hj => HI.out.node HP.out ((sortI_perm U).mem_iff.1 (nth_mem hj)))).mono ?_
    rintro e W2 ⟨rfl, hb2⟩
    have hg2 := grown_below hb2; clear hb2
    have hs2 := hg2.size
    have HF2 := Lib.hid (HF1.out.still hg2); clear HF1
    have O2 := Lib.hid (OwnI.still HO.out hg2); clear HO
    have HIN := Lib.hid (show inB (farOf (dist N t) (sortI U)) 0 (α - 1) = grHit N α U t by rw [farOf_inB, any_sortI]; rfl)
    cases hh : grHit N α U t with
    | true =>
      have HH := Lib.hid hh; clear hh
      go_wp2_with (go_at_call 65; refine (l1In_any _ _ _ _).mono ?_; rintro e w' ⟨rfl, rfl⟩; rw [HIN.out, HH.out])
      go_roundw
      case rel => exact ⟨k + 1, U, by omega, by go_num, O2, Lib.hid (by rw [HXX.out, HH.out]; rfl), Lib.hid (HI.out.keep hlt), HF2⟩
      case measure => simp [intOf]; omega
    | false =>
      have HH := Lib.hid hh; clear hh
      go_wp2_with (go_at_call 65; refine (l1In_any _ _ _ _).mono ?_; rintro e w' ⟨rfl, rfl⟩; rw [HIN.out, HH.out])
      refine (l1Put_any _ (sortI U) t WA.heap.size _ O2.out (by omega) (by rw [HSL.out]; omega)).mono ?_
      rintro e W9 ⟨r9, rfl, hr9, hb9⟩
      have HR9 := Lib.hid hr9
      rw [put_sort HI.out.nodup (fun hx => HNM.out (by rw [ET.out]; exact HI.out.mem _ hx))] at HR9
      obtain ⟨A9, c9, rfl, _, _⟩ := HR9.out.ints.dims
      have HF9 := Lib.hid (HF2.out.still (grown_below hb9))
      have HI9 := HI.out.snoc hlt HNM.out
      rw [ET.out] at HI9
      go_wp2_with fail
      go_roundw
      case rel => exact ⟨k + 1, _, by omega, by go_num, HR9, Lib.hid (by rw [HXX.out, HH.out]; rfl), Lib.hid HI9, HF9⟩
      case measure => simp [intOf]; omega

set_option maxHeartbeats 4000000 in
theorem gr1_any (s t gd gv ga : Nat) (α : Int) (N : NetD) (Ad : Option Addr) (cd : Nat) (lo hi : Nat) (w : World) (xd : w.cell? ⟨gd, 0, none⟩ = some (.slice Ad N.ends.length cd)) (xv : w.cell? ⟨gv, 0, none⟩ = some (.int .i64 t)) (xa : w.cell? ⟨ga, 0, none⟩ = some (.int .i64 α))
    (hD : IntSS w lo hi (.slice Ad N.ends.length cd) (allDist N)) (hg : N.good = true) (hs : s < N.ends.length) (ht : t < N.ends.length) (h1 : 1 ≤ α) (h2 : α ≤ 40) :
    Calls Try.prog 70 #[.int .i64 s, .pointer (some ⟨gd, 0, none⟩), .pointer (some ⟨gv, 0, none⟩), .pointer (some ⟨ga, 0, none⟩)] w fun e w' => e = .returned (.bool (inB (nth (dist N t) s) 0 (α - 1))) ∧ Below w.heap.size w w' := by
  obtain ⟨n1, n40⟩ := good_n hg
  obtain ⟨b, o, u, rfl, _, _, z, hu⟩ := SS.opened hD (j := t) (by rw [allDist_length]; exact ht)
  rw [nthL_allDist N ht] at hu
  have hdl := dist_len (good_nodes hg) ht
  obtain ⟨A, c, rfl, _, _⟩ := hu.dims
  obtain ⟨b2, o2, rfl, _, _, x2, _⟩ := IntS.opened hu (j := s) (by rw [hdl]; exact hs)
  rw [hdl] at z
  obtain ⟨y, HY⟩ : ∃ y, Hid (nth (dist N t) s = y) := ⟨_, Lib.hid rfl⟩
  rw [HY.out] at x2
  have i1 : (t : Int) < N.ends.length := by omega
  have i2 : (s : Int) < N.ends.length := by omega
  have w1 : IntKind.i64.wrap (α - 1) = α - 1 := IntWalk.i64_in _ (by omega)
  clear hD hu hdl hg
  go_enter Try.func70, Try.ntmps70
  go_upto_region 1 with (fail)
  go_quiet ((go_at_call 68; exact quiet_left (within_any _ _ _ _)))
  go_wp2_with fail
  go_ret
  exact ⟨ret_bool (by rw [HY.out]), below_drewN (Below.refl _ _) _⟩

set_option maxHeartbeats 4000000 in
set_option maxRecDepth 100000 in
theorem GreedyRuling_spec (v1 : Value) (N : NetD) (lo1 hi1 : Nat) (v2 : Value) (zs : List Int) (lo2 hi2 : Nat) (α : Int) (w : World) (h1 : Net w lo1 hi1 v1 N) (hh1 : hi1 ≤ w.heap.size) (h2 : IntS w lo2 hi2 v2 zs) (hh2 : hi2 ≤ w.heap.size) (hz1 : N.sz ≤ 1048576) (hz2 : zs.length ≤ 1048576) (ok1 : N.Ok) (ok2 : ∀ z ∈ zs, I64 z) (ok3 : I64 α) :
    Calls Try.prog 25 #[v1, v2, .int .i64 α] w fun e w' => ∃ r, e = .returned (.tuple #[r, .bool (grOk N zs α)]) ∧ IntS w' w.heap.size w'.heap.size r (grOut N zs α) ∧ Below w.heap.size w w' := by
  clear ok1 ok2
  have F1 := Lib.hid h1
  obtain ⟨A1, c1, A1', c1', A1'', c1'', rfl, hc1, hd1, _⟩ := h1.parts
  clear h1
  have F2 := Lib.hid h2
  obtain ⟨A2, c2, rfl, hc2, hd2⟩ := h2.dims
  clear h2
  obtain ⟨WA, HWA⟩ : ∃ W, Hid (W = (w.alloc (.cells #[.slice A1 N.ends.length c1, .slice A1' N.ids.length c1', .slice A1'' N.inputs.length c1''] 31))) := ⟨_, Lib.hid rfl⟩
  have hbA : Below w.heap.size w WA := by rw [HWA.out]; exact ((Below.refl _ _).alloc (Nat.le_refl _) _)
  have hsA : w.heap.size + 1 ≤ WA.heap.size := by rw [HWA.out]; simp; try omega
  have bx1 : BoxN WA (w.heap.size) #[.slice A1 N.ends.length c1, .slice A1' N.ids.length c1', .slice A1'' N.inputs.length c1''] 31 := by rw [HWA.out]; exact (BoxN.new' _ _ _ (by simp))
  have G1 := Lib.hid (Net.below F1.out hbA hh1); clear F1
  have G2 := Lib.hid (IntS.below F2.out hbA hh2); clear F2
  go_enter Try.func25, Try.ntmps25
  go_upto_region 1 with (fail)
  rw [← HWA.out]; clear HWA
  have kbx1_0 : WA.cell? ⟨w.heap.size, 0, none⟩ = some (.slice A1 N.ends.length c1) := bx1.cell 0 (by simp)
  have kbx1_1 : WA.cell? ⟨w.heap.size, 1, none⟩ = some (.slice A1' N.ids.length c1') := bx1.cell 1 (by simp)
  have kbx1_2 : WA.cell? ⟨w.heap.size, 2, none⟩ = some (.slice A1'' N.inputs.length c1'') := bx1.cell 2 (by simp)
  go_wp2_with fail
  clear kbx1_0 kbx1_1 kbx1_2
  refine (ruOrder_any _ N lo1 hi1 _ zs lo2 hi2 _ G1.out (by omega) G2.out (by omega) hz1).mono ?_
  rintro e W1 ⟨rfl, hb1⟩
  have hg1 := grown_below hb1; clear hb1
  have hs1 := hg1.size
  have HF1 := Lib.hid ((Turned.refl WA.heap.size WA.heap.size WA).still hg1)
  by_cases hor : orderB N zs = true
  case neg =>
    have hor' : orderB N zs = false := by simpa using hor
    rw [hor']
    have HOR := Lib.hid hor'; clear hor hor'
    go_wp2_with fail
    go_ret2
    exact ⟨_, ret_vb (show false = grOk N zs α by unfold grOk; rw [HOR.out]; simp), by unfold grOut grOk; rw [HOR.out]; simp only [Bool.false_and]; exact IntS.nil _ _ _, (HF1.out.below_of hbA (by omega) (by omega))⟩
  rw [hor]
  have HOR := Lib.hid hor; clear hor
  have HG := Lib.hid (orderB_parts HOR.out).1
  have HP := Lib.hid (orderB_parts HOR.out).2
  obtain ⟨n1, n40⟩ := good_n HG.out
  have hzl : zs.length ≤ N.ends.length := by have := perm_len HP.out; omega
  by_cases hq : inB α 1 40 = true
  case neg =>
    have hq' : inB α 1 40 = false := by simpa using hq
    have HQ := Lib.hid hq'; clear hq
    go_wp2_with (go_at_call 65; refine (l1In_any _ _ _ _).mono ?_; rintro e w' ⟨rfl, rfl⟩)
    go_ret2
    exact ⟨_, ret_vb (show false = grOk N zs α by unfold grOk; rw [HQ.out]; simp), by unfold grOut grOk; rw [HQ.out]; simp only [Bool.and_false]; exact IntS.nil _ _ _, (HF1.out.below_of hbA (by omega) (by omega))⟩
  have HQ := Lib.hid hq
  have HOK := Lib.hid (show grOk N zs α = true by unfold grOk; rw [HOR.out, HQ.out]; rfl)
  obtain ⟨a1, a2⟩ := inB_le hq
  have kbx1_0 : W1.cell? ⟨w.heap.size, 0, none⟩ = some (.slice A1 N.ends.length c1) := (HF1.out.boxN bx1 (by omega)).cell 0 (by simp)
  have kbx1_1 : W1.cell? ⟨w.heap.size, 1, none⟩ = some (.slice A1' N.ids.length c1') := (HF1.out.boxN bx1 (by omega)).cell 1 (by simp)
  have kbx1_2 : W1.cell? ⟨w.heap.size, 2, none⟩ = some (.slice A1'' N.inputs.length c1'') := (HF1.out.boxN bx1 (by omega)).cell 2 (by simp)
  go_wp2_with (go_at_call 65; refine (l1In_any _ _ _ _).mono ?_; rintro e w' ⟨rfl, rfl⟩)
  clear kbx1_0 kbx1_1 kbx1_2 hq
  refine (ruGreedy_any _ N lo1 hi1 _ zs lo2 hi2 α _ (Net.turned G1.out HF1.out (by omega) (by omega)) (by omega) (IntS.turned G2.out HF1.out (by omega) (by omega)) (by omega) HG.out HP.out a1 a2).mono ?_
  rintro e W2 ⟨r, rfl, hr, hb2⟩
  have hg2 := grown_below hb2; clear hb2
  have hs2 := hg2.size
  have HF2 := Lib.hid (HF1.out.still hg2); clear HF1
  have R2 := Lib.hid hr; clear hr
  obtain ⟨Ar, cr, rfl, hcr, hdr⟩ := R2.out.dims
  have HR := Lib.hid R2.out
  obtain ⟨rs, HRS⟩ : ∃ rs, Hid (sortI (grU N α zs) = rs) := ⟨_, Lib.hid rfl⟩
  rw [HRS.out] at HR ⊢
  go_wp2_with fail
  go_ret2
  refine ⟨_, ret_vb HOK.out.symm, ?_, (HF2.out.below_of hbA (by omega) (by omega))⟩
  have e : grOut N zs α = rs := by unfold grOut; rw [HOK.out, if_pos rfl, HRS.out]
  rw [e]
  exact HR.out.mono (by omega) (by omega)

set_option maxHeartbeats 4000000 in
set_option maxRecDepth 100000 in
theorem GreedyRuling_impl (v1 : Value) (N : NetD) (lo1 hi1 : Nat) (v2 : Value) (zs : List Int) (lo2 hi2 : Nat) (α : Int) (w : World) (h1 : Net w lo1 hi1 v1 N) (hh1 : hi1 ≤ w.heap.size) (h2 : IntS w lo2 hi2 v2 zs) (hh2 : hi2 ≤ w.heap.size) (hz1 : N.sz ≤ 1048576) (hz2 : zs.length ≤ 1048576) (ok1 : N.Ok) (ok2 : ∀ z ∈ zs, I64 z) (ok3 : I64 α) :
    Calls Try.prog 26 #[v1, v2, .int .i64 α] w fun e w' => ∃ r, e = .returned (.tuple #[r, .bool (grOk N zs α)]) ∧ IntS w' w.heap.size w'.heap.size r (grOut N zs α) ∧ Below w.heap.size w w' := by
  clear ok1 ok2
  have F1 := Lib.hid h1
  obtain ⟨A1, c1, A1', c1', A1'', c1'', rfl, hc1, hd1, _⟩ := h1.parts
  clear h1
  have F2 := Lib.hid h2
  obtain ⟨A2, c2, rfl, hc2, hd2⟩ := h2.dims
  clear h2
  obtain ⟨WA, HWA⟩ : ∃ W, Hid (W = ((w.alloc (.cells #[.slice A1 N.ends.length c1, .slice A1' N.ids.length c1', .slice A1'' N.inputs.length c1''] 31)).alloc (.cells #[.int .i64 α] 3))) := ⟨_, Lib.hid rfl⟩
  have hbA : Below w.heap.size w WA := by rw [HWA.out]; exact (((Below.refl _ _).alloc (Nat.le_refl _) _).alloc (by simp; try omega) _)
  have hsA : w.heap.size + 2 ≤ WA.heap.size := by rw [HWA.out]; simp; try omega
  have bx1 : BoxN WA (w.heap.size) #[.slice A1 N.ends.length c1, .slice A1' N.ids.length c1', .slice A1'' N.inputs.length c1''] 31 := by rw [HWA.out]; exact (BoxN.new' _ _ _ (by simp)).still (grown_alloc _ _)
  have bx3 : BoxN WA (w.heap.size + 1) #[.int .i64 α] 3 := by rw [HWA.out]; exact (BoxN.new' _ _ _ (by simp))
  have G1 := Lib.hid (Net.below F1.out hbA hh1); clear F1
  have G2 := Lib.hid (IntS.below F2.out hbA hh2); clear F2
  go_enter Try.func26, Try.ntmps26
  go_upto_region 1 with (fail)
  rw [← HWA.out]; clear HWA
  have kbx1_0 : WA.cell? ⟨w.heap.size, 0, none⟩ = some (.slice A1 N.ends.length c1) := bx1.cell 0 (by simp)
  have kbx1_1 : WA.cell? ⟨w.heap.size, 1, none⟩ = some (.slice A1' N.ids.length c1') := bx1.cell 1 (by simp)
  have kbx1_2 : WA.cell? ⟨w.heap.size, 2, none⟩ = some (.slice A1'' N.inputs.length c1'') := bx1.cell 2 (by simp)
  have kbx3_0 : WA.cell? ⟨w.heap.size + 1, 0, none⟩ = some (.int .i64 α) := bx3.cell 0 (by simp)
  go_wp2_with fail
  clear kbx1_0 kbx1_1 kbx1_2 kbx3_0
  refine (isOrder_any _ N lo1 hi1 _ zs lo2 hi2 _ G1.out (by omega) G2.out (by omega) hz1).mono ?_
  rintro e W1 ⟨rfl, hb1⟩
  have hg1 := grown_below hb1; clear hb1
  have hs1 := hg1.size
  have HF1 := Lib.hid ((Turned.refl WA.heap.size WA.heap.size WA).still hg1)
  by_cases hor : orderB N zs = true
  case neg =>
    have hor' : orderB N zs = false := by simpa using hor
    rw [hor']
    have HOR := Lib.hid hor'; clear hor hor'
    go_wp2_with fail
    go_ret2
    exact ⟨_, ret_vb (show false = grOk N zs α by unfold grOk; rw [HOR.out]; simp), by unfold grOut grOk; rw [HOR.out]; simp only [Bool.false_and]; exact IntS.nil _ _ _, (HF1.out.below_of hbA (by omega) (by omega))⟩
  rw [hor]
  have HOR := Lib.hid hor; clear hor
  have HG := Lib.hid (orderB_parts HOR.out).1
  have HP := Lib.hid (orderB_parts HOR.out).2
  obtain ⟨n1, n40⟩ := good_n HG.out
  have hzl : zs.length ≤ N.ends.length := by have := perm_len HP.out; omega
  have kbx3_0 : W1.cell? ⟨w.heap.size + 1, 0, none⟩ = some (.int .i64 α) := (HF1.out.boxN bx3 (by omega)).cell 0 (by simp)
  by_cases hq : inB α 1 40 = true
  case neg =>
    have hq' : inB α 1 40 = false := by simpa using hq
    have HQ := Lib.hid hq'; clear hq
    go_wp2_with (go_at_call 68; refine (within_any _ _ _ _).mono ?_; rintro e w' ⟨rfl, rfl⟩)
    go_ret2
    exact ⟨_, ret_vb (show false = grOk N zs α by unfold grOk; rw [HQ.out]; simp), by unfold grOut grOk; rw [HQ.out]; simp only [Bool.and_false]; exact IntS.nil _ _ _, (HF1.out.below_of hbA (by omega) (by omega))⟩
  have HQ := Lib.hid hq
  have HOK := Lib.hid (show grOk N zs α = true by unfold grOk; rw [HOR.out, HQ.out]; rfl)
  obtain ⟨a1, a2⟩ := inB_le hq
  have kbx1_0 : W1.cell? ⟨w.heap.size, 0, none⟩ = some (.slice A1 N.ends.length c1) := (HF1.out.boxN bx1 (by omega)).cell 0 (by simp)
  have kbx1_1 : W1.cell? ⟨w.heap.size, 1, none⟩ = some (.slice A1' N.ids.length c1') := (HF1.out.boxN bx1 (by omega)).cell 1 (by simp)
  have kbx1_2 : W1.cell? ⟨w.heap.size, 2, none⟩ = some (.slice A1'' N.inputs.length c1'') := (HF1.out.boxN bx1 (by omega)).cell 2 (by simp)
  go_wp2_with (go_at_call 68; refine (within_any _ _ _ _).mono ?_; rintro e w' ⟨rfl, rfl⟩)
  clear kbx1_0 kbx1_1 kbx1_2 kbx3_0 hq
  refine (allDistances_any _ N lo1 hi1 _ (Net.turned G1.out HF1.out (by omega) (by omega)) (by omega) (by omega) (good_nodes HG.out) (good_degs HG.out)).mono ?_
  rintro e W2 ⟨rd, rfl, hrd, hb2⟩
  have hg2 := grown_below hb2; clear hb2
  have hs2 := hg2.size
  have HF2 := Lib.hid (HF1.out.still hg2); clear HF1
  have D2 := Lib.hid hrd; clear hrd
  obtain ⟨Ad, cd, rfl, hcd, hdd⟩ := D2.out.dims
  rw [allDist_length] at hcd ⊢
  go_upto_region 4 with (fail)
  refine nameC ?_
  intro W3 HW3
  have hg3 : W2.grownBy W3 none := by rw [HW3.out]; exact grown_alloc _ _
  have hs3 := hg3.size
  have HF3 := Lib.hid (HF2.out.still hg3); clear HF2
  have D3 := Lib.hid (ISS.still D2.out hg3 (by omega)); clear D2
  have bxd3 := Lib.hid (show BoxN W3 W2.heap.size #[.slice Ad N.ends.length cd] 46 by rw [HW3.out]; exact BoxN.new _ _ _)
  clear HW3
  have N_3 := Lib.hid (Net.turned G1.out HF3.out (by omega) (by omega)); clear G1
  have zs_3 := Lib.hid (IntS.turned G2.out HF3.out (by omega) (by omega)); clear G2
  have bx1_3 := HF3.out.boxN bx1 (by omega); clear bx1
  have bx3_3 := HF3.out.boxN bx3 (by omega); clear bx3
  have hbA3 := (HF3.out.below_of hbA (by omega) (by omega)); clear hbA HF3
  rw [allDist_length] at D3
  have hbdl := bxd3.out.lt
  go_wp2_with fail
  go_loopw [25, 9] (fun i ov wr => ∃ (k : Nat) (U : List Int), k ≤ zs.length ∧ i = .int .i64 k ∧ Hid (OwnI wr W3.heap.size 3 ov U) ∧ Hid (U = (zs.take k).foldl (grStep N α) []) ∧ Hid (GInv N zs k U) ∧ Hid (Turned W3.heap.size W3.heap.size W3 wr)) (fun i ov _ => zs.length - (intOf i).toNat)
  case atStart => exact ⟨0, [], Nat.zero_le _, rfl, Lib.hid (OwnI.nil _ _ _), Lib.hid rfl, Lib.hid (GInv.nil N zs), Lib.hid (Turned.refl W3.heap.size W3.heap.size W3)⟩
  case round =>
    obtain ⟨k, U, hk, rfl, HO, HX, HI, HF4⟩ := hrel
    have hs4 := HF4.out.size
    have hul := HI.out.len
    obtain ⟨Az, cz, rfl, hcz, hdz⟩ := HO.out.ints.dims
    by_cases hlt : k < zs.length
    case neg =>
      obtain rfl : k = zs.length := by omega
      go_wp2_with fail
      refine (sort_any _ U _ _ _ HO.out.ints (Nat.le_refl _) (by omega)).mono ?_
      rintro e W9 ⟨rfl, hr9, hg9⟩
      have hg9s := hg9.size
      have HR9 := Lib.hid hr9
      have HF9 := Lib.hid (HF4.out.grown hg9 fun g hg => .inr (by
        rcases Sl.row HO.out.ints with e | ⟨b, e, l1, l2⟩
        · rw [e] at hg; cases hg
        · rw [e] at hg; injection hg; omega))
      clear hr9 hg9
      go_wp2_with fail
      go_ret2
      refine ⟨_, ret_vb HOK.out.symm, ?_, (HF9.out.below_of hbA3 (by omega) (by omega))⟩
      have e : grOut N zs α = sortI U := by unfold grOut; rw [HOK.out, if_pos rfl, HX.out, List.take_length]; rfl
      rw [e]
      exact HR9.out.mono (by omega) (by omega)
    obtain ⟨t, et, htl, hnm⟩ := perm_at HP.out hlt
    obtain ⟨b5, o5, rfl, _, _, x5, _⟩ := IntS.opened (IntS.turned zs_3.out HF4.out (by omega) (by omega)) hlt
    rw [et] at x5
    have HNM := Lib.hid hnm
    have ET := Lib.hid et
    have HXX := Lib.hid (show (zs.take (k + 1)).foldl (grStep N α) [] = if grHit N α U t = true then U else U ++ [(t : Int)] by rw [foldl_takeI _ _ _ hlt, ← HX.out, et]; rfl)
    clear et hnm
    go_upto_region 8 with (fail)
    refine nameC ?_
    intro W5 HW5
    have hg5 : wr.grownBy W5 none := by rw [HW5.out]; exact grown_alloc _ _
    have hs5 := hg5.size
    have HF5 := Lib.hid (HF4.out.still hg5); clear HF4
    have O5 := Lib.hid (OwnI.still HO.out hg5); clear HO
    have bxv5 := Lib.hid (show BoxN W5 wr.heap.size #[.int .i64 t] 3 by rw [HW5.out]; exact BoxN.new _ _ _)
    clear HW5
    clear x5
    have hmf : ∀ (fn : Fn) (first cap : Array Value) (w : World), (Instr.makeFunc fn first cap).run Try.prog w = .ok (.func fn first cap) w := fun _ _ _ _ => rfl
    have d1x := Lib.hid (ISS.turned D3.out HF5.out (by omega) (by omega))
    have b1x := Lib.hid (HF5.out.boxN bxd3.out (by omega))
    have b2x := bxv5
    have b3x := Lib.hid (HF5.out.boxN bx3_3 (by omega))
    have HCF := Lib.hid (ContainsFunc_int 70 #[.pointer (some ⟨W2.heap.size, 0, none⟩), .pointer (some ⟨wr.heap.size, 0, none⟩), .pointer (some ⟨w.heap.size + 1, 0, none⟩)] (enters_of Try.func70 (by kernel_rfl) rfl) (fun x => inB (nth (dist N t) x.toNat) 0 (α - 1)) _ U _ _ _ O5.out.ints (Nat.le_refl _) (fun x hx W hW => by
      obtain ⟨s, rfl, hs⟩ := HI.out.node HP.out hx
      have hws := hW.size
      have l1 := b1x.out.lt
      have l2 := b2x.out.lt
      have l3 := b3x.out.lt
      exact gr1_any s t _ _ _ α N Ad cd _ _ W ((b1x.out.below hW l1).cell 0 (by simp)) ((b2x.out.below hW l2).cell 0 (by simp)) ((b3x.out.below hW l3).cell 0 (by simp)) (ISS.below d1x.out hW (by omega)) HG.out hs htl a1 a2))
    clear d1x b1x b2x b3x
    go_wp2_with fail
    refine (HCF.out).mono ?_
    rintro e W6 ⟨rfl, hb6⟩
    have hg6 := grown_below hb6; clear hb6
    have hs6 := hg6.size
    have HF6 := Lib.hid (HF5.out.still hg6); clear HF5
    have O6 := Lib.hid (OwnI.still O5.out hg6); clear O5
    have bxv6 := Lib.hid (BoxN.still bxv5.out hg6); clear bxv5
    have kbxv_0 : W6.cell? ⟨wr.heap.size, 0, none⟩ = some (.int .i64 t) := bxv6.out.cell 0 (by simp)
    have HGH := Lib.hid (show (U.any fun x => inB (nth (dist N t) x.toNat) 0 (α - 1)) = grHit N α U t from rfl)
    rw [HGH.out]
    have hlv := O6.out.lt
    cases hh : grHit N α U t with
    | true =>
      have HH := Lib.hid hh; clear hh
      go_wp2_with fail
      go_roundw
      case rel => exact ⟨k + 1, U, by omega, by go_num, O6, Lib.hid (by rw [HXX.out, HH.out]; rfl), Lib.hid (HI.out.keep hlt), HF6⟩
      case measure => simp [intOf]; omega
    | false =>
      have HH := Lib.hid hh; clear hh
      have HI9 := HI.out.snoc hlt HNM.out
      rw [ET.out] at HI9
      have HI9 := Lib.hid HI9
      go_wp2_with (at_builtin; refine append_int (s := .tmp 33) Try.underlying23 Try.info3 (by decide) W6 rfl _ rfl O6.out t _ rfl (by simp [Act.eval, go_sem]) (by omega) (by omega) ?_; intro v' w' ho' hg' hat')
      go_roundw
      case rel => exact ⟨k + 1, _, by omega, by go_num, Lib.hid ho', Lib.hid (by rw [HXX.out, HH.out]; rfl), HI9, Lib.hid (HF6.out.grown hg' fun g hg => .inr (hlv g hg).1)⟩
      case measure => simp [intOf]; omega

end Go.Proofs.Ytapfighdnfmdcaa
