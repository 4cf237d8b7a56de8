/-
  Contracts: the numbers of a trail, and how two trails compare (program).
-/
import Derived.Test.YtpanigomfmfknaaGreatTr2
import Derived.Test.YtpanigomfmfknaaGreatBoolS
namespace Go.Proofs.YtpanigomfmfknaaGreat
open Go.ChangeShapes Go.WideShapes Go.ChangeAt Go.RowKit
set_option linter.unusedVariables false

def cmpJ (a b : Int) : Int := if a < b then -1 else if b < a then 1 else 0
theorem cmpJ_any (a b : Int) (w : World) : Calls Tryz.prog 63 #[.int .i64 a, .int .i64 b] w fun e w' => e = .returned (.int .i64 (cmpJ a b)) ∧ w = w' := by
  by_cases h1 : a < b
  · have h2 : ¬ b < a := by omega
    go_enter Tryz.func63, Tryz.ntmps63
    go_wp2
    go_ret
    exact ⟨ret_int (by unfold cmpJ; rw [if_pos h1]), rfl⟩
  · by_cases h2 : b < a
    · go_enter Tryz.func63, Tryz.ntmps63
      go_wp2
      go_ret
      exact ⟨ret_int (by unfold cmpJ; rw [if_neg (by omega), if_pos h2]), rfl⟩
    · go_enter Tryz.func63, Tryz.ntmps63
      go_wp2
      go_ret
      exact ⟨ret_int (by unfold cmpJ; rw [if_neg (by omega), if_neg (by omega)]), rfl⟩
/-- the order of the dictionary -/
def lexC : List Int → List Int → Int
  | [], [] => 0
  | [], _ :: _ => -1
  | _ :: _, [] => 1
  | x :: a, y :: b => if cmpJ x y = 0 then lexC a b else cmpJ x y
theorem cmpJ_zero {a b : Int} : cmpJ a b = 0 ↔ a = b := by unfold cmpJ; split <;> (try split) <;> omega
theorem cmpJ_abs (a b : Int) : -1 ≤ cmpJ a b ∧ cmpJ a b ≤ 1 := by unfold cmpJ; split <;> (try split) <;> omega
theorem lexC_same : ∀ a : List Int, lexC a a = 0
  | [] => rfl
  | x :: a => by rw [lexC, if_pos (cmpJ_zero.2 rfl)]; exact lexC_same a
theorem drop_nth {a : List Int} {k : Nat} (h : k < a.length) : a.drop k = nth a k :: a.drop (k + 1) := by rw [List.drop_eq_getElem_cons h, nth_eq h]
theorem lexC_step {a b : List Int} {k : Nat} (h1 : k < a.length) (h2 : k < b.length) : lexC (a.drop k) (b.drop k) = if cmpJ (nth a k) (nth b k) = 0 then lexC (a.drop (k + 1)) (b.drop (k + 1)) else cmpJ (nth a k) (nth b k) := by
  rw [drop_nth h1, drop_nth h2, lexC]
theorem lexC_over {a b : List Int} {k : Nat} (h1 : k < a.length) (h2 : b.length = k) : lexC (a.drop k) (b.drop k) = 1 := by
  have e2 : b.drop k = [] := List.drop_eq_nil_of_le (by omega)
  rw [drop_nth h1, e2, lexC]
theorem OwnI.allocT {w : World} {base : Nat} {e : TypeId} {v : Value} {zs : List Int} (h : OwnI w base e v zs) (o : Obj) : OwnI (w.alloc o) base e v zs := World.ownsRow.alloc h o
theorem lexC_end {a b : List Int} {k : Nat} (h1 : a.length = k) : lexC (a.drop k) (b.drop k) = if k < b.length then -1 else 0 := by
  have e1 : a.drop k = [] := List.drop_eq_nil_of_le (by omega)
  rw [e1]
  by_cases h : k < b.length
  · rw [drop_nth h, if_pos h, lexC]
  · have e2 : b.drop k = [] := List.drop_eq_nil_of_le (by omega)
    rw [e2, if_neg h, lexC]

set_option maxHeartbeats 2000000 in
set_option maxRecDepth 100000 in
theorem compare_any (v1 : Value) (a : List Int) (lo1 hi1 : Nat) (v2 : Value) (b : List Int) (lo2 hi2 : Nat) (w : World) (h1 : IntS w lo1 hi1 v1 a) (hh1 : hi1 ≤ w.heap.size) (h2 : IntS w lo2 hi2 v2 b) (hh2 : hi2 ≤ w.heap.size) (ha : a.length ≤ 1048576) (hb : b.length ≤ 1048576) :
    Calls Tryz.prog 47 #[v1, v2] w fun e w' => e = .returned (.int .i64 (lexC a b)) ∧ w = w' := by
  have F1 := Lib.hid h1
  obtain ⟨A1, c1, rfl, hc1, hd1⟩ := h1.dims
  clear h1
  have F2 := Lib.hid h2
  obtain ⟨A2, c2, rfl, hc2, hd2⟩ := h2.dims
  clear h2
  go_enter Tryz.func47, Tryz.ntmps47
  go_wp2_with fail
  go_loop [11] (fun i => ∃ (k : Nat), k ≤ a.length ∧ k ≤ b.length ∧ i = .int .i64 k ∧ Hid (lexC a b = lexC (a.drop k) (b.drop k))) (fun i => a.length - (intOf i).toNat)
  case atStart => exact ⟨0, Nat.zero_le _, Nat.zero_le _, rfl, Lib.hid rfl⟩
  case round =>
    obtain ⟨k, hk, hkb, rfl, HX⟩ := hrel
    by_cases hlt : k < a.length
    case neg =>
      have hka : a.length = k := by omega
      have HKA := Lib.hid hka
      by_cases hl2 : k < b.length
      · have h1 : ((a.length : Int) < b.length) := by omega
        have h2 : ¬ (k : Int) < a.length := by omega
        clear hka
        go_wp2_with fail
        go_ret
        exact ⟨ret_int (by rw [HX.out, lexC_end HKA.out, if_pos hl2]), rfl⟩
      · have h1 : ¬ ((a.length : Int) < b.length) := by omega
        have h2 : ¬ (k : Int) < a.length := by omega
        clear hka
        go_wp2_with fail
        go_ret
        exact ⟨ret_int (by rw [HX.out, lexC_end HKA.out, if_neg hl2]), rfl⟩
    obtain ⟨ba, oa, rfl, _, _, xa, _⟩ := F1.out.opened hlt
    by_cases hlb : k < b.length
    case neg =>
      have h1 : (b.length : Int) ≤ k := by omega
      have HKB := Lib.hid (show b.length = k by omega)
      go_wp2_with fail
      go_ret
      exact ⟨ret_int (by rw [HX.out, lexC_over hlt HKB.out]), rfl⟩
    obtain ⟨bb, ob, rfl, _, _, xb, _⟩ := F2.out.opened hlb
    have h1 : ¬ (b.length : Int) ≤ k := by omega
    have h3 : (k : Int) < b.length := by omega
    have HST := Lib.hid (lexC_step hlt hlb)
    obtain ⟨c, HC⟩ : ∃ c, Hid (cmpJ (nth a k) (nth b k) = c) := ⟨_, Lib.hid rfl⟩
    rw [HC.out] at HST
    have hcm := cmpJ_any (nth a k) (nth b k)
    rw [HC.out] at hcm
    have HCM := Lib.hid hcm; clear hcm
    by_cases hc : c = 0
    case neg =>
      have HCN := Lib.hid hc
      go_wp2_with (go_at_call 63; refine (HCM.out _).mono ?_; rintro e w' ⟨rfl, rfl⟩)
      go_ret
      exact ⟨ret_int (by rw [HX.out, HST.out, if_neg HCN.out]), rfl⟩
    go_wp2_with (go_at_call 63; refine (HCM.out _).mono ?_; rintro e w' ⟨rfl, rfl⟩)
    go_round
    case rel => exact ⟨k + 1, by omega, by omega, by go_num, Lib.hid (by rw [HX.out, HST.out, if_pos hc])⟩
    case measure => simp [intOf]; omega

set_option maxHeartbeats 1000000 in
set_option maxRecDepth 100000 in
theorem endNumbers_any (v : Value) (l : List Po) (lo hi : Nat) (w : World) (h : EndS w lo hi v (castL l)) (hh : hi ≤ w.heap.size) (hl : l.length ≤ 1000000) :
    Calls Tryz.prog 48 #[v] w fun e w' => ∃ r, e = .returned r ∧ IntS w' w.heap.size w'.heap.size r (numsP l) ∧ BD w.heap.size w w' := by
  obtain ⟨A, c, hv, hc, hd⟩ := h.dims
  rw [castL_length] at hv hc
  subst hv
  have F1 := Lib.hid h; clear h
  go_enter Tryz.func48, Tryz.ntmps48
  go_wp2_with fail
  go_loopw [3, 8] (fun ov iv wr => ∃ k : Nat, k ≤ l.length ∧ iv = .int .i64 k ∧ Hid (OwnI wr w.heap.size 3 ov (numsP (l.take k))) ∧ Hid (BD w.heap.size w wr)) (fun _ iv _ => l.length - (intOf iv).toNat)
  case atStart => exact ⟨0, Nat.zero_le _, rfl, Lib.hid (OwnI.nil _ _ _), Lib.hid (BD.refl _ _)⟩
  case round =>
    obtain ⟨k, hk, rfl, HO, HB⟩ := hrel
    have hs := HB.out.below.size
    by_cases hlt : k < l.length
    case neg =>
      obtain rfl : k = l.length := by omega
      rw [List.take_length] at HO
      go_wp2_with fail
      go_ret
      exact ⟨_, rfl, HO.out.ints, HB.out⟩
    have hn := numsP_length (l.take k)
    rw [List.length_take] at hn
    have HNL := Lib.hid (show (numsP (l.take k)).length < 1099511627774 by omega); clear hn
    have hkc : k < (castL l).length := by rw [castL_length]; exact hlt
    obtain ⟨b, off, rfl, _, hbh, x1, x2⟩ := (F1.out.below HB.out.below hh).opened hkc
    rw [nthE_castL hlt] at x1 x2
    have HT := Lib.hid (numsP_take hlt)
    obtain ⟨⟨pn, pp⟩, HP⟩ : ∃ q, Hid (nthP l k = q) := ⟨_, Lib.hid rfl⟩
    rw [HP.out] at x1 x2 HT
    dsimp only at x1 x2 HT
    clear hkc
    obtain ⟨zs, HZ⟩ : ∃ zs, Hid (numsP (l.take k) = zs) := ⟨_, Lib.hid rfl⟩
    rw [HZ.out] at HO HNL HT
    obtain ⟨yn, HYN⟩ : ∃ y : Int, Hid ((pn : Int) = y) := ⟨_, Lib.hid rfl⟩
    obtain ⟨yp, HYP⟩ : ∃ y : Int, Hid ((pp : Int) = y) := ⟨_, Lib.hid rfl⟩
    rw [HYN.out] at x1 HT
    rw [HYP.out] at x2 HT
    have HOA := Lib.hid (HO.out.allocT (.cells #[.int .i64 yn, .int .i64 yp] 48))
    go_wp2_with (at_builtin; refine append_twoD (s := .tmp 12) Tryz.underlying23 Tryz.info3 (by decide) (wr.alloc (.cells #[.int .i64 yn, .int .i64 yp] 48)) rfl _ rfl HOA.out yn yp _ (by simp [Act.eval, go_sem]) (by simp [Act.eval, go_sem]) HNL.out (by simp; omega) ?_; intro v' w' ho' hg' hat' hdr'; have HO9 := Lib.hid ho'; have HG9 := Lib.hid hg'; have HD9 := Lib.hid hdr'; clear ho' hg' hat' hdr')
    go_roundw
    case rel =>
      refine ⟨k + 1, by omega, by go_num, Lib.hid (by rw [HT.out]; exact HO9.out), Lib.hid (HB.out.trans ⟨?_, ?_⟩)⟩
      · have hg' := HG9.out
        exact ⟨hg'.os, hg'.tape, hg'.output, Nat.le_trans (by simp) hg'.size, fun j hj => (hg'.block j (by simp; omega) (fun e => by have := (HO.out.lt j e.symm).1; omega)).trans (Below.heap_alloc _ _ _ (by omega))⟩
      · exact HD9.out
    case measure => simp [intOf]; omega

set_option maxHeartbeats 4000000 in
set_option maxRecDepth 100000 in
theorem cmpTrail_any (v1 v2 : Value) (l1 l2 : List Po) (lo1 hi1 lo2 hi2 : Nat) (w : World) (h1 : EndS w lo1 hi1 v1 (castL l1)) (hh1 : hi1 ≤ w.heap.size) (h2 : EndS w lo2 hi2 v2 (castL l2)) (hh2 : hi2 ≤ w.heap.size) (hl1 : l1.length ≤ 240) (hl2 : l2.length ≤ 240) :
    Calls Tryz.prog 46 #[v1, v2] w fun e w' => e = .returned (.int .i64 (lexC (numsP l1) (numsP l2))) ∧ BD w.heap.size w w' := by
  have F1 := Lib.hid h1; clear h1
  have F2 := Lib.hid h2; clear h2
  obtain ⟨z1, HZ1⟩ : ∃ z, Hid (numsP l1 = z) := ⟨_, Lib.hid rfl⟩
  obtain ⟨z2, HZ2⟩ : ∃ z, Hid (numsP l2 = z) := ⟨_, Lib.hid rfl⟩
  rw [HZ1.out, HZ2.out]
  have HL1 := Lib.hid (show z1.length ≤ 1048576 by rw [← HZ1.out, numsP_length]; omega)
  have HL2 := Lib.hid (show z2.length ≤ 1048576 by rw [← HZ2.out, numsP_length]; omega)
  obtain ⟨r, HR⟩ : ∃ r, Hid (lexC z1 z2 = r) := ⟨_, Lib.hid rfl⟩
  rw [HR.out]
  have HC1 : Hid (Calls Tryz.prog 48 #[v1] w fun e w' => ∃ r, e = .returned r ∧ IntS w' w.heap.size w'.heap.size r z1 ∧ BD w.heap.size w w') := Lib.hid (by have := endNumbers_any _ l1 lo1 hi1 w F1.out hh1 (by omega); rw [HZ1.out] at this; exact this)
  have HC2 : Hid (∀ W1, BD w.heap.size w W1 → Calls Tryz.prog 48 #[v2] W1 fun e w' => ∃ r, e = .returned r ∧ IntS w' W1.heap.size w'.heap.size r z2 ∧ BD W1.heap.size W1 w') := Lib.hid (fun W1 hb => by have := hb.below.size; have := endNumbers_any _ l2 lo2 hi2 W1 (F2.out.below hb.below hh2) (by omega) (by omega); rw [HZ2.out] at this; exact this)
  clear hl1 hl2
  go_enter Tryz.func46, Tryz.ntmps46
  go_wp2_with (first
    | (go_at_call 48; refine HC1.out.mono ?_; rintro e W1 ⟨r1, rfl, hr1, hb1⟩; have HB1 := Lib.hid hb1; have hs1 := hb1.below.size; have HR1 := Lib.hid hr1; have HC3 := Lib.hid (HC2.out W1 hb1); clear hr1 hb1 HC1 HC2)
    | (go_at_call 48; refine HC3.out.mono ?_; rintro e W2 ⟨r2, rfl, hr2, hb2⟩; have HB2 := Lib.hid hb2; have hs2 := hb2.below.size; have HR2 := Lib.hid hr2; have HR3 := Lib.hid (HR1.out.below hb2.below (Nat.le_refl _)); clear hr2 hb2 HC3)
    | (go_at_call 47; refine (compare_any _ z1 _ _ _ z2 _ _ W2 HR3.out hs2 HR2.out (Nat.le_refl _) HL1.out HL2.out).mono ?_; rintro e W3 ⟨rfl, rfl⟩; rw [HR.out]))
  go_ret
  exact ⟨rfl, HB1.out.trans ⟨⟨HB2.out.below.os, HB2.out.below.tape, HB2.out.below.output, HB2.out.below.size, fun k hk => HB2.out.below.block k (by omega)⟩, HB2.out.drawn⟩⟩

end Go.Proofs.YtpanigomfmfknaaGreat
