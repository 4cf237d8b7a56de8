/-
  The reference's side of the laws on views: viFits, viParse, IsView, DepthOfView.
-/
import Derived.Test.YtlfdhhmccjkogaaVq
import Derived.Test.YtlfdhhmccjkogaaVi
namespace Go.Proofs.Ytlfdhhmccjkogaa
open Go.RowKit
set_option linter.unusedVariables false

theorem sv_parts {s : ByteArray} {f p q : Nat} {t : VT} (h : sv (f + 1) s p = some (t, q)) : ∀ j, j < t.parts.length → ∃ p1 q1, sv f s p1 = some (nthT t.parts j, q1) := by
  rw [sv] at h
  unfold pnode at h
  split at h
  · cases h
  · rename_i d e1
    split at h
    · split at h
      · cases h
      · rename_i i e2
        split at h
        · injection h with h
          injection h with h1 h2
          subst h1
          intro j hj
          exact absurd hj (by simp [VT.parts])
        · split at h
          · cases h
          · rename_i ps ts q1 e3
            split at h
            · injection h with h
              injection h with h1 h2
              subst h1
              obtain ⟨us, h1, h2, h3⟩ := ploop_parts e3
              simp only [List.nil_append] at h1
              subst h1
              intro j hj
              exact (h3 _ (nthT_mem hj)).2
            · cases h
    · cases h
theorem fits_eq (t : VT) (n : Int) : t.fits n = (t.degree == 0 || ((t.parts.isEmpty == (n == 0)) && fitsL t.parts (n - 1))) := by
  cases t with
  | node d i ps ts k => exact fits_node d i ps ts k n
theorem fitsL_false {ts : List VT} {n : Int} {j : Nat} (hj : j < ts.length) (h : (nthT ts j).fits n = false) : fitsL ts n = false := by
  rw [Bool.eq_false_iff]
  intro e
  have := (fitsL_iff n ts).1 e _ (nthT_mem hj)
  rw [h] at this; cases this
theorem fitsL_true {ts : List VT} {n : Int} (h : ∀ j, j < ts.length → (nthT ts j).fits n = true) : fitsL ts n = true := (fitsL_iff n ts).2 fun t ht => by
  obtain ⟨j, hj, e⟩ := List.mem_iff_getElem.1 ht
  have := h j hj
  rw [show nthT ts j = ts[j] by simp [nthT, hj], e] at this
  exact this
set_option maxHeartbeats 4000000 in
set_option maxRecDepth 100000 in
theorem viFits_any (s : ByteArray) : ∀ (f p q : Nat) (t : VT) (n : Int) (b lo hi : Nat) (w : World), sv f s p = some (t, q) → -100000 + (f : Int) ≤ n → n ≤ 100000 → TreeAt w 55 lo hi t b →
    Calls Try.prog 40 #[.pointer (some ⟨b, 0, none⟩), .int .i64 n] w (fun e w' => e = .returned (.bool (t.fits n)) ∧ w = w') := by
  intro f
  induction f with
  | zero => intro p q t n b lo hi w h; rw [sv] at h; cases h
  | succ f ih =>
    intro p q t n b lo hi w h hn1 hn2 ht
    have HP := Lib.hid (sv_parts h); clear h
    have HIH := Lib.hid ih; clear ih
    have HF := Lib.hid (fits_eq t n)
    obtain ⟨vp, vq, bs, _, _, hbx, _, hsl, hts⟩ := ht.opened
    have HT := Lib.hid hts; clear hts ht
    obtain ⟨A, c, rfl, hc1, hc2, hcell⟩ := hsl
    unfold maxLen at hc2
    have HC := Lib.hid hcell; clear hcell
    have k0 : w.cell? ⟨b, 0, none⟩ = some (.int .i64 t.degree) := hbx.cell 0 (by simp)
    have k3 : w.cell? ⟨b, 3, none⟩ = some (.slice A t.parts.length c) := hbx.cell 3 (by simp)
    clear hbx
    obtain ⟨d, HD⟩ : ∃ d, Hid (t.degree = d) := ⟨_, Lib.hid rfl⟩
    obtain ⟨m, HM⟩ : ∃ m, Hid (t.parts.length = m) := ⟨_, Lib.hid rfl⟩
    rw [HD.out] at k0
    rw [HM.out] at k3 hc1
    by_cases hd : d = 0
    · have h1 : ((d : Int) == 0) = true := by simp; exact hd
      have HD0 := Lib.hid hd; clear hd
      go_enter Try.func40, Try.ntmps40
      go_wp2_with fail
      go_ret
      exact ⟨ret_bool (by rw [HF.out, HD.out, HD0.out]; rfl), rfl⟩
    have h1 : ((d : Int) == 0) = false := by simp; exact hd
    have HD0 := Lib.hid (show (t.degree == 0) = false by rw [HD.out]; simp; exact hd); clear hd
    by_cases hm : m = 0
    · have h2 : ((m : Int) == 0) = true := by simp; exact hm
      have HPE := Lib.hid (List.eq_nil_of_length_eq_zero (HM.out.trans hm)); clear hm
      by_cases hn : n = 0
      · have h3 : (n == 0) = true := by simp; exact hn
        have HN := Lib.hid hn; clear hn
        go_enter Try.func40, Try.ntmps40
        go_wp2_with fail
        go_loop [26] (fun i => i = .int .i64 0) (fun i => 1)
        case atStart => rfl
        case round =>
          obtain rfl := hrel
          have h4 : ¬ (0 : Int) < (m : Int) := by simpa using h2
          go_wp2_with fail
          go_ret
          exact ⟨ret_bool (by rw [HF.out, HD0.out, HPE.out, HN.out]; rfl), rfl⟩
      · have h3 : (n == 0) = false := by simp; exact hn
        have HN := Lib.hid hn; clear hn
        go_enter Try.func40, Try.ntmps40
        go_wp2_with fail
        go_ret
        exact ⟨ret_bool (by rw [HF.out, HD0.out, HPE.out, h3]; rfl), rfl⟩
    have h2 : ((m : Int) == 0) = false := by simp; exact hm
    have HPE := Lib.hid (show t.parts.isEmpty = false by
      cases hp : t.parts with
      | nil => rw [hp] at HM; exact absurd HM.out.symm hm
      | cons => rfl)
    clear hm
    by_cases hn : n = 0
    · have h3 : (n == 0) = true := by simp; exact hn
      have HN := Lib.hid hn; clear hn
      go_enter Try.func40, Try.ntmps40
      go_wp2_with fail
      go_ret
      exact ⟨ret_bool (by rw [HF.out, HD0.out, HPE.out, h3]; rfl), rfl⟩
    have h3 : (n == 0) = false := by simp; exact hn
    have HFF := Lib.hid (show t.fits n = fitsL t.parts (n - 1) by rw [HF.out, HD0.out, HPE.out, h3]; simp)
    clear hn
    go_enter Try.func40, Try.ntmps40
    go_wp2_with fail
    clear k0 k3
    go_loop [26] (fun i => ∃ k : Nat, k ≤ m ∧ i = .int .i64 k ∧ Hid (∀ j, j < k → (nthT t.parts j).fits (n - 1) = true)) (fun i => m - (intOf i).toNat)
    case atStart => exact ⟨0, Nat.zero_le _, rfl, Lib.hid fun j hj => absurd hj (by omega)⟩
    case round =>
      obtain ⟨k, hk, rfl, HU⟩ := hrel
      by_cases hlt : k < m
      case neg =>
        obtain rfl : k = m := by omega
        go_wp2_with fail
        go_ret
        exact ⟨ret_bool (by rw [HFF.out]; exact (fitsL_true (by rw [HM.out]; exact HU.out)).symm), rfl⟩
      obtain ⟨bq, oq, hA, _, _, hcs⟩ := HC.out (by rw [HM.out]; omega)
      have x1 := (hcs k (by rw [HM.out]; omega)).1
      clear hcs
      subst hA
      obtain ⟨p1, q1, hsv⟩ := HP.out k (by rw [HM.out]; exact hlt)
      have HCALL := Lib.hid (HIH.out p1 q1 _ (n - 1) _ lo hi w hsv (by omega) (by omega) (HT.out k (by rw [HM.out]; exact hlt)))
      clear hsv
      have hw1 : IntKind.i64.wrap (n - 1) = n - 1 := IntWalk.i64_in _ (by omega)
      have hlt2 : (k : Int) < (m : Int) := by omega
      cases hf : (nthT t.parts k).fits (n - 1) with
      | true =>
        have HFT := Lib.hid hf
        rw [hf] at HCALL
        clear hf
        go_wp2_with (go_at_call 40; refine HCALL.out.mono ?_; rintro e w' ⟨rfl, rfl⟩)
        go_round
        case rel =>
          refine ⟨k + 1, by omega, by go_num, Lib.hid fun j hj => ?_⟩
          by_cases e : j = k
          · rw [e]; exact HFT.out
          · exact HU.out j (by omega)
        case measure => simp [intOf]; omega
      | false =>
        have HFT := Lib.hid hf
        rw [hf] at HCALL
        clear hf
        go_wp2_with (go_at_call 40; refine HCALL.out.mono ?_; rintro e w' ⟨rfl, rfl⟩)
        go_ret
        exact ⟨ret_bool (by rw [HFF.out]; exact (fitsL_false (by rw [HM.out]; exact hlt) HFT.out).symm), rfl⟩

theorem vread_pv {s : ByteArray} (h : s.size ≤ 4000) : vread s = match sv (s.size + 1) s 0 with | none => none | some (t, q) => if fine t = true ∧ q = s.size then some t else none := by
  unfold vread
  rw [if_pos h, pv_eq]
  cases sv (s.size + 1) s 0 with
  | none => rfl
  | some r =>
    obtain ⟨t, q⟩ := r
    unfold keepF
    dsimp only
    by_cases hf : fine t = true
    · rw [if_pos hf]
      by_cases hq : q = s.size
      · dsimp only; rw [if_pos hq, if_pos ⟨hf, hq⟩]
      · dsimp only; rw [if_neg hq, if_neg (fun h => hq h.2)]
    · rw [if_neg hf, if_neg (fun h => hf h.1)]
theorem vread_sv {s : ByteArray} {t : VT} {q : Nat} (h : s.size ≤ 4000) (e : sv (s.size + 1) s 0 = some (t, q)) : vread s = if fine t = true ∧ q = s.size then some t else none := by rw [vread_pv h, e]
theorem vread_svn {s : ByteArray} (h : s.size ≤ 4000) (e : sv (s.size + 1) s 0 = none) : vread s = none := by rw [vread_pv h, e]
def VPP (s : ByteArray) (w : World) (e : Ending) (w' : World) : Prop :=
  Below w.heap.size w w' ∧ ∃ v, e = .returned (.tuple #[v, .bool (vread s).isSome]) ∧ ∀ t, vread s = some t → ∃ b, v = .pointer (some ⟨b, 0, none⟩) ∧ TreeAt w' 55 w.heap.size w'.heap.size t b

set_option maxHeartbeats 4000000 in
set_option maxRecDepth 100000 in
theorem viParse_any (s : ByteArray) (w : World) : Calls Try.prog 24 #[.string s] w (VPP s w) := by
  by_cases hs : s.size ≤ 4000
  case neg =>
    have hs' : decide ((4000 : Int) < (s.size : Int)) = true := decide_eq_true (by omega)
    go_enter Try.func24, Try.ntmps24
    go_wp2_with fail
    go_ret2
    exact ⟨(Below.refl _ _).alloc (Nat.le_refl _) _, _, by rw [vread_long hs]; rfl, fun t h => by rw [vread_long hs] at h; cases h⟩
  go_enter Try.func24, Try.ntmps24
  go_upto_region 4 with fail
  refine nameC ?_
  intro W HW
  have HB := Lib.hid (show BoxN W w.heap.size #[.string s, .int .i64 (0 : Nat), .bool true] 75 by rw [HW.out]; exact BoxN.new _ _ _)
  have HG := Lib.hid (show w.grownBy W none by rw [HW.out]; exact grown_alloc _ _)
  have hsz : w.heap.size + 1 ≤ W.heap.size := by rw [HW.out]; simp
  clear HW
  go_wp2_with fail
  refine (sview_any s hs (s.size + 1) w.heap.size 0 W (by omega) (by omega) (by omega) HB.out).mono ?_
  rintro e w2 ⟨p', b, d, i, k, o, vp, vq, h0, h1, hb, hg, rfl, hbx, h5, h6, h7, hm⟩
  have kt1 : w2.cell? ⟨w.heap.size, 1, none⟩ = some (.int .i64 p') := hb.cell 1 (by simp)
  have kt2 : w2.cell? ⟨w.heap.size, 2, none⟩ = some (.bool o) := hb.cell 2 (by simp)
  have kb : w2.cell? ⟨b, 4, none⟩ = some (.int .i64 k) := hbx.cell 4 (by simp)
  have HBE := Lib.hid (below_box HG.out hg)
  clear hb hg hbx
  rcases hm with ⟨rfl, hn⟩ | ⟨rfl, t, hy, ht, hd, hk⟩
  · have HN := Lib.hid (vread_svn hs hn); clear hn
    go_wp2_with fail
    go_ret2
    exact ⟨HBE.out, _, by rw [HN.out]; rfl, fun t h => by rw [HN.out] at h; cases h⟩
  have HV := Lib.hid (vread_sv hs hy)
  have HY := Lib.hid hy
  have HT := Lib.hid ht
  have HK := Lib.hid hk
  clear hy ht hk hd
  by_cases hq : p' = s.size
  case neg =>
    have e1 : ((p' : Int) == (s.size : Int)) = false := by simp; omega
    have HN := Lib.hid (show vread s = none by rw [HV.out, if_neg (fun h => hq h.2)])
    clear hq
    go_wp2_with fail
    go_ret2
    exact ⟨HBE.out, _, by rw [HN.out]; rfl, fun t h => by rw [HN.out] at h; cases h⟩
  have e1 : ((p' : Int) == (s.size : Int)) = true := by simp; omega
  have HQ := Lib.hid hq; clear hq
  by_cases h80 : k ≤ 80
  case neg =>
    have e2 : decide ((k : Int) ≤ 80) = false := decide_eq_false (by omega)
    have HN := Lib.hid (show vread s = none by rw [HV.out, if_neg (fun h => by have := h.1; unfold fine at this; rw [Bool.and_eq_true, decide_eq_true_eq, HK.out] at this; omega)])
    go_wp2_with fail
    go_ret2
    exact ⟨HBE.out, _, by rw [HN.out]; rfl, fun t h => by rw [HN.out] at h; cases h⟩
  have e2 : decide ((k : Int) ≤ 80) = true := decide_eq_true (by omega)
  have HCALL := Lib.hid (viFits_any s (s.size + 1) 0 p' t k b _ _ w2 HY.out (by omega) (by omega) HT.out)
  cases hf : t.fits k with
  | false =>
    rw [hf] at HCALL
    have HN := Lib.hid (show vread s = none by rw [HV.out, if_neg (fun h => by have := h.1; unfold fine at this; rw [Bool.and_eq_true, HK.out, hf] at this; cases this.1)])
    clear hf
    go_wp2_with (go_at_call 40; refine HCALL.out.mono ?_; rintro e w' ⟨rfl, rfl⟩)
    go_ret2
    exact ⟨HBE.out, _, by rw [HN.out]; rfl, fun t h => by rw [HN.out] at h; cases h⟩
  | true =>
    rw [hf] at HCALL
    have HN := Lib.hid (show vread s = some t by rw [HV.out, if_pos ⟨by unfold fine; rw [HK.out, hf, decide_eq_true h80]; rfl, HQ.out⟩])
    clear hf
    go_wp2_with (go_at_call 40; refine HCALL.out.mono ?_; rintro e w' ⟨rfl, rfl⟩)
    go_ret2
    exact ⟨HBE.out, _, by rw [HN.out]; rfl, fun t' h => by rw [HN.out] at h; injection h with h; subst h; exact ⟨b, rfl, HT.out.mono (by omega) (Nat.le_refl _)⟩⟩

end Go.Proofs.Ytlfdhhmccjkogaa
