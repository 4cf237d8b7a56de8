/-
  Contract: slices.DeleteFunc at []int: the library's text is walked. slices.Min at []int out of the shelf.
-/
import Derived.Test.YtoebgfmnjjiddaaBasics
import Derived.Lib.SliceRun
import Derived.Laws.IdiomCopy
namespace Go.Proofs.Ytoebgfmnjjiddaa
open Go.ChangeShapes Go.WideShapes Go.ChangeAt Go.RowKit
set_option linter.unusedVariables false

theorem Turned.setCells {lo hi b : Nat} {a : World} (h1 : lo ≤ b) (h2 : b < hi) : ∀ (vs : List Value) (o : Nat) (w : World), Turned lo hi a w → Turned lo hi a (w.setCells b o vs)
  | [], _, _, h => h
  | v :: r, o, w, h => Turned.setCells h1 h2 r (o + 1) _ (h.setCell (p := ⟨b, o, none⟩) h1 h2 v)
/-- the numbers that stay, of the first k -/
def keptL (p : Int → Bool) (zs : List Int) (k : Nat) : List Int := (zs.take k).filter fun x => !p x
theorem keptL_yes {p : Int → Bool} {zs : List Int} {k : Nat} (hk : k < zs.length) (h : p (nth zs k) = false) : keptL p zs (k + 1) = keptL p zs k ++ [nth zs k] := by
  unfold keptL; rw [List.take_succ_eq_append_getElem hk, List.filter_append, ← nth_eq hk]; simp [h]
theorem keptL_no {p : Int → Bool} {zs : List Int} {k : Nat} (hk : k < zs.length) (h : p (nth zs k) = true) : keptL p zs (k + 1) = keptL p zs k := by
  unfold keptL; rw [List.take_succ_eq_append_getElem hk, List.filter_append, ← nth_eq hk]; simp [h]
theorem keptL_len (p : Int → Bool) (zs : List Int) (k : Nat) : (keptL p zs k).length ≤ k := by
  unfold keptL; exact Nat.le_trans (List.length_filter_le _ _) (by simp; omega)
theorem keptL_pre {p : Int → Bool} {zs : List Int} : ∀ {k : Nat}, k ≤ zs.length → (∀ j, j < k → p (nth zs j) = false) → keptL p zs k = zs.take k
  | 0, _, _ => by simp [keptL]
  | k + 1, hk, h => by rw [keptL_yes (by omega) (h k (by omega)), keptL_pre (by omega) (fun j hj => h j (by omega)), List.take_succ_eq_append_getElem (by omega), nth_eq (by omega)]
/-- the row in the middle: what stays of the first j lies at the head; from j on nothing has changed -/
structure DMid (p : Int → Bool) (zs : List Int) (j i : Nat) (ys : List Int) : Prop where
  len : ys.length = zs.length
  cnt : i = (keptL p zs j).length
  lt : i < j
  jle : j ≤ zs.length
  head : ys.take i = keptL p zs j
  high : ∀ m, j ≤ m → m < zs.length → nth ys m = nth zs m
theorem DMid.keep {p : Int → Bool} {zs ys : List Int} {j i : Nat} (h : DMid p zs j i ys) (hj : j < zs.length) (hp : p (nth zs j) = false) : DMid p zs (j + 1) (i + 1) (ys.set i (nth zs j)) := by
  have hl := h.len
  have hlt := h.lt
  refine ⟨by rw [List.length_set]; exact hl, by rw [keptL_yes hj hp, List.length_append, ← h.cnt]; rfl, by omega, hj, ?_, fun m hm hml => ?_⟩
  · rw [keptL_yes hj hp, ← h.head, List.take_succ_eq_append_getElem (by rw [List.length_set]; omega)]
    congr 1
    · rw [List.take_set_of_le (Nat.le_refl _)]
    · simp
  · rw [nth_set _ _ _ _ (by omega), if_neg (by omega)]; exact h.high m (by omega) hml
theorem DMid.skip {p : Int → Bool} {zs ys : List Int} {j i : Nat} (h : DMid p zs j i ys) (hj : j < zs.length) (hp : p (nth zs j) = true) : DMid p zs (j + 1) i ys :=
  ⟨h.len, by rw [keptL_no hj hp]; exact h.cnt, by have := h.lt; omega, hj, by rw [keptL_no hj hp]; exact h.head, fun m hm hml => h.high m (by omega) hml⟩
theorem keptL_all (p : Int → Bool) (zs : List Int) : keptL p zs zs.length = zs.filter fun x => !p x := by unfold keptL; rw [List.take_length]

set_option maxHeartbeats 1000000 in
set_option maxRecDepth 100000 in
theorem DeleteFunc_int (f : Nat) (caps : Array Value) (eg : ∀ args w, (callFunc f args).run Try.prog w = .ok (.enter f args) w) (p : Int → Bool) (v : Value) (zs : List Int) (lo hi : Nat) (w : World) (h : IntS w lo hi v zs) (hhi : hi ≤ w.heap.size) (hz : zs.length ≤ 1048576)
    (hp : ∀ x ∈ zs, ∀ W, Turned lo hi w W → Calls Try.prog f (#[.int .i64 x] ++ caps) W fun e w' => e = .returned (.bool (p x)) ∧ Below W.heap.size W w') :
    Calls Try.prog 75 #[v, .func (.func f) #[] caps] w fun e w' => ∃ r, e = .returned r ∧ IntS w' lo hi r (zs.filter fun x => !p x) ∧ Turned lo hi w w' := by
  have F := Lib.hid h
  have HP := Lib.hid hp
  obtain ⟨A, c, rfl, hc, hd⟩ := h.dims
  have HIF := Lib.hid (IndexFunc_int f caps eg p _ zs lo hi w h hhi (fun x hx W hW => hp x hx W (Turned.of_below hW (Nat.le_refl _))))
  clear h hp
  go_enter Try.func75, Try.ntmps75
  go_wp2_with fail
  refine HIF.out.mono ?_
  rintro e W1 ⟨rfl, hb1⟩
  have hs1 := hb1.size
  have HT1 := Lib.hid (Turned.of_below (lo := lo) (hi := hi) hb1 (Nat.le_refl _))
  have F1 := Lib.hid (F.out.below hb1 hhi)
  clear hb1
  by_cases hany : zs.any p = true
  case neg =>
    have hno : ∀ j, j < zs.length → p (nth zs j) = false := fun j hj => by
      rw [Bool.eq_false_iff]; intro h; exact hany (List.any_eq_true.2 ⟨_, nth_mem hj, h⟩)
    have hf : fidx p zs = -1 := fidx_none hno
    have HE := Lib.hid (show (zs.filter fun x => !p x) = zs by rw [← keptL_all, keptL_pre (Nat.le_refl _) hno, List.take_length])
    rw [hf]
    clear hf hno hany
    go_wp2_with fail
    go_ret
    exact ⟨_, rfl, by rw [HE.out]; exact F1.out, HT1.out⟩
  obtain ⟨k, hk, hkp, hkf, hke⟩ : ∃ k : Nat, k < zs.length ∧ p (nth zs k) = true ∧ (∀ j, j < k → p (nth zs j) = false) ∧ fidx p zs = k := by
    obtain ⟨x, hx, hpx⟩ := List.any_eq_true.1 hany
    obtain ⟨j, hj, ej⟩ := List.mem_iff_getElem.1 hx
    have key : ∀ j : Nat, j < zs.length → p (nth zs j) = true → ∃ k : Nat, k < zs.length ∧ p (nth zs k) = true ∧ ∀ i, i < k → p (nth zs i) = false := by
      intro j
      induction j using Nat.strongRecOn with
      | _ j ih =>
        intro hj hpj
        by_cases hex : ∃ i, i < j ∧ p (nth zs i) = true
        · obtain ⟨i, hi, hpi⟩ := hex; exact ih i hi (by omega) hpi
        · exact ⟨j, hj, hpj, fun i hi => by rw [Bool.eq_false_iff]; intro h; exact hex ⟨i, hi, h⟩⟩
    obtain ⟨k, h1, h2, h3⟩ := key j hj (by rw [nth_eq hj, ej]; exact hpx)
    exact ⟨k, h1, h2, h3, fidx_hit h1 h2 h3⟩
  have HM0 := Lib.hid (show DMid p zs (k + 1) k zs from ⟨rfl, by rw [keptL_no hk hkp, keptL_pre (by omega) hkf, List.length_take]; omega, by omega, by omega, by rw [keptL_no hk hkp, keptL_pre (by omega) hkf], fun m _ _ => rfl⟩)
  obtain ⟨b, off, rfl, lb, hb, _, _⟩ := F1.out.opened hk
  have hne : ((k : Int) == -1) = false := by simp
  rw [hke]
  clear hkp hkf hke hany
  go_wp2_with fail
  go_loopw [5, 6] (fun iv jv wr => ∃ (i j : Nat) (ys : List Int), iv = .int .i64 i ∧ jv = .int .i64 j ∧ Hid (IntS wr lo hi (.slice (some ⟨b, off, none⟩) zs.length c) ys) ∧ Hid (DMid p zs j i ys) ∧ Hid (Turned lo hi w wr)) (fun iv jv _ => zs.length - (intOf jv).toNat)
  case atStart => exact ⟨k, k + 1, zs, rfl, by go_num, F1, HM0, HT1⟩
  case round =>
    clear HT1 F1 HM0
    obtain ⟨i, j, ys, rfl, rfl, FY, HM, HT⟩ := hrel
    have hsz := HT.out.size
    have hyl := HM.out.len
    have hij := HM.out.lt
    have hjl := HM.out.jle
    by_cases hlt : j < zs.length
    case neg =>
      obtain rfl : j = zs.length := by omega
      have HKA := Lib.hid (show ys.take i = zs.filter fun x => !p x by rw [HM.out.head, keptL_all])
      have hcl : ∀ ty, (Builtin.clear_ #[23] ty #[.slice (some ⟨b, off + i, none⟩) (zs.length - i) (c - i)]).run Try.prog wr = .ok (.tuple #[]) (wr.setCells b (off + i) (List.replicate (zs.length - i) (.int .i64 0))) :=
        fun ty => Lib.run_clear_slice wr _ _ ty _ Try.underlying23 (Try.zeroValue3) rfl rfl b (off + i) _ _ (by omega) (fun t ht => by rw [show off + i + t = off + (i + t) by omega, (IntS.at_ FY.out (j := i + t) (by omega)).1]; rfl) (fun t ht => by rw [show off + i + t = off + (i + t) by omega]; exact (IntS.at_ FY.out (j := i + t) (by omega)).2)
      have hltz : ¬ (zs.length : Int) < (zs.length : Int) := by omega
      have hii : (i : Int) ≤ (zs.length : Int) := by omega
      go_wp2_with fail
      go_ret
      refine ⟨.slice (some ⟨b, off, none⟩) i c, rfl, ?_, HT.out.setCells lb hb _ _ _⟩
      rw [← HKA.out]
      have htl : (ys.take i).length = i := by rw [List.length_take]; omega
      refine ⟨some ⟨b, off, none⟩, c, by rw [htl], by rw [htl]; omega, by unfold maxLen; omega, fun _ => ⟨b, off, rfl, lb, hb, fun m hm => ?_⟩⟩
      rw [htl] at hm
      have hat := IntS.at_ FY.out (j := m) (by omega)
      refine ⟨?_, ?_⟩
      · rw [World.cell?_setCells_out b _ _ _ ⟨b, off + m, none⟩ (fun _ _ => .inl (by show off + m < off + i; omega)), hat.1]
        congr 2
        simp [nth, List.getElem?_take_of_lt (show m < i by omega)]
      · rw [World.frozen?_setCells]; exact hat.2
    have hjz : nth ys j = nth zs j := HM.out.high j (Nat.le_refl _) hlt
    obtain ⟨x1, _⟩ := IntS.at_ FY.out (j := j) (by omega)
    rw [hjz] at x1
    have HC := Lib.hid (HP.out _ (nth_mem hlt) wr HT.out)
    obtain ⟨y, HY⟩ : ∃ y, Hid (nth zs j = y) := ⟨_, Lib.hid rfl⟩
    have hlt2 : (j : Int) < (zs.length : Int) := by omega
    rw [HY.out] at x1 HC
    cases hq : p y with
    | true =>
      rw [hq] at HC
      have HMN := Lib.hid (HM.out.skip hlt (by rw [HY.out]; exact hq))
      clear hq hjz
      go_wp2_with (go_at_fn f; refine HC.out.mono ?_; rintro e w' ⟨rfl, hb'⟩)
      go_roundw
      case rel => exact ⟨i, j + 1, ys, rfl, by go_num, Lib.hid (FY.out.below hb' (by omega)), HMN, Lib.hid (HT.out.trans (Turned.of_below hb' (Nat.le_refl _)))⟩
      case measure => simp [intOf]; omega
    | false =>
      rw [hq] at HC
      have HMN := Lib.hid (HM.out.keep hlt (by rw [HY.out]; exact hq))
      rw [HY.out] at HMN
      have hii : (i : Int) < (zs.length : Int) := by omega
      have HFY := Lib.hid (fun (w' : World) (hb' : Below wr.heap.size wr w') => FY.out.below hb' (by omega))
      clear hq hjz
      go_upto_region 9 with (go_at_fn f; refine HC.out.mono ?_; rintro e w' ⟨rfl, hb'⟩; have FZ := Lib.hid (HFY.out w' hb'); have HTZ := Lib.hid (HT.out.trans (Turned.of_below hb' (Nat.le_refl _))); clear hb')
      obtain ⟨z1, z2⟩ := IntS.at_ FZ.out (j := i) (by omega)
      have HS := Lib.hid (IntS.set FZ.out (j := i) (by omega) y)
      obtain ⟨yi, HYI⟩ : ∃ y, Hid (nth ys i = y) := ⟨_, Lib.hid rfl⟩
      rw [HYI.out] at z1
      have HTS := Lib.hid (HTZ.out.setCell (p := ⟨b, off + i, none⟩) lb hb (.int .i64 y))
      go_wp2_with fail
      go_roundw
      case rel => exact ⟨i + 1, j + 1, ys.set i y, by go_num, by go_num, HS, HMN, HTS⟩
      case measure => simp [intOf]; omega

theorem minOf_all {zs : List Int} {x : Int} (h0 : 0 < zs.length) (h : ∀ y ∈ zs, y = x) : Lib.minOf zs = x := by
  cases zs with
  | nil => simp at h0
  | cons y l =>
    have hy := h y (by simp)
    subst hy
    unfold Lib.minOf
    have key : ∀ l : List Int, (∀ z ∈ l, z = y) → l.foldl min y = y := by
      intro l
      induction l with
      | nil => intro _; rfl
      | cons z l ih => intro hl; rw [List.foldl_cons, hl z (by simp), Int.min_self]; exact ih (fun u hu => hl u (List.mem_cons_of_mem _ hu))
    exact key (y :: l) h

end Go.Proofs.Ytoebgfmnjjiddaa
