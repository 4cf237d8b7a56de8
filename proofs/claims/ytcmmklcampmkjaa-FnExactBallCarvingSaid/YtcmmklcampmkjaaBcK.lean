/-
  Several texts in one: KeC. No condition on any program.
-/
import Derived.Test.YtcmmklcampmkjaaBcJ
import Derived.Test.YtcmmklcampmkjaaBcG
import Derived.Test.YtcmmklcampmkjaaBcH
import Derived.Test.YtcmmklcampmkjaaBcI
import Derived.Test.YtcmmklcampmkjaaBcF

/- Contract: neCut (reference), its rows of ends. -/
namespace Go.Proofs.Ytcmmklcampmkjaa
open Go.ChangeShapes Go.WideShapes Go.ChangeAt Go.RowKit
set_option linter.unusedVariables false

theorem infoRowK : (Try.prog.info? 23).map (fun i => (i.zero, i.size, i.bytes)) = some (some (.slice none 0 0), 1, 24) := by kernel_rfl
theorem infoRowE : (Try.prog.info? 61).map (fun i => (i.zero, i.size, i.bytes)) = some (some (.slice none 0 0), 1, 24) := by kernel_rfl
theorem infoEndK : (Try.prog.info? 60).map (fun i => (i.zero, i.size, i.bytes)) = some (some (.agg #[.int .i64 0, .int .i64 0]), 2, 16) := by kernel_rfl
/-- the new numbers of the first ports of a node -/
def cntL (kp : Nat → Nat → Bool) (v m : Nat) : List Int := (List.range m).map fun i => ((cntK kp v i : Nat) : Int)
theorem cntL_len (kp : Nat → Nat → Bool) (v m : Nat) : (cntL kp v m).length = m := by simp [cntL]
theorem cntL_succ (kp : Nat → Nat → Bool) (v m : Nat) : cntL kp v (m + 1) = cntL kp v m ++ [((cntK kp v m : Nat) : Int)] := by simp [cntL, List.range_succ]
theorem nth_cntL {kp : Nat → Nat → Bool} {v m i : Nat} (h : i < m) : nth (cntL kp v m) i = ((cntK kp v i : Nat) : Int) := by simp [nth, cntL, h]
/-- the new numbers of all ports: nodes below v, and the first i ports of v -/
def toAt (N : NetD) (kp : Nat → Nat → Bool) (v i : Nat) : List (List Int) := (List.range N.ends.length).map fun a => if a < v then cntL kp a (nthL N.ends a).length else if a = v then cntL kp v i else []
theorem toAt_len (N : NetD) (kp : Nat → Nat → Bool) (v i : Nat) : (toAt N kp v i).length = N.ends.length := by simp [toAt]
theorem nthL_toAt {N : NetD} {kp : Nat → Nat → Bool} {v i a : Nat} (h : a < N.ends.length) : nthL (toAt N kp v i) a = if a < v then cntL kp a (nthL N.ends a).length else if a = v then cntL kp v i else [] := by simp [nthL, toAt, h]
theorem toAt_zero (N : NetD) (kp : Nat → Nat → Bool) : toAt N kp 0 0 = List.replicate N.ends.length [] := by
  refine ext_nthL (by rw [toAt_len]; simp) fun a ha => ?_
  rw [toAt_len] at ha
  rw [nthL_toAt ha, if_neg (by omega)]
  have : nthL (List.replicate N.ends.length ([] : List Int)) a = [] := by simp [nthL, ha]
  rw [this]
  by_cases e : a = 0
  · rw [if_pos e]; rfl
  · rw [if_neg e]
theorem toAt_next {N : NetD} {kp : Nat → Nat → Bool} {v : Nat} (hv : v < N.ends.length) : toAt N kp v (nthL N.ends v).length = toAt N kp (v + 1) 0 := by
  refine ext_nthL (by rw [toAt_len, toAt_len]) fun a ha => ?_
  rw [toAt_len] at ha
  rw [nthL_toAt ha, nthL_toAt ha]
  by_cases e1 : a < v
  · rw [if_pos e1, if_pos (by omega)]
  · rw [if_neg e1]
    by_cases e2 : a = v
    · subst e2; rw [if_pos rfl, if_pos (by omega)]
    · rw [if_neg e2, if_neg (by omega)]
      by_cases e3 : a = v + 1
      · rw [if_pos e3]; rfl
      · rw [if_neg e3]
theorem toAt_step {N : NetD} {kp : Nat → Nat → Bool} {v i : Nat} (hv : v < N.ends.length) : (toAt N kp v i).set v (cntL kp v i ++ [((cntK kp v i : Nat) : Int)]) = toAt N kp v (i + 1) := by
  refine ext_nthL (by rw [List.length_set, toAt_len, toAt_len]) fun a ha => ?_
  rw [List.length_set, toAt_len] at ha
  rw [nthL_set (by rw [toAt_len]; exact hv), nthL_toAt ha, nthL_toAt ha, ← cntL_succ]
  by_cases e2 : a = v
  · subst e2; rw [if_pos rfl, if_neg (by omega), if_pos rfl]
  · rw [if_neg e2]
    by_cases e1 : a < v
    · rw [if_pos e1, if_pos e1]
    · rw [if_neg e1, if_neg e1, if_neg e2, if_neg e2]
theorem toAt_at {N : NetD} {kp : Nat → Nat → Bool} {a : Nat} (h : a < N.ends.length) : nthL (toAt N kp N.ends.length 0) a = cntL kp a (nthL N.ends a).length := by rw [nthL_toAt h, if_pos h]
/-- the booleans say which ports are kept -/
def KeepB (N : NetD) (kp : Nat → Nat → Bool) (bss : List (List Bool)) : Prop := SameB N N.ends.length bss ∧ ∀ a, a < N.ends.length → ∀ b, b < (nthL N.ends a).length → nthB (nthL bss a) b = kp a b
/-- the kept ends of a node as pairs of numbers -/
def cutP (N : NetD) (kp : Nat → Nat → Bool) (v m : Nat) : List Po := ((List.range m).filter (kp v)).map fun i => ((nthE (nthL N.ends v) i).1.toNat, cntK kp (nthE (nthL N.ends v) i).1.toNat (nthE (nthL N.ends v) i).2.toNat)
theorem cutP_len (N : NetD) (kp : Nat → Nat → Bool) (v m : Nat) : (cutP N kp v m).length ≤ m := by
  unfold cutP; rw [List.length_map]; exact Nat.le_trans (List.length_filter_le _ _) (by simp)
theorem cutP_yes {N : NetD} {kp : Nat → Nat → Bool} {v m t r : Nat} (h : kp v m = true) (he : nthE (nthL N.ends v) m = ((t : Int), (r : Int))) : cutP N kp v (m + 1) = cutP N kp v m ++ [(t, cntK kp t r)] := by simp [cutP, List.range_succ, h, he]
theorem cutP_no {N : NetD} {kp : Nat → Nat → Bool} {v m : Nat} (h : kp v m = false) : cutP N kp v (m + 1) = cutP N kp v m := by simp [cutP, List.range_succ, h]
theorem cutP_row {N : NetD} (hg : N.good = true) {kp : Nat → Nat → Bool} {v : Nat} (hv : v < N.ends.length) : ∀ m, m ≤ (nthL N.ends v).length → castL (cutP N kp v m) = cutRow N kp v m
  | 0, _ => by simp [cutP, cutRow, castL]
  | m + 1, hm => by
    have ih := cutP_row hg (kp := kp) hv m (by omega)
    obtain ⟨t, r, he, _⟩ := good_end hg hv (show m < (nthL N.ends v).length by omega)
    cases hb : kp v m with
    | false => rw [cutP_no hb, cutRow_no hb, ih]
    | true => rw [cutP_yes hb he, cutRow_yes hb, castL_snoc, ih, he]; rfl
/-- the rows of the first nodes -/
def cutRows (N : NetD) (kp : Nat → Nat → Bool) (v : Nat) : List (List (Int × Int)) := (List.range v).map fun a => cutRow N kp a (nthL N.ends a).length
theorem cutRows_len (N : NetD) (kp : Nat → Nat → Bool) (v : Nat) : (cutRows N kp v).length = v := by simp [cutRows]
theorem cutRows_succ (N : NetD) (kp : Nat → Nat → Bool) (v : Nat) : cutRows N kp (v + 1) = cutRows N kp v ++ [cutRow N kp v (nthL N.ends v).length] := by simp [cutRows, List.range_succ]
theorem nthL_cutRows {N : NetD} {kp : Nat → Nat → Bool} {v a : Nat} (h : a < v) : nthL (cutRows N kp v) a = cutRow N kp a (nthL N.ends a).length := by simp [nthL, cutRows, h]

set_option maxHeartbeats 1000000 in
theorem l1OwnA (v : Value) (zs : List Int) (lo hi : Nat) (w : World) (h : IntS w lo hi v zs) (hhi : hi ≤ w.heap.size) (hl : zs.length ≤ 1048576) :
    Calls Try.prog 74 #[v] w fun e w' => ∃ r, e = .returned r ∧ IntS w' w.heap.size w'.heap.size r zs ∧ Below w.heap.size w w' := by
  have F := Lib.hid h
  obtain ⟨A, c, rfl, hc, hd⟩ := h.dims
  have HE := Lib.hid (OwnI.empty w w.heap.size 3 rfl (Nat.le_refl _))
  obtain ⟨i0, hi0, _⟩ := Option.map_eq_some_iff.1 Try.info3
  have HI0 := Lib.hid hi0; clear hi0
  by_cases h0 : 0 < zs.length
  · obtain ⟨b, off, rfl, _, hb, _, _⟩ := h.opened (j := 0) h0
    have HC := Lib.hid (show ∀ j, j < zs.length → (w.alloc (.cells #[] 3)).cell? ⟨b, off + j, none⟩ = some (.int .i64 (nth zs j)) from fun j hj => (IntS.at_ (F.out.alloc hhi _) hj).1)
    clear h
    go_enter Try.func74, Try.ntmps74
    go_wp2_with (at_builtin; refine append_ints (s := .tmp 3) Try.underlying23 Try.info3 (by decide) (w.alloc (.cells #[] 3)) rfl (.tmp 4) rfl HE.out rfl (g := b) (off := off) zs rfl rfl HC.out (by simp; omega) (by simp) ?_; intro v1 w1 ho1 hg1; have HO := Lib.hid ho1; have HG1 := Lib.hid hg1; clear ho1 hg1)
    go_ret
    refine ⟨_, rfl, ?_, ((Below.refl _ _).alloc (Nat.le_refl _) _).grown HG1.out (by simp) (fun g hg => by have := HE.out.lt g hg; omega)⟩
    have := HO.out.ints; simpa using this
  · have hz0 : zs.length = 0 := by omega
    have hz : zs = [] := List.eq_nil_of_length_eq_zero hz0
    subst hz
    clear h h0 hz0
    go_enter Try.func74, Try.ntmps74
    go_wp2_with (at_builtin; refine append_zero (s := .tmp 3) Try.underlying23 HI0.out (w.alloc (.cells #[] 3)) rfl (.tmp 4) rfl HE.out rfl rfl ?_)
    go_ret
    exact ⟨_, rfl, HE.out.ints, below_a1 w _⟩

end Go.Proofs.Ytcmmklcampmkjaa
