/-
  The program's side of the laws on views: readView, IsView, DepthOfView.
-/
import Derived.Test.YtlfdhhmccjkogaaVw
namespace Go.Proofs.Ytlfdhhmccjkogaa
open Go.RowKit
set_option linter.unusedVariables false

/-- the view that a text holds, if any -/
def vread (s : ByteArray) : Option VT := if s.size ≤ 4000 then (match pv (s.size + 1) s 0 with | none => none | some (t, q) => if q = s.size then some t else none) else none
theorem vread_long {s : ByteArray} (h : ¬ s.size ≤ 4000) : vread s = none := by unfold vread; rw [if_neg h]
theorem vread_none {s : ByteArray} (h : pv (s.size + 1) s 0 = none) : vread s = none := by unfold vread; rw [h]; split <;> rfl
theorem vread_short {s : ByteArray} {t : VT} {q : Nat} (h : pv (s.size + 1) s 0 = some (t, q)) (hq : q ≠ s.size) : vread s = none := by unfold vread; rw [h]; dsimp only; rw [if_neg hq]; split <;> rfl
theorem vread_yes {s : ByteArray} {t : VT} {q : Nat} (h0 : s.size ≤ 4000) (h : pv (s.size + 1) s 0 = some (t, q)) (hq : q = s.size) : vread s = some t := by unfold vread; rw [h]; dsimp only; rw [if_pos hq, if_pos h0]
def RVPost (s : ByteArray) (w : World) (e : Ending) (w' : World) : Prop :=
  Below w.heap.size w w' ∧ ((vread s = none ∧ e = .returned (.pointer none)) ∨ ∃ t b, vread s = some t ∧ e = .returned (.pointer (some ⟨b, 0, none⟩)) ∧ TreeAt w' 63 w.heap.size w'.heap.size t b)
theorem below_box {w W w2 : World} (h : w.grownBy W none) (k : W.grownBy w2 (some w.heap.size)) : Below w.heap.size w w2 :=
  ⟨k.os.trans h.os, k.tape.trans h.tape, k.output.trans h.output, Nat.le_trans h.size k.size, fun i hi => (k.block i (Nat.lt_of_lt_of_le hi h.size) (fun e => by injection e; omega)).trans (h.block i hi (by simp))⟩

set_option maxHeartbeats 4000000 in
set_option maxRecDepth 100000 in
theorem readView_any (s : ByteArray) (w : World) : Calls Try.prog 28 #[.string s] w (RVPost s w) := by
  by_cases hs : s.size ≤ 4000
  case neg =>
    have hs' : decide ((4000 : Int) < (s.size : Int)) = true := decide_eq_true (by omega)
    go_enter Try.func28, Try.ntmps28
    go_wp2_with fail
    go_ret
    exact ⟨Below.refl _ _, .inl ⟨vread_long hs, rfl⟩⟩
  go_enter Try.func28, Try.ntmps28
  go_upto_region 4 with fail
  refine nameC ?_
  intro W HW
  have HB := Lib.hid (show BoxN W w.heap.size #[.string s, .int .i64 (0 : Nat)] 80 by rw [HW.out]; exact BoxN.new _ _ _)
  have HG := Lib.hid (show w.grownBy W none by rw [HW.out]; exact grown_alloc _ _)
  have hsz : w.heap.size + 1 ≤ W.heap.size := by rw [HW.out]; simp
  clear HW
  go_wp2_with fail
  refine (view_any s hs (s.size + 1) w.heap.size 0 W (by omega) (by omega) HB.out).mono ?_
  rintro e w2 ⟨p', hp1, hp2, hb, hg, hm⟩
  have kt : w2.cell? ⟨w.heap.size, 1, none⟩ = some (.int .i64 (p' : Nat)) := hb.cell 1 (by simp)
  have HBE := Lib.hid (below_box HG.out hg)
  clear hb hg
  by_cases hq : p' < s.size
  case pos =>
    rcases hm with ⟨hn, rfl⟩ | ⟨t, b, hy, rfl, ht⟩
    · have HN := Lib.hid hn; clear hn
      go_wp2_with fail
      go_ret
      exact ⟨HBE.out, .inl ⟨vread_none HN.out, rfl⟩⟩
    · have HY := Lib.hid hy; clear hy ht
      go_wp2_with fail
      go_ret
      exact ⟨HBE.out, .inl ⟨vread_short HY.out (by omega), rfl⟩⟩
  rcases hm with ⟨hn, rfl⟩ | ⟨t, b, hy, rfl, ht⟩
  · have HN := Lib.hid hn; clear hn
    go_wp2_with fail
    go_ret
    exact ⟨HBE.out, .inl ⟨vread_none HN.out, rfl⟩⟩
  · have HY := Lib.hid hy; have HT := Lib.hid ht; clear hy ht
    go_wp2_with fail
    go_ret
    exact ⟨HBE.out, .inr ⟨t, b, vread_yes hs HY.out (by omega), rfl, HT.out.mono (by omega) (Nat.le_refl _)⟩⟩

def vdep (s : ByteArray) : Nat := match vread s with | none => 0 | some t => t.depth
end Go.Proofs.Ytlfdhhmccjkogaa
