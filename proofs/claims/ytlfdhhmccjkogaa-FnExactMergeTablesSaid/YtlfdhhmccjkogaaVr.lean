/-
  Contracts: the program's reader of view texts, byte by byte.
-/
import Derived.Test.YtlfdhhmccjkogaaRows
import Derived.Test.YtlfdhhmccjkogaaVtM
import Derived.Test.YtlfdhhmccjkogaaOpen
import Derived.Outline
import Derived.WalkKit
import Derived.ProofKit
import Derived.BigQuiet
import Derived.Deep.QuietTactic
import Derived.IntWalk
import Derived.Deep.Cut
namespace Go.Proofs.Ytlfdhhmccjkogaa
open Go.ChangeShapes Go.WideShapes Go.ChangeAt Go.RowKit
set_option linter.unusedVariables false

def inB (n lo hi : Int) : Bool := decide (lo ≤ n) && decide (n ≤ hi)
theorem within_any (n lo hi : Int) (w : World) :
    Calls Try.prog 27 #[.int .i64 n, .int .i64 lo, .int .i64 hi] w fun e w' => e = .returned (.bool (inB n lo hi)) ∧ w = w' := by
  by_cases h1 : lo ≤ n
  · go_enter Try.func27, Try.ntmps27
    go_wp2
    go_ret
    exact ⟨ret_bool (by simp [inB, h1]), rfl⟩
  · have h1' : decide (lo ≤ n) = false := by simpa using h1
    go_enter Try.func27, Try.ntmps27
    go_wp2
    go_ret
    exact ⟨ret_bool (by unfold inB; rw [h1']; rfl), rfl⟩
def nxB (s : ByteArray) (p b : Nat) : Bool := decide (bt s p = b)
def nxN (s : ByteArray) (p b : Nat) : Nat := if bt s p = b then p + 1 else p
theorem nx_yes {s : ByteArray} {p b : Nat} (h : bt s p = b) : nxB s p b = true ∧ nxN s p b = p + 1 := ⟨decide_eq_true h, if_pos h⟩
theorem nx_no {s : ByteArray} {p b : Nat} (h : ¬ bt s p = b) : nxB s p b = false ∧ nxN s p b = p := ⟨decide_eq_false h, if_neg h⟩
set_option maxHeartbeats 1000000 in
theorem next_any (g p b : Nat) (s : ByteArray) (w : World) (hbx : BoxN w g #[.string s, .int .i64 p] 80) (hp : p ≤ s.size) (hs : s.size ≤ 4000) (hb : b < 256) :
    Calls Try.prog 50 #[.pointer (some ⟨g, 0, none⟩), .int .u8 b] w fun e w' => e = .returned (.bool (nxB s p b)) ∧ BoxN w' g #[.string s, .int .i64 (nxN s p b)] 80 ∧ w.grownBy w' (some g) ∧ w'.heap.size = w.heap.size := by
  have k0 : w.cell? ⟨g, 0, none⟩ = some (.string s) := hbx.cell 0 (by simp)
  have k1 : w.cell? ⟨g, 1, none⟩ = some (.int .i64 p) := hbx.cell 1 (by simp)
  have kf := hbx.frozen 1
  have HB := Lib.hid hbx; clear hbx
  by_cases hlt : p < s.size
  · have h1 : ((p : Int) == (s.size : Int)) = false := by simp; omega
    have h2 : (p : Int) < (s.size : Int) := by omega
    have HT := Lib.hid (bt_in hlt)
    by_cases hc : s[p].toNat = b
    · have h3 : ((s[p].toNat : Int) != (b : Int)) = false := by simp [hc]
      have HR := Lib.hid (show bt s p = b by rw [HT.out, hc])
      clear hc
      go_enter Try.func50, Try.ntmps50
      go_wp2_with fail
      go_quiet (fail)
      go_wp2_with fail
      go_ret
      refine ⟨ret_bool (nx_yes HR.out).1.symm, ?_, ?_, by simp [World.setCell]⟩
      · rw [(nx_yes HR.out).2]; exact (HB.out.still (grown_drewN w _)).set 1 _
      · exact grownBy_setCell (grown_any (grown_drewN w _)) rfl _
    · have h3 : ((s[p].toNat : Int) != (b : Int)) = true := by simp; omega
      have HR := Lib.hid (show ¬ bt s p = b by rw [HT.out]; exact hc)
      clear hc
      go_enter Try.func50, Try.ntmps50
      go_wp2_with fail
      go_quiet (fail)
      go_wp2_with fail
      go_ret
      refine ⟨ret_bool (nx_no HR.out).1.symm, ?_, grown_any (grown_drewN w _), rfl⟩
      rw [(nx_no HR.out).2]; exact HB.out.still (grown_drewN w _)
  · have h1 : ((p : Int) == (s.size : Int)) = true := by simp; omega
    have HR := Lib.hid (show ¬ bt s p = b by rw [bt_out hlt]; omega)
    go_enter Try.func50, Try.ntmps50
    go_wp2_with fail
    go_quiet (fail)
    go_wp2_with fail
    go_ret
    refine ⟨ret_bool (nx_no HR.out).1.symm, ?_, grown_any (grown_drewN w _), rfl⟩
    rw [(nx_no HR.out).2]; exact HB.out.still (grown_drewN w _)
def dgI (s : ByteArray) (most p : Nat) : Int := match dg s most p with
  | none => -1
  | some d => d
def dgN (s : ByteArray) (most p : Nat) : Nat := match dg s most p with
  | none => p
  | some _ => p + 1
set_option maxHeartbeats 1000000 in
theorem digit_any (g p most : Nat) (s : ByteArray) (w : World) (hbx : BoxN w g #[.string s, .int .i64 p] 80) (hp : p ≤ s.size) (hs : s.size ≤ 4000) (hm : most ≤ 9) :
    Calls Try.prog 49 #[.pointer (some ⟨g, 0, none⟩), .int .i64 most] w fun e w' => e = .returned (.int .i64 (dgI s most p)) ∧ BoxN w' g #[.string s, .int .i64 (dgN s most p)] 80 ∧ w.grownBy w' (some g) ∧ w'.heap.size = w.heap.size := by
  have k0 : w.cell? ⟨g, 0, none⟩ = some (.string s) := hbx.cell 0 (by simp)
  have k1 : w.cell? ⟨g, 1, none⟩ = some (.int .i64 p) := hbx.cell 1 (by simp)
  have kf := hbx.frozen 1
  have HB := Lib.hid hbx; clear hbx
  by_cases hlt : p < s.size
  · have h1 : ((p : Int) == (s.size : Int)) = false := by simp; omega
    have h2 : (p : Int) < (s.size : Int) := by omega
    have HT := Lib.hid (bt_in hlt)
    have h256 : s[p].toNat < 256 := s[p].toNat_lt
    have hw1 : IntKind.i64.wrap ((s[p].toNat : Int) - 48) = (s[p].toNat : Int) - 48 := IntWalk.i64_in _ (by omega)
    by_cases hc : 48 ≤ s[p].toNat ∧ s[p].toNat ≤ 48 + most
    · have HR := Lib.hid (show dg s most p = some (bt s p - 48) by unfold dg; rw [HT.out, if_pos hc])
      have HIN := Lib.hid (show inB ((s[p].toNat : Int) - 48) 0 most = true by unfold inB; rw [decide_eq_true (by omega), decide_eq_true (by omega)]; rfl)
      have HV := Lib.hid (show ((bt s p - 48 : Nat) : Int) = (s[p].toNat : Int) - 48 by rw [HT.out]; omega)
      have HB2 := Lib.hid ((HB.out.set 1 (.int .i64 ((p + 1 : Nat)))))
      clear hc
      go_enter Try.func49, Try.ntmps49
      go_wp2_with fail
      go_quiet ((go_at_call 27; exact Calls.quiet_of_same ((within_any _ _ _ _).mono fun e w' ⟨he, hw⟩ => ⟨by rw [he, HIN.out], hw.symm⟩)))
      go_upto_region 4 with (fail)
      refine nameC ?_
      intro W1 HW1
      have hw2 : IntKind.i64.wrap ((p : Int) + 1 - 1) = (p : Int) := by rw [show (p : Int) + 1 - 1 = p by omega]; exact IntWalk.i64_in _ (by omega)
      have B1 : BoxN W1 g #[.string s, .int .i64 ((p : Int) + 1)] 80 := by rw [HW1.out]; exact (HB.out.still (grown_drewN w _)).set 1 _
      have hg1 : w.grownBy W1 (some g) := by rw [HW1.out]; exact grownBy_setCell (grown_any (grown_drewN w _)) rfl _
      have hz1 : W1.heap.size = w.heap.size := by rw [HW1.out]; simp [World.setCell]
      clear HW1 k0 k1 kf
      have k0 : W1.cell? ⟨g, 0, none⟩ = some (.string s) := B1.cell 0 (by simp)
      have k1 : W1.cell? ⟨g, 1, none⟩ = some (.int .i64 ((p : Int) + 1)) := B1.cell 1 (by simp)
      have BB := Lib.hid B1
      have HZ := Lib.hid hz1
      clear B1 hz1
      go_quiet (fail)
      go_wp2_with fail
      go_ret
      refine ⟨ret_int ?_, ?_, hg1.trans (grown_any (grown_drewN W1 _)), HZ.out⟩
      · unfold dgI; rw [HR.out]; exact HV.out.symm
      · unfold dgN; rw [HR.out]; exact BB.out.still (grown_drewN W1 _)
    · have HR := Lib.hid (show dg s most p = none by unfold dg; rw [HT.out, if_neg hc])
      have HIN := Lib.hid (show inB ((s[p].toNat : Int) - 48) 0 most = false by
        unfold inB
        by_cases e : (0 : Int) ≤ (s[p].toNat : Int) - 48
        · rw [decide_eq_true e, decide_eq_false (by omega)]; rfl
        · rw [decide_eq_false e]; rfl)
      clear hc
      go_enter Try.func49, Try.ntmps49
      go_wp2_with fail
      go_quiet ((go_at_call 27; exact Calls.quiet_of_same ((within_any _ _ _ _).mono fun e w' ⟨he, hw⟩ => ⟨by rw [he, HIN.out], hw.symm⟩)))
      go_wp2_with fail
      go_ret
      refine ⟨ret_int (by unfold dgI; rw [HR.out]), ?_, grown_any (grown_drewN w _), rfl⟩
      unfold dgN; rw [HR.out]; exact HB.out.still (grown_drewN w _)
  · have h1 : ((p : Int) == (s.size : Int)) = true := by simp; omega
    have HR := Lib.hid (show dg s most p = none by unfold dg; rw [bt_out hlt, if_neg (by omega)])
    go_enter Try.func49, Try.ntmps49
    go_wp2_with fail
    go_quiet (fail)
    go_wp2_with fail
    go_ret
    refine ⟨ret_int (by unfold dgI; rw [HR.out]), ?_, grown_any (grown_drewN w _), rfl⟩
    unfold dgN; rw [HR.out]; exact HB.out.still (grown_drewN w _)

end Go.Proofs.Ytlfdhhmccjkogaa
