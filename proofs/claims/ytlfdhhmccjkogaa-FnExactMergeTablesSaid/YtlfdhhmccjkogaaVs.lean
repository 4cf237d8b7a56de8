/-
  Contracts: the reference's reader of view texts, byte by byte.
-/
import Derived.Test.YtlfdhhmccjkogaaVr
import Derived.Test.YtlfdhhmccjkogaaReg
namespace Go.Proofs.Ytlfdhhmccjkogaa
open Go.ChangeShapes Go.WideShapes Go.ChangeAt Go.RowKit
set_option linter.unusedVariables false

def sgN (s : ByteArray) (p b : Nat) : Nat := if bt s p = b then p + 1 else p
def sgB (o : Bool) (s : ByteArray) (p b : Nat) : Bool := o && decide (bt s p = b)
theorem sg_yes {o : Bool} {s : ByteArray} {p b : Nat} (h : bt s p = b) : sgN s p b = p + 1 ∧ sgB o s p b = o := ⟨if_pos h, by unfold sgB; rw [decide_eq_true h, Bool.and_true]⟩
theorem sg_no {o : Bool} {s : ByteArray} {p b : Nat} (h : ¬ bt s p = b) : sgN s p b = p ∧ sgB o s p b = false := ⟨if_neg h, by unfold sgB; rw [decide_eq_false h, Bool.and_false]⟩
set_option maxHeartbeats 1000000 in
theorem sign_any (g p b : Nat) (o : Bool) (s : ByteArray) (w : World) (hbx : BoxN w g #[.string s, .int .i64 p, .bool o] 75) (hp : p ≤ s.size) (hs : s.size ≤ 4000) (hb : b < 256) :
    Calls Try.prog 47 #[.pointer (some ⟨g, 0, none⟩), .int .u8 b] w fun e w' => e = .returned (.tuple #[]) ∧ BoxN w' g #[.string s, .int .i64 (sgN s p b), .bool (sgB o s p b)] 75 ∧ w.grownBy w' (some g) ∧ w'.heap.size = w.heap.size := by
  have k0 : w.cell? ⟨g, 0, none⟩ = some (.string s) := hbx.cell 0 (by simp)
  have k1 : w.cell? ⟨g, 1, none⟩ = some (.int .i64 p) := hbx.cell 1 (by simp)
  have k2 : w.cell? ⟨g, 2, none⟩ = some (.bool o) := hbx.cell 2 (by simp)
  have kf := hbx.frozen 1
  have kf2 := hbx.frozen 2
  have HB := Lib.hid hbx; clear hbx
  by_cases hlt : p < s.size
  · have h1 : ((p : Int) == (s.size : Int)) = false := by simp; omega
    have h2 : (p : Int) < (s.size : Int) := by omega
    have HT := Lib.hid (bt_in hlt)
    by_cases hc : s[p].toNat = b
    · have h3 : ((s[p].toNat : Int) != (b : Int)) = false := by simp [hc]
      have HR := Lib.hid (show bt s p = b by rw [HT.out, hc])
      clear hc
      go_enter Try.func47, Try.ntmps47
      go_wp2_with fail
      go_quiet (fail)
      go_wp2_with fail
      (first | go_end0 | ((try simp only [Exit.inBlock, Exit.then]); refine bodyPost_ret (results_none rfl _ _ _) rfl ?_))
      refine ⟨rfl, ?_, ?_, by simp [World.setCell]⟩
      · rw [(sg_yes (o := o) HR.out).1, (sg_yes HR.out).2]; exact (HB.out.still (grown_drewN w _)).set 1 _
      · exact grownBy_setCell (grown_any (grown_drewN w _)) rfl _
    · have h3 : ((s[p].toNat : Int) != (b : Int)) = true := by simp; omega
      have HR := Lib.hid (show ¬ bt s p = b by rw [HT.out]; exact hc)
      clear hc
      go_enter Try.func47, Try.ntmps47
      go_wp2_with fail
      go_quiet (fail)
      go_wp2_with fail
      (first | go_end0 | ((try simp only [Exit.inBlock, Exit.then]); refine bodyPost_ret (results_none rfl _ _ _) rfl ?_))
      refine ⟨rfl, ?_, ?_, by simp [World.setCell]⟩
      · rw [(sg_no (o := o) HR.out).1, (sg_no HR.out).2]; exact (HB.out.still (grown_drewN w _)).set 2 _
      · exact grownBy_setCell (grown_any (grown_drewN w _)) rfl _
  · have h1 : ((p : Int) == (s.size : Int)) = true := by simp; omega
    have HR := Lib.hid (show ¬ bt s p = b by rw [bt_out hlt]; omega)
    go_enter Try.func47, Try.ntmps47
    go_wp2_with fail
    go_quiet (fail)
    go_wp2_with fail
    (first | go_end0 | ((try simp only [Exit.inBlock, Exit.then]); refine bodyPost_ret (results_none rfl _ _ _) rfl ?_))
    refine ⟨rfl, ?_, ?_, by simp [World.setCell]⟩
    · rw [(sg_no (o := o) HR.out).1, (sg_no HR.out).2]; exact (HB.out.still (grown_drewN w _)).set 2 _
    · exact grownBy_setCell (grown_any (grown_drewN w _)) rfl _
def sdI (s : ByteArray) (most p : Nat) : Nat := match dg s most p with
  | none => 0
  | some d => d
def sdB (o : Bool) (s : ByteArray) (most p : Nat) : Bool := match dg s most p with
  | none => false
  | some _ => o
theorem sd_yes {o : Bool} {s : ByteArray} {m p d : Nat} (h : dg s m p = some d) : sdI s m p = d ∧ dgN s m p = p + 1 ∧ sdB o s m p = o := by unfold sdI dgN sdB; rw [h]; exact ⟨rfl, rfl, rfl⟩
theorem sd_no {o : Bool} {s : ByteArray} {m p : Nat} (h : dg s m p = none) : sdI s m p = 0 ∧ dgN s m p = p ∧ sdB o s m p = false := by unfold sdI dgN sdB; rw [h]; exact ⟨rfl, rfl, rfl⟩
set_option maxHeartbeats 1000000 in
theorem sdigit_any (g p most : Nat) (o : Bool) (s : ByteArray) (w : World) (hbx : BoxN w g #[.string s, .int .i64 p, .bool o] 75) (hp : p ≤ s.size) (hs : s.size ≤ 4000) (hm : most ≤ 9) :
    Calls Try.prog 46 #[.pointer (some ⟨g, 0, none⟩), .int .i64 most] w fun e w' => e = .returned (.int .i64 (sdI s most p : Nat)) ∧ BoxN w' g #[.string s, .int .i64 (dgN s most p), .bool (sdB o s most p)] 75 ∧ w.grownBy w' (some g) ∧ w'.heap.size = w.heap.size := by
  have k0 : w.cell? ⟨g, 0, none⟩ = some (.string s) := hbx.cell 0 (by simp)
  have k1 : w.cell? ⟨g, 1, none⟩ = some (.int .i64 p) := hbx.cell 1 (by simp)
  have k2 : w.cell? ⟨g, 2, none⟩ = some (.bool o) := hbx.cell 2 (by simp)
  have kf := hbx.frozen 1
  have kf2 := hbx.frozen 2
  have HB := Lib.hid hbx; clear hbx
  by_cases hlt : p < s.size
  · have h1 : ((p : Int) == (s.size : Int)) = false := by simp; omega
    have h2 : (p : Int) < (s.size : Int) := by omega
    have HT := Lib.hid (bt_in hlt)
    have h256 : s[p].toNat < 256 := s[p].toNat_lt
    by_cases hc1 : 48 ≤ s[p].toNat
    case neg =>
      have h3 : decide ((s[p].toNat : Int) < 48) = true := decide_eq_true (by omega)
      have HR := Lib.hid (show dg s most p = none by unfold dg; rw [HT.out, if_neg (fun e => hc1 e.1)])
      go_enter Try.func46, Try.ntmps46
      go_wp2_with fail
      go_quiet (fail)
      go_wp2_with fail
      go_ret
      refine ⟨by rw [(sd_no (o := o) HR.out).1]; rfl, ?_, ?_, by simp [World.setCell]⟩
      · rw [(sd_no (o := o) HR.out).2.1, (sd_no (o := o) HR.out).2.2]; exact (HB.out.still (grown_drewN w _)).set 2 _
      · exact grownBy_setCell (grown_any (grown_drewN w _)) rfl _
    have h3 : decide ((s[p].toNat : Int) < 48) = false := decide_eq_false (by omega)
    have hw0 : IntKind.u8.wrap ((s[p].toNat : Int) - 48) = (s[p].toNat : Int) - 48 := IntWalk.u8_in _ (by omega)
    have hw1 : IntKind.i64.wrap ((s[p].toNat : Int) - 48) = (s[p].toNat : Int) - 48 := IntWalk.i64_in _ (by omega)
    by_cases hc2 : s[p].toNat ≤ 48 + most
    case neg =>
      have h4 : decide ((most : Int) < (s[p].toNat : Int) - 48) = true := decide_eq_true (by omega)
      have HR := Lib.hid (show dg s most p = none by unfold dg; rw [HT.out, if_neg (fun e => hc2 e.2)])
      go_enter Try.func46, Try.ntmps46
      go_wp2_with fail
      go_quiet (fail)
      go_wp2_with fail
      go_ret
      refine ⟨by rw [(sd_no (o := o) HR.out).1]; rfl, ?_, ?_, by simp [World.setCell]⟩
      · rw [(sd_no (o := o) HR.out).2.1, (sd_no (o := o) HR.out).2.2]; exact (HB.out.still (grown_drewN w _)).set 2 _
      · exact grownBy_setCell (grown_any (grown_drewN w _)) rfl _
    have h4 : decide ((most : Int) < (s[p].toNat : Int) - 48) = false := decide_eq_false (by omega)
    have HR := Lib.hid (show dg s most p = some (bt s p - 48) by unfold dg; rw [HT.out, if_pos ⟨hc1, hc2⟩])
    have HV := Lib.hid (show ((bt s p - 48 : Nat) : Int) = (s[p].toNat : Int) - 48 by rw [HT.out]; omega)
    go_enter Try.func46, Try.ntmps46
    go_wp2_with fail
    go_quiet (fail)
    go_upto_region 5 with (fail)
    refine nameC ?_
    intro W1 HW1
    have hw2 : IntKind.i64.wrap ((p : Int) + 1 - 1) = (p : Int) := by rw [show (p : Int) + 1 - 1 = p by omega]; exact IntWalk.i64_in _ (by omega)
    have B1 : BoxN W1 g #[.string s, .int .i64 ((p : Int) + 1), .bool o] 75 := by rw [HW1.out]; exact (HB.out.still (grown_drewN w _)).set 1 _
    have hg1 : w.grownBy W1 (some g) := by rw [HW1.out]; exact grownBy_setCell (grown_any (grown_drewN w _)) rfl _
    have hz1 : W1.heap.size = w.heap.size := by rw [HW1.out]; simp [World.setCell]
    clear HW1 k0 k1 k2 kf kf2
    have k0 : W1.cell? ⟨g, 0, none⟩ = some (.string s) := B1.cell 0 (by simp)
    have k1 : W1.cell? ⟨g, 1, none⟩ = some (.int .i64 ((p : Int) + 1)) := B1.cell 1 (by simp)
    have BB := Lib.hid B1
    have HZ := Lib.hid hz1
    clear B1 hz1
    go_quiet (fail)
    go_wp2_with fail
    go_ret
    refine ⟨ret_int ?_, ?_, hg1.trans (grown_any (grown_drewN W1 _)), HZ.out⟩
    · rw [(sd_yes (o := o) HR.out).1]; exact HV.out.symm
    · rw [(sd_yes (o := o) HR.out).2.1, (sd_yes (o := o) HR.out).2.2]; exact BB.out.still (grown_drewN W1 _)
  · have h1 : ((p : Int) == (s.size : Int)) = true := by simp; omega
    have HR := Lib.hid (show dg s most p = none by unfold dg; rw [bt_out hlt, if_neg (by omega)])
    go_enter Try.func46, Try.ntmps46
    go_wp2_with fail
    go_quiet (fail)
    go_wp2_with fail
    go_ret
    refine ⟨by rw [(sd_no (o := o) HR.out).1]; rfl, ?_, ?_, by simp [World.setCell]⟩
    · rw [(sd_no (o := o) HR.out).2.1, (sd_no (o := o) HR.out).2.2]; exact (HB.out.still (grown_drewN w _)).set 2 _
    · exact grownBy_setCell (grown_any (grown_drewN w _)) rfl _

end Go.Proofs.Ytlfdhhmccjkogaa
