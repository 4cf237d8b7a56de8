/-
  Contracts: the cursor that draws numbers from bytes: it ends, it answers in its range, it turns its own block alone. No condition on any program.
-/
import Derived.Test.YtbbdhcfbdndhlaaDoorFrame
import Derived.Test.YtbbdhcfbdndhlaaDoorReg
import Derived.Test.YtbbdhcfbdndhlaaDoorExt
import Derived.Test.YtbbdhcfbdndhlaaDoorOpen
import Derived.Laws.BitsAllLaws
import Derived.Laws.BitsLemmas
import Derived.Deep.Cut
namespace Go.Proofs.YtbbdhcfbdndhlaaDoor
open Go.ChangeShapes Go.WideShapes Go.ChangeAt Go.RowKit
set_option linter.unusedVariables false

/-- v reads as bytes -/
def ByS (w : World) (lo hi : Nat) (v : Value) (bs : List Int) : Prop := Sl w lo hi 1 v bs.length fun j => .int .u8 (nth bs j)
section
variable {w w' : World} {lo hi lo' hi' B : Nat} {v : Value} {bs : List Int} {row : Option Nat}
theorem ByS.dims (h : ByS w lo hi v bs) : ∃ A c, v = .slice A bs.length c ∧ bs.length ≤ c ∧ c ≤ 9223372036854775807 := by
  obtain ⟨A, c, e, h1, h2, _⟩ := h; unfold maxLen at h2; exact ⟨A, c, e, h1, h2⟩
theorem ByS.below (h : ByS w lo hi v bs) (hb : Below B w w') (hB : hi ≤ B) : ByS w' lo hi v bs := Sl.below h hb hB
theorem ByS.turned {l2 h2 : Nat} (h : ByS w lo hi v bs) (hb : Turned l2 h2 w w') (hB : hi ≤ w.heap.size) (hd : hi ≤ l2 ∨ h2 ≤ lo) : ByS w' lo hi v bs := Sl.turned h hb hB hd
theorem ByS.far (h : ByS w lo hi v bs) (hg : w.grownBy w' row) (hB : hi ≤ w.heap.size) (hr : ∀ g, row = some g → g < lo ∨ hi ≤ g) : ByS w' lo hi v bs :=
  Sl.keep h fun k h1 h2 => hg.block k (by omega) (fun e => by have := hr k e.symm; omega)
theorem ByS.still (h : ByS w lo hi v bs) (hg : w.grownBy w' none) (hB : hi ≤ w.heap.size) : ByS w' lo hi v bs := h.far hg hB (no_row _ _)
theorem ByS.opened {A : Option Addr} {n c : Nat} (h : ByS w lo hi (.slice A n c) bs) {j : Nat} (hj : j < bs.length) : ∃ b off, A = some ⟨b, off, none⟩ ∧ lo ≤ b ∧ b < hi ∧ w.cell? ⟨b, off + j, none⟩ = some (.int .u8 (nth bs j)) := by
  obtain ⟨A', c', e, h1, h2, h3⟩ := id h
  injection e with e1 e2 e3
  subst e1
  obtain ⟨b, off, e4, h4, h5, h6⟩ := h3 (by omega)
  exact ⟨b, off, e4, h4, h5, (h6 j (by omega)).1⟩
end
/-- all are bytes -/
def Bytes (bs : List Int) : Prop := ∀ x ∈ bs, 0 ≤ x ∧ x < 256
/-- a cursor over v in block g, with at most k draws behind it -/
def Cur (w : World) (g : Nat) (v : Value) (k : Nat) : Prop := ∃ (a : Nat) (s : Int), a ≤ k ∧ 0 ≤ s ∧ s < 18446744073709551616 ∧ BoxN w g #[v, .int .i64 a, .int .u64 s] 42
section
variable {w w' : World} {g k k' : Nat} {v : Value} {row : Option Nat}
theorem Cur.far (h : Cur w g v k) (hg : w.grownBy w' row) (hr : ∀ b, row = some b → b ≠ g) : Cur w' g v k := let ⟨a, s, h1, h2, h3, h4⟩ := h; ⟨a, s, h1, h2, h3, h4.far hg hr⟩
theorem Cur.still (h : Cur w g v k) (hg : w.grownBy w' none) : Cur w' g v k := h.far hg (fun _ e => by cases e)
theorem Cur.mono (h : Cur w g v k) (hk : k ≤ k') : Cur w g v k' := let ⟨a, s, h1, h2⟩ := h; ⟨a, s, by omega, h2⟩
theorem Cur.lt (h : Cur w g v k) : g < w.heap.size := let ⟨_, _, _, _, _, h⟩ := h; h.lt
end
theorem wrap64 (x : Int) : 0 ≤ IntKind.u64.wrap x ∧ IntKind.u64.wrap x < 18446744073709551616 := by rw [IntKind.wrap_u64]; omega
theorem and255 (x : Int) (h0 : 0 ≤ x) (h1 : x < 18446744073709551616) : bits .and .u64 x 255 = x % 256 := by
  have := u64_and x 255 h0 h1 (by decide) (by decide)
  rw [this]
  obtain ⟨a, rfl⟩ := Int.eq_ofNat_of_zero_le h0
  have e : a &&& 255 = a % 256 := Nat.and_two_pow_sub_one_eq_mod a 8
  simp only [Int.toNat_natCast]
  rw [show (255 : Int).toNat = 255 from rfl, e]
  omega

set_option maxHeartbeats 4000000 in
set_option maxRecDepth 100000 in
theorem next_any (g k lo hi : Nat) (v : Value) (bs : List Int) (w : World) (hC : Cur w g v k) (hk : k < 1099511627776) (hB : ByS w lo hi v bs) (hb : Bytes bs) (hl : bs.length ≤ 1099511627776) (hg : g < lo ∨ hi ≤ g) :
    Calls Tryd.prog 37 #[.pointer (some ⟨g, 0, none⟩)] w fun e w' => ∃ x : Nat, e = .returned (.int .i64 x) ∧ x < 256 ∧ Cur w' g v (k + 1) ∧ w.grownBy w' (some g) := by
  obtain ⟨a, s, ha, hs0, hs1, hX⟩ := hC
  have HX := Lib.hid hX; clear hX
  obtain ⟨A, c, rfl, hc, hd⟩ := hB.dims
  have HB := Lib.hid hB; clear hB
  have HBY := Lib.hid hb; clear hb
  obtain ⟨n, HN⟩ : ∃ n, Hid (bs.length = n) := ⟨_, Lib.hid rfl⟩
  rw [HN.out] at HX hc hl ⊢
  have k0 : w.cell? ⟨g, 0, none⟩ = some (.slice A n c) := HX.out.cell 0 (by simp)
  have k1 : w.cell? ⟨g, 1, none⟩ = some (.int .i64 a) := HX.out.cell 1 (by simp)
  have k2 : w.cell? ⟨g, 2, none⟩ = some (.int .u64 s) := HX.out.cell 2 (by simp)
  have f1 : w.frozen? ⟨g, 1, none⟩ = false := HX.out.frozen 1
  have f2 : w.frozen? ⟨g, 2, none⟩ = false := HX.out.frozen 2
  have haw : IntKind.i64.wrap ((a : Int) + 1) = ((a + 1 : Nat) : Int) := by rw [IntWalk.i64_in _ (by omega)]; omega
  by_cases hlt : a < n
  · have hlti : (a : Int) < n := by omega
    have hltd : decide ((a : Int) < (n : Int)) = true := decide_eq_true hlti
    have hle : ((a + 1 : Nat) : Int) ≤ n := by omega
    have hled : decide (((a + 1 : Nat) : Int) ≤ (n : Int)) = true := decide_eq_true hle
    obtain ⟨b, off, rfl, hb1, hb2, hcell⟩ := HB.out.opened (j := a) (by rw [HN.out]; exact hlt)
    obtain ⟨y, HY⟩ : ∃ y, Hid (nth bs a = y) := ⟨_, Lib.hid rfl⟩
    have hy := HBY.out (nth bs a) (nth_mem (by rw [HN.out]; exact hlt))
    rw [HY.out] at hcell hy
    obtain ⟨z, rfl⟩ := Int.eq_ofNat_of_zero_le hy.1
    have hz : z < 256 := by omega
    have hcw : IntKind.i64.wrap (z : Int) = (z : Int) := IntWalk.i64_in _ (by omega)
    have hcw2 : IntKind.u64.wrap (z : Int) = (z : Int) := IntWalk.u64_in _ (by omega)
    obtain ⟨a1, HA1⟩ : ∃ q : Nat, Hid (a + 1 = q) := ⟨_, Lib.hid rfl⟩
    rw [HA1.out] at haw hle hled
    go_enter Tryd.func37, Tryd.ntmps37
    go_wp2_with fail
    go_quiet (fail)
    obtain ⟨nqa, rfl⟩ : ∃ x, x = nq := ⟨_, rfl⟩
    go_wp2_with fail
    go_quiet (fail)
    obtain ⟨W1, HW1⟩ : ∃ W, Hid (W = (w.drewN nqa).drewN nq) := ⟨_, Lib.hid rfl⟩
    rw [← HW1.out]
    have HX1 := Lib.hid (show BoxN W1 g #[.slice (some ⟨b, off, none⟩) n c, .int .i64 a, .int .u64 s] 42 by rw [HW1.out]; exact HX.out)
    have hg1 : w.grownBy W1 (some g) := by rw [HW1.out]; exact ⟨rfl, rfl, rfl, Nat.le_refl _, fun _ _ _ => rfl⟩
    clear HW1 k0 k1 k2 f1 f2
    have k0 : W1.cell? ⟨g, 0, none⟩ = some (.slice (some ⟨b, off, none⟩) n c) := HX1.out.cell 0 (by simp)
    have k1 : W1.cell? ⟨g, 1, none⟩ = some (.int .i64 a) := HX1.out.cell 1 (by simp)
    have k2 : W1.cell? ⟨g, 2, none⟩ = some (.int .u64 s) := HX1.out.cell 2 (by simp)
    have f1 : W1.frozen? ⟨g, 1, none⟩ = false := HX1.out.frozen 1
    have f2 : W1.frozen? ⟨g, 2, none⟩ = false := HX1.out.frozen 2
    go_upto_region 6 with (fail)
    clear k0 k1 k2 f1 f2
    refine nameC ?_
    intro W2 HW2
    have hX2 : ∃ s2 : Int, 0 ≤ s2 ∧ s2 < 18446744073709551616 ∧ BoxN W2 g #[.slice (some ⟨b, off, none⟩) n c, .int .i64 a1, .int .u64 s2] 42 := by
      rw [HW2.out]
      exact ⟨_, (wrap64 _).1, (wrap64 _).2, (HX1.out.set 1 _).set 2 _⟩
    obtain ⟨s2, hs2, hs2', hX2⟩ := hX2
    have hg2 : W1.grownBy W2 (some g) := by rw [HW2.out]; exact grownBy_trans (grown_set _ ⟨g, 1, none⟩ _) (grown_set _ ⟨g, 2, none⟩ _)
    have HX2 := Lib.hid hX2
    clear HW2 hX2
    have k0 : W2.cell? ⟨g, 0, none⟩ = some (.slice (some ⟨b, off, none⟩) n c) := HX2.out.cell 0 (by simp)
    have k1 : W2.cell? ⟨g, 1, none⟩ = some (.int .i64 a1) := HX2.out.cell 1 (by simp)
    go_quiet (fail)
    go_wp2_with fail
    go_ret
    exact ⟨z, rfl, hz, ⟨a1, s2, by have := HA1.out; omega, hs2, hs2', HX2.out⟩, grownBy_trans hg1 (grownBy_trans hg2 ⟨rfl, rfl, rfl, Nat.le_refl _, fun _ _ _ => rfl⟩)⟩
  · have hlti : ¬ (a : Int) < n := by omega
    have hltd : decide ((a : Int) < (n : Int)) = false := decide_eq_false hlti
    have hle : ¬ ((a + 1 : Nat) : Int) ≤ n := by omega
    have hled : decide (((a + 1 : Nat) : Int) ≤ (n : Int)) = false := decide_eq_false hle
    obtain ⟨a1, HA1⟩ : ∃ q : Nat, Hid (a + 1 = q) := ⟨_, Lib.hid rfl⟩
    rw [HA1.out] at haw hle hled
    go_enter Tryd.func37, Tryd.ntmps37
    go_wp2_with fail
    go_quiet (fail)
    obtain ⟨W1, HW1⟩ : ∃ W, Hid (W = w.drewN nq) := ⟨_, Lib.hid rfl⟩
    rw [← HW1.out]
    have HX1 := Lib.hid (show BoxN W1 g #[.slice A n c, .int .i64 a, .int .u64 s] 42 by rw [HW1.out]; exact HX.out)
    have hg1 : w.grownBy W1 (some g) := by rw [HW1.out]; exact ⟨rfl, rfl, rfl, Nat.le_refl _, fun _ _ _ => rfl⟩
    clear HW1 k0 k1 k2 f1 f2
    have k0 : W1.cell? ⟨g, 0, none⟩ = some (.slice A n c) := HX1.out.cell 0 (by simp)
    have k1 : W1.cell? ⟨g, 1, none⟩ = some (.int .i64 a) := HX1.out.cell 1 (by simp)
    have k2 : W1.cell? ⟨g, 2, none⟩ = some (.int .u64 s) := HX1.out.cell 2 (by simp)
    have f1 : W1.frozen? ⟨g, 1, none⟩ = false := HX1.out.frozen 1
    have f2 : W1.frozen? ⟨g, 2, none⟩ = false := HX1.out.frozen 2
    go_upto_region 6 with (fail)
    clear k0 k1 k2 f1 f2
    refine nameC ?_
    intro W2 HW2
    have hX2 : ∃ s2 : Int, 0 ≤ s2 ∧ s2 < 18446744073709551616 ∧ BoxN W2 g #[.slice A n c, .int .i64 a1, .int .u64 s2] 42 := by
      rw [HW2.out]
      exact ⟨_, (wrap64 _).1, (wrap64 _).2, (HX1.out.set 1 _).set 2 _⟩
    obtain ⟨s2, hs2, hs2', hX2⟩ := hX2
    have hg2 : W1.grownBy W2 (some g) := by rw [HW2.out]; exact grownBy_trans (grown_set _ ⟨g, 1, none⟩ _) (grown_set _ ⟨g, 2, none⟩ _)
    have HX2 := Lib.hid hX2
    clear HW2 hX2
    have k0 : W2.cell? ⟨g, 0, none⟩ = some (.slice A n c) := HX2.out.cell 0 (by simp)
    have k1 : W2.cell? ⟨g, 1, none⟩ = some (.int .i64 a1) := HX2.out.cell 1 (by simp)
    have k2 : W2.cell? ⟨g, 2, none⟩ = some (.int .u64 s2) := HX2.out.cell 2 (by simp)
    go_quiet (fail)
    obtain ⟨z, hz, hzz⟩ : ∃ z : Nat, z < 256 ∧ bits .and .u64 (s2 / 1099511627776) 255 = (z : Int) := by
      refine ⟨((s2 / 1099511627776) % 256).toNat, by omega, ?_⟩
      rw [and255 _ (by omega) (by omega)]; omega
    have hcw : IntKind.i64.wrap (z : Int) = (z : Int) := IntWalk.i64_in _ (by omega)
    go_wp2_with fail
    go_ret
    exact ⟨z, rfl, hz, ⟨a1, s2, by have := HA1.out; omega, hs2, hs2', HX2.out⟩, grownBy_trans hg1 (grownBy_trans hg2 ⟨rfl, rfl, rfl, Nat.le_refl _, fun _ _ _ => rfl⟩)⟩


end Go.Proofs.YtbbdhcfbdndhlaaDoor
