/-
  Contracts: a cursor's pick, one, among. No condition on any program.
-/
import Derived.Test.YtbbdhcfbdndhlaaDoorCurs
namespace Go.Proofs.YtbbdhcfbdndhlaaDoor
open Go.ChangeShapes Go.WideShapes Go.ChangeAt Go.RowKit
set_option linter.unusedVariables false

theorem tmodN (a b : Nat) : Int.tmod (a : Int) (b : Int) = ((a % b : Nat) : Int) := (Int.ofNat_tmod a b).symm
set_option maxHeartbeats 400000 in
set_option maxRecDepth 100000 in
theorem pick_any (m : Int) (g k lo hi : Nat) (v : Value) (bs : List Int) (w : World) (hC : Cur w g v k) (hk : k < 1000000000000) (hB : ByS w lo hi v bs) (hb : Bytes bs) (hl : bs.length ≤ 1099511627776) (hg : g < lo ∨ hi ≤ g) (hh : hi ≤ w.heap.size) :
    Calls Tryd.prog 22 #[.pointer (some ⟨g, 0, none⟩), .int .i64 m] w fun e w' => ∃ x : Nat, e = .returned (.int .i64 x) ∧ (m ≤ 1 → x = 0) ∧ (1 < m → (x : Int) < m) ∧ Cur w' g v (k + 2) ∧ w.grownBy w' (some g) := by
  by_cases h1 : m ≤ 1
  · go_enter Tryd.func22, Tryd.ntmps22
    go_wp2_with fail
    go_ret
    exact ⟨0, rfl, fun _ => rfl, fun h => by omega, hC.mono (by omega), World.grownBy.refl _ _⟩
  obtain ⟨M, rfl⟩ : ∃ M : Nat, m = M := ⟨m.toNat, by omega⟩
  have hM : 1 < M := by omega
  have hM0 : ¬ (M : Int) = 0 := by omega
  have hMe : ((M : Int) == 0) = false := by simp; omega
  have HC := Lib.hid hC; clear hC
  have HB := Lib.hid hB; clear hB
  have HBY := Lib.hid hb; clear hb
  go_enter Tryd.func22, Tryd.ntmps22
  go_wp2_with fail
  refine (next_any g k lo hi v bs w HC.out (by omega) HB.out HBY.out hl hg).mono ?_
  rintro e w1 ⟨x, rfl, hx, hC1, hg1⟩
  have HC1 := Lib.hid hC1; clear hC1
  have HB1 := Lib.hid (HB.out.far hg1 hh (fun b e => by cases e; exact hg))
  have hs1 := hg1.size
  by_cases h2 : M ≤ 200
  · have h2' : ¬ (200 : Int) < M := by omega
    have htm := tmodN x M
    have hlt : x % M < M := Nat.mod_lt _ (by omega)
    go_wp2_with fail
    go_ret
    exact ⟨x % M, ret_int (by first | rfl | omega | simp [htm]), fun h => by omega, fun _ => by omega, HC1.out.mono (by omega), hg1⟩
  · have h2' : (200 : Int) < M := by omega
    have hw1 : IntKind.i64.wrap ((x : Int) * 256) = ((x * 256 : Nat) : Int) := by rw [IntWalk.i64_in _ (by omega)]; omega
    obtain ⟨x2, HX2⟩ : ∃ q : Nat, Hid (x * 256 = q) := ⟨_, Lib.hid rfl⟩
    rw [HX2.out] at hw1
    have hx2 : x2 < 65536 := by have := HX2.out; omega
    go_wp2_with fail
    refine (next_any g (k + 1) lo hi v bs w1 HC1.out (by omega) HB1.out HBY.out hl hg).mono ?_
    rintro e w2 ⟨y, rfl, hy, hC2, hg2⟩
    have HC2 := Lib.hid hC2; clear hC2
    have hw2 : IntKind.i64.wrap ((x2 : Int) + (y : Int)) = ((x2 + y : Nat) : Int) := by rw [IntWalk.i64_in _ (by omega)]; omega
    obtain ⟨z, HZ⟩ : ∃ q : Nat, Hid (x2 + y = q) := ⟨_, Lib.hid rfl⟩
    rw [HZ.out] at hw2
    have htm := tmodN z M
    have hlt : z % M < M := Nat.mod_lt _ (by omega)
    go_wp2_with fail
    go_ret
    exact ⟨z % M, ret_int (by first | rfl | omega | simp [htm]), fun h => by omega, fun _ => by omega, HC2.out, grownBy_trans hg1 hg2⟩
set_option maxHeartbeats 400000 in
set_option maxRecDepth 100000 in
theorem one_any (m : Int) (g k lo hi : Nat) (v : Value) (bs : List Int) (w : World) (hC : Cur w g v k) (hk : k < 1000000000000) (hB : ByS w lo hi v bs) (hb : Bytes bs) (hl : bs.length ≤ 1099511627776) (hg : g < lo ∨ hi ≤ g) (hh : hi ≤ w.heap.size) :
    Calls Tryd.prog 36 #[.pointer (some ⟨g, 0, none⟩), .int .i64 m] w fun e w' => ∃ b : Bool, e = .returned (.bool b) ∧ Cur w' g v (k + 2) ∧ w.grownBy w' (some g) := by
  go_enter Tryd.func36, Tryd.ntmps36
  go_wp2_with fail
  refine (pick_any m g k lo hi v bs w hC hk hB hb hl hg hh).mono ?_
  rintro e w1 ⟨x, rfl, _, _, hC1, hg1⟩
  go_wp2_with fail
  go_ret
  exact ⟨_, rfl, hC1, hg1⟩
set_option maxHeartbeats 400000 in
set_option maxRecDepth 100000 in
theorem among_any (g k lo hi : Nat) (v : Value) (bs : List Int) (vl : Value) (zs : List Int) (lo2 hi2 : Nat) (w : World) (hC : Cur w g v k) (hk : k < 1000000000000) (hB : ByS w lo hi v bs) (hb : Bytes bs) (hl : bs.length ≤ 1099511627776) (hg : g < lo ∨ hi ≤ g) (hh : hi ≤ w.heap.size)
    (hz : IntS w lo2 hi2 vl zs) (hzl : 0 < zs.length) (hg2 : g < lo2 ∨ hi2 ≤ g) (hh2 : hi2 ≤ w.heap.size) :
    Calls Tryd.prog 21 #[.pointer (some ⟨g, 0, none⟩), vl] w fun e w' => ∃ j : Nat, j < zs.length ∧ e = .returned (.int .i64 (nth zs j)) ∧ Cur w' g v (k + 2) ∧ w.grownBy w' (some g) := by
  obtain ⟨A, c, rfl, hc, hd⟩ := hz.dims
  obtain ⟨n, HN⟩ : ∃ n, Hid (zs.length = n) := ⟨_, Lib.hid rfl⟩
  have HZ := Lib.hid hz; clear hz
  rw [HN.out] at hzl hc ⊢
  go_enter Tryd.func21, Tryd.ntmps21
  go_wp2_with fail
  refine (pick_any n g k lo hi v bs w hC hk hB hb hl hg hh).mono ?_
  rintro e w1 ⟨x, rfl, hx1, hx2, hC1, hg1⟩
  have hxn : x < n := by
    by_cases h : (n : Int) ≤ 1
    · rw [hx1 h]; exact hzl
    · have := hx2 (by omega); omega
  have hxi : (x : Int) < n := by omega
  have HZ1 := Lib.hid (HZ.out.far hg1 hh2 (fun b e => by cases e; exact hg2))
  obtain ⟨b, off, rfl, _, _, kc, _⟩ := IntS.opened HZ1.out (j := x) (by rw [HN.out]; exact hxn)
  clear hx1 hx2
  go_wp2_with fail
  go_ret
  exact ⟨x, hxn, rfl, hC1, hg1⟩

end Go.Proofs.YtbbdhcfbdndhlaaDoor
