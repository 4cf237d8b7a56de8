/-
  Contracts of the reference's neNear and meFrom.
-/
import Derived.Test.YtmdlginjblnfoaaDistP
import Derived.Test.YtmdlginjblnfoaaRepeat
import Derived.Test.YtmdlginjblnfoaaExt
import Derived.Deep.RegionHeld3
namespace Go.Proofs.Ytmdlginjblnfoaa
open Go.ChangeShapes Go.WideShapes Go.ChangeAt Go.RowKit
set_option linter.unusedVariables false

set_option maxHeartbeats 1000000 in
set_option maxRecDepth 100000 in
theorem neNear_any (v : Value) (N : NetD) (u : Nat) (lo hi : Nat) (w : World) (h : Net w lo hi v N) (hhi : hi ≤ w.heap.size) (hu : u < N.ends.length) (hd : (nthL N.ends u).length ≤ 1048576) :
    Calls Try.prog 67 #[v, .int .i64 u] w fun e w' => ∃ r, e = .returned r ∧ IntS w' w.heap.size w'.heap.size r (nbs N u) ∧ Below w.heap.size w w' := by
  obtain ⟨A, c, A2, c2, A3, c3, rfl, hc1, hc2, _, _, hopen⟩ := h.parts
  obtain ⟨b, off, rfl, hb1, hb2, hN⟩ := hopen (by omega)
  obtain ⟨W0, HW0⟩ : ∃ W0, Hid (W0 = w.alloc (.cells #[.slice (some ⟨b, off, none⟩) N.ends.length c, .slice A2 N.ids.length c2, .slice A3 N.inputs.length c3] 31)) := ⟨_, Lib.hid rfl⟩
  have b0 : Box3 W0 w.heap.size 31 (.slice (some ⟨b, off, none⟩) N.ends.length c) (.slice A2 N.ids.length c2) (.slice A3 N.inputs.length c3) := by rw [HW0.out]; exact Box3.new w 31 _ _ _
  have hb0 : Below w.heap.size w W0 := by rw [HW0.out]; exact below_a1 _ _
  have hs0 : w.heap.size + 1 ≤ W0.heap.size := by rw [HW0.out]; simp
  obtain ⟨A4, c4, hu4, hd1, hd2, hcell⟩ := hN u hu
  have g1 := (hb0.cell (p := ⟨b, off + u, none⟩) (by show b < _; omega)).trans hu4
  have g0 := b0.cells.1
  have hul : (u : Int) < N.ends.length := by omega
  rw [HW0.out] at g1 g0
  clear h hopen hN hu4
  go_enter Try.func67, Try.ntmps67
  go_wp2
  rw [← HW0.out]
  clear HW0 g1 g0
  go_loopw [14, 5] (fun i ov wr => ∃ (k : Nat) (zs : List Int), k ≤ (nthL N.ends u).length ∧ i = .int .i64 k ∧ OwnI wr (w.heap.size + 1) 3 ov zs ∧ Hid (zs = (nbs N u).take k) ∧ zs.length ≤ k ∧ w.heap.size + 1 ≤ wr.heap.size ∧ Below w.heap.size w wr) (fun i _ _ => (nthL N.ends u).length - (intOf i).toNat)
  case atStart => exact ⟨0, [], Nat.zero_le _, rfl, OwnI.nil _ _ _, Lib.hid (by simp), Nat.zero_le _, hs0, hb0⟩
  case round =>
    clear b0 hb0 hs0
    obtain ⟨k, zs, hk, rfl, ho, HD, hzl, hs, hb⟩ := hrel
    by_cases hlt : k < (nthL N.ends u).length
    · obtain ⟨b2, off2, rfl, hb5, hb6, hcs⟩ := hcell (by omega)
      obtain ⟨x1, x2⟩ := hcs k hlt
      have e1 := (hb.cell (p := ⟨b2, off2 + k * 2, none⟩) (by show b2 < _; omega)).trans x1
      have e2 := (hb.cell (p := ⟨b2, off2 + k * 2 + 1, none⟩) (by show b2 < _; omega)).trans x2
      clear hcs x1 x2 hcell
      obtain ⟨p1, p2, HP⟩ : ∃ p1 p2, Hid (nthE (nthL N.ends u) k = (p1, p2)) := ⟨_, _, Lib.hid rfl⟩
      rw [HP.out] at e1 e2
      dsimp only at e1 e2
      go_wp2_with (at_builtin; refine append_int (s := .tmp 18) Try.underlying23 Try.info3 (by decide) (wr.alloc (.cells #[.int .i64 p1, .int .i64 p2] 56)) rfl _ rfl (Own.alloc ho _) p1 _ rfl (by simp [Act.eval, go_sem]) (by omega) (by simp; omega) ?_; intro v' w' ho' hg' hat')
      go_roundw
      case rel =>
        refine ⟨k + 1, zs ++ [p1], by omega, by go_num, ho', Lib.hid ?_, by simp; omega, ?_, ?_⟩
        · rw [List.take_succ_eq_append_getElem (by rw [nbs_length]; exact hlt), ← nth_eq, nth_nbs N u hlt, HP.out, HD.out]
        · have := hg'.size; simp at this; omega
        · exact (hb.alloc hb.size _).grown hg' (by have := hb.size; simp; omega) fun g hg => by have := (OwnI.lt ho g hg).1; omega
      case measure => simp [intOf]; omega
    · obtain rfl : k = (nthL N.ends u).length := by omega
      go_wp2
      go_ret
      refine ⟨_, rfl, ?_, hb⟩
      have e : nbs N u = zs := by rw [HD.out, List.take_of_length_le (by rw [nbs_length]; exact Nat.le_refl _)]
      rw [e]
      exact ho.ints.mono (by omega) (Nat.le_refl _)

theorem Box3.grown {w w' : World} {g : Nat} {t : TypeId} {a b c : Value} {row : Option Nat} (h : Box3 w g t a b c) (hg : w.grownBy w' row) (hr : ∀ k, row = some k → k ≠ g) : Box3 w' g t a b c := (hg.block g h.lt (fun e => hr g e.symm rfl)).trans h
theorem IntS.of_row {w : World} {b n : Nat} {t : TypeId} {zs : List Int} (h : w.rowIs b t n (fun j => .int .i64 (nth zs j))) (hn : zs.length = n) (hm : n ≤ maxLen) : IntS w b (b + 1) (.slice (some ⟨b, 0, none⟩) n n) zs := by
  subst hn
  refine ⟨_, _, rfl, Nat.le_refl _, hm, fun hpos => ⟨b, 0, rfl, Nat.le_refl _, by omega, fun j hj => ?_⟩⟩
  rw [Nat.zero_add]
  exact ⟨h.cell (by omega), h.frozen j⟩

end Go.Proofs.Ytmdlginjblnfoaa
