/-
  Contract of the reference's l1Put.
-/
import Derived.Test.YtmdlginjblnfoaaPut
namespace Go.Proofs.Ytmdlginjblnfoaa
open Go.ChangeShapes Go.WideShapes Go.ChangeAt Go.RowKit
set_option linter.unusedVariables false

set_option maxHeartbeats 4000000 in
set_option maxRecDepth 100000 in
theorem l1Put_any (v : Value) (zs : List Int) (x : Int) (base : Nat) (w : World) (h : OwnI w base 3 v zs) (hb : base ≤ w.heap.size) (hz : zs.length ≤ 1048576) :
    Calls Try.prog 49 #[v, .int .i64 x] w fun e w' => ∃ r, e = .returned r ∧ OwnI w' base 3 r (putL zs x) ∧ Below w.heap.size w w' := by
  have HO := Lib.hid h
  have HI := Lib.hid h.ints
  obtain ⟨i0, hi0, hzz0⟩ := Option.map_eq_some_iff.1 Try.info3
  rcases h.2 with ⟨rfl, hn⟩ | ⟨g, cap, cur, rfl, hg, hh, hn, hm, hs, ht⟩
  · -- nothing there yet
    have hnil : zs = [] := by simpa using hn
    subst hnil
    clear h hzz0 hn
    go_enter Try.func49, Try.ntmps49
    go_wp2_with fail
    go_loop [5] (fun c => c = .int .i64 0) (fun c => 0)
    case atStart => rfl
    case round =>
      obtain rfl := hrel
      have HE := Lib.hid (OwnI.empty w w.heap.size 3 rfl (Nat.le_refl _))
      go_wp2_with (first | (at_builtin; refine wpList_append_own_none (w := w.alloc (.cells #[] 3)) rfl (.tmp 34) (.tmp 37) 23 rfl w.heap.size 3 i0 1 Try.underlying23 hi0 _ _ _ rfl HE.out rfl ?_) | (at_builtin; refine append_int (s := .tmp 39) Try.underlying23 Try.info3 (by decide) (w.alloc (.cells #[] 3)) rfl _ rfl HE.out x _ rfl (by simp [Act.eval, go_sem]) (by simp) (by simp) ?_; intro v' w' ho' hg' hat'; have HO' := Lib.hid ho') | (at_builtin; refine wpList_append_own_none rfl (.tmp 43) (.tmp 46) 23 rfl w.heap.size 3 i0 1 Try.underlying23 hi0 _ _ _ rfl HO'.out rfl ?_))
      obtain ⟨Av, cv, rfl, _, _⟩ := HO'.out.ints.dims
      go_ret
      refine ⟨_, rfl, HO'.out.lower hb, ?_⟩
      exact (below_a1 w _).grown hg' (by simp) fun g hg => by have := HE.out.lt g hg; omega
  · have hcap : zs.length ≤ cap := by simpa using hn
    have hcap2 : cap ≤ 9223372036854775807 := hm
    have hgw : g < w.heap.size := (Array.getElem?_eq_some_iff.1 hh).1
    have hl : (zs.map (Value.int .i64)).length = zs.length := by simp
    simp only [List.length_map] at HO HI ⊢
    clear h hzz0 hn hm hs ht hh hl
    go_enter Try.func49, Try.ntmps49
    go_wp2_with fail
    go_loop [5] (fun c => ∃ k : Nat, c = .int .i64 k ∧ k ≤ zs.length ∧ Hid (∀ j, j < k → nth zs j < x)) (fun c => zs.length - (intOf c).toNat)
    case atStart => exact ⟨0, rfl, Nat.zero_le _, Lib.hid fun j hj => absurd hj (by omega)⟩
    case round =>
      obtain ⟨k, rfl, hk, HU⟩ := hrel
      by_cases hlt : k < zs.length
      case neg =>
        obtain rfl : k = zs.length := by omega
        by_cases hc : cap = zs.length
        · subst hc
          have HK := Lib.hid (putK_is (Nat.le_refl _) HU.out (fun h => absurd h (by omega)))
          have hk2 : zs.length ≤ zs.length := by omega
          have W1C := Lib.hid (fun j (hj : j < zs.length) => show (w.alloc (.cells #[] 3)).cell? ⟨g, 0 + j, none⟩ = some (.int .i64 (nth (zs.take zs.length) j)) by rw [(below_a1 w (.cells #[] 3)).cell (p := ⟨g, 0 + j, none⟩) (by show g < _; omega), nth_take hj]; exact (HI.out.at_ (by omega)).1)
          have HE := Lib.hid (OwnI.empty w w.heap.size 3 rfl (Nat.le_refl _))
          have hbw1 := below_a1 w (.cells #[] 3)
          have htl : (zs.take zs.length).length = zs.length := by rw [List.length_take]; omega
          have hdl : (zs.drop zs.length).length = 0 := by simp
          have HTL := Lib.hid htl
          have HDL := Lib.hid hdl
          clear htl hdl
          go_wp2_with (first
            | (at_builtin; refine append_ints (s := .tmp 34) Try.underlying23 Try.info3 (by decide) (w.alloc (.cells #[] 3)) rfl (.tmp 37) rfl HE.out rfl (g := g) (off := 0) (zs.take zs.length) HTL.out rfl W1C.out (by simp; omega) (by simp) ?_; intro v1 w1 ho1 hg1; have hb1 : Below w.heap.size w w1 := hbw1.grown hg1 (by simp) (fun g hg => by have := HE.out.lt g hg; omega); have HO1 := Lib.hid ho1; have hz1 := hb1.size)
            | (at_builtin; refine append_int (s := .tmp 39) Try.underlying23 Try.info3 (by decide) w1 rfl _ rfl HO1.out x _ rfl (by simp [Act.eval, go_sem]) (by rw [List.nil_append, HTL.out]; omega) (by omega) ?_; intro v2 w2 ho2 hg2 _; have hb2 : Below w.heap.size w w2 := hb1.grown hg2 (by omega) (fun g hg => by have := HO1.out.lt g hg; omega); have HO2 := Lib.hid ho2; have hz2 := hb2.size; have HC3 := Lib.hid (fun j (hj : j < 0) => show w2.cell? ⟨g, 0 + j, none⟩ = some (.int .i64 (nth (zs.drop zs.length) j)) by omega))
            | (at_builtin; refine append_ints (s := .tmp 43) Try.underlying23 Try.info3 (by decide) w2 rfl (.tmp 46) rfl HO2.out rfl (g := g) (off := 0) (zs.drop zs.length) HDL.out rfl HC3.out (by rw [List.length_append, List.length_append, HTL.out]; simp; omega) (by omega) ?_; intro v3 w3 ho3 hg3; have hb3 : Below w.heap.size w w3 := hb2.grown hg3 (by omega) (fun g hg => by have := HO2.out.lt g hg; omega); have HO3 := Lib.hid ho3))
          obtain ⟨Av, cv, rfl, _, _⟩ := HO3.out.ints.dims
          go_ret
          refine ⟨_, rfl, ?_, hb3⟩
          have e : putL zs x = ([] ++ zs.take zs.length) ++ [x] ++ zs.drop zs.length := by unfold putL; rw [HK.out, if_neg (by omega)]; simp
          rw [e]
          exact HO3.out.lower hb
        · have hc2 : zs.length < cap := by omega
          have HK := Lib.hid (putK_is (Nat.le_refl _) HU.out (fun h => absurd h (by omega)))
          have hk2 : zs.length ≤ zs.length := by omega
          have W1C := Lib.hid (fun j (hj : j < zs.length) => show (w.alloc (.cells #[] 3)).cell? ⟨g, 0 + j, none⟩ = some (.int .i64 (nth (zs.take zs.length) j)) by rw [(below_a1 w (.cells #[] 3)).cell (p := ⟨g, 0 + j, none⟩) (by show g < _; omega), nth_take hj]; exact (HI.out.at_ (by omega)).1)
          have HE := Lib.hid (OwnI.empty w w.heap.size 3 rfl (Nat.le_refl _))
          have hbw1 := below_a1 w (.cells #[] 3)
          have htl : (zs.take zs.length).length = zs.length := by rw [List.length_take]; omega
          have hdl : (zs.drop zs.length).length = 0 := by simp
          have HTL := Lib.hid htl
          have HDL := Lib.hid hdl
          clear htl hdl
          go_wp2_with (first
            | (at_builtin; refine append_ints (s := .tmp 34) Try.underlying23 Try.info3 (by decide) (w.alloc (.cells #[] 3)) rfl (.tmp 37) rfl HE.out rfl (g := g) (off := 0) (zs.take zs.length) HTL.out rfl W1C.out (by simp; omega) (by simp) ?_; intro v1 w1 ho1 hg1; have hb1 : Below w.heap.size w w1 := hbw1.grown hg1 (by simp) (fun g hg => by have := HE.out.lt g hg; omega); have HO1 := Lib.hid ho1; have hz1 := hb1.size)
            | (at_builtin; refine append_int (s := .tmp 39) Try.underlying23 Try.info3 (by decide) w1 rfl _ rfl HO1.out x _ rfl (by simp [Act.eval, go_sem]) (by rw [List.nil_append, HTL.out]; omega) (by omega) ?_; intro v2 w2 ho2 hg2 _; have hb2 : Below w.heap.size w w2 := hb1.grown hg2 (by omega) (fun g hg => by have := HO1.out.lt g hg; omega); have HO2 := Lib.hid ho2; have hz2 := hb2.size; have HC3 := Lib.hid (fun j (hj : j < 0) => show w2.cell? ⟨g, zs.length + j, none⟩ = some (.int .i64 (nth (zs.drop zs.length) j)) by rw [hb2.cell (p := ⟨g, zs.length + j, none⟩) (by show g < _; omega), nth_drop]; have := (HI.out.at_ (j := zs.length + j) (by omega)).1; rwa [Nat.zero_add] at this))
            | (at_builtin; refine append_ints (s := .tmp 43) Try.underlying23 Try.info3 (by decide) w2 rfl (.tmp 46) rfl HO2.out rfl (g := g) (off := zs.length) (zs.drop zs.length) HDL.out rfl HC3.out (by rw [List.length_append, List.length_append, HTL.out]; simp; omega) (by omega) ?_; intro v3 w3 ho3 hg3; have hb3 : Below w.heap.size w w3 := hb2.grown hg3 (by omega) (fun g hg => by have := HO2.out.lt g hg; omega); have HO3 := Lib.hid ho3))
          obtain ⟨Av, cv, rfl, _, _⟩ := HO3.out.ints.dims
          go_ret
          refine ⟨_, rfl, ?_, hb3⟩
          have e : putL zs x = ([] ++ zs.take zs.length) ++ [x] ++ zs.drop zs.length := by unfold putL; rw [HK.out, if_neg (by omega)]; simp
          rw [e]
          exact HO3.out.lower hb
      obtain ⟨x1, _⟩ := HI.out.at0 hlt
      obtain ⟨y, HY⟩ : ∃ y, Hid (nth zs k = y) := ⟨_, Lib.hid rfl⟩
      rw [HY.out] at x1
      by_cases hy : y < x
      · go_wp2_with fail
        go_round
        case rel =>
          refine ⟨k + 1, by go_num, by omega, Lib.hid fun j hj => ?_⟩
          by_cases e : j = k
          · rw [e, HY.out]; exact hy
          · exact HU.out j (by omega)
        case measure => simp [intOf]; omega
      by_cases he : y = x
      · have he' : (y == x) = true := by simpa using he
        have HE2 := Lib.hid he; clear he
        go_wp2_with fail
        go_ret
        refine ⟨_, rfl, ?_, Below.refl _ _⟩
        have hk2 := putK_is hk HU.out (fun _ => by rw [HY.out]; omega)
        have e : putL zs x = zs := by unfold putL; rw [hk2, if_pos ⟨hlt, by rw [HY.out, HE2.out]⟩]
        rw [e]
        exact HO.out
      have he' : (y == x) = false := by simpa using he
      have HE2 := Lib.hid he; clear he
      have HK := Lib.hid (putK_is hk HU.out (fun _ => by rw [HY.out]; omega))
      have hk2 : k ≤ zs.length := by omega
      have W1C := Lib.hid (fun j (hj : j < k) => show (w.alloc (.cells #[] 3)).cell? ⟨g, 0 + j, none⟩ = some (.int .i64 (nth (zs.take k) j)) by rw [(below_a1 w (.cells #[] 3)).cell (p := ⟨g, 0 + j, none⟩) (by show g < _; omega), nth_take hj]; exact (HI.out.at_ (by omega)).1)
      have HE := Lib.hid (OwnI.empty w w.heap.size 3 rfl (Nat.le_refl _))
      have hbw1 := below_a1 w (.cells #[] 3)
      have htl : (zs.take k).length = k := by rw [List.length_take]; omega
      have hdl : (zs.drop k).length = zs.length - k := List.length_drop
      have HTL := Lib.hid htl
      have HDL := Lib.hid hdl
      clear htl hdl
      go_wp2_with (first
        | (at_builtin; refine append_ints (s := .tmp 34) Try.underlying23 Try.info3 (by decide) (w.alloc (.cells #[] 3)) rfl (.tmp 37) rfl HE.out rfl (g := g) (off := 0) (zs.take k) HTL.out rfl W1C.out (by simp; omega) (by simp) ?_; intro v1 w1 ho1 hg1; have hb1 : Below w.heap.size w w1 := hbw1.grown hg1 (by simp) (fun g hg => by have := HE.out.lt g hg; omega); have HO1 := Lib.hid ho1; have hz1 := hb1.size)
        | (at_builtin; refine append_int (s := .tmp 39) Try.underlying23 Try.info3 (by decide) w1 rfl _ rfl HO1.out x _ rfl (by simp [Act.eval, go_sem]) (by rw [List.nil_append, HTL.out]; omega) (by omega) ?_; intro v2 w2 ho2 hg2 _; have hb2 : Below w.heap.size w w2 := hb1.grown hg2 (by omega) (fun g hg => by have := HO1.out.lt g hg; omega); have HO2 := Lib.hid ho2; have hz2 := hb2.size; have HC3 := Lib.hid (fun j (hj : j < zs.length - k) => show w2.cell? ⟨g, k + j, none⟩ = some (.int .i64 (nth (zs.drop k) j)) by rw [hb2.cell (p := ⟨g, k + j, none⟩) (by show g < _; omega), nth_drop]; have := (HI.out.at_ (j := k + j) (by omega)).1; rwa [Nat.zero_add] at this))
        | (at_builtin; refine append_ints (s := .tmp 43) Try.underlying23 Try.info3 (by decide) w2 rfl (.tmp 46) rfl HO2.out rfl (g := g) (off := k) (zs.drop k) HDL.out rfl HC3.out (by rw [List.length_append, List.length_append, HTL.out]; simp; omega) (by omega) ?_; intro v3 w3 ho3 hg3; have hb3 : Below w.heap.size w w3 := hb2.grown hg3 (by omega) (fun g hg => by have := HO2.out.lt g hg; omega); have HO3 := Lib.hid ho3))
      obtain ⟨Av, cv, rfl, _, _⟩ := HO3.out.ints.dims
      go_ret
      refine ⟨_, rfl, ?_, hb3⟩
      have e : putL zs x = ([] ++ zs.take k) ++ [x] ++ zs.drop k := by unfold putL; rw [HK.out, if_neg (fun h => HE2.out (by rw [← HY.out]; exact h.2))]; simp
      rw [e]
      exact HO3.out.lower hb

end Go.Proofs.Ytmdlginjblnfoaa
