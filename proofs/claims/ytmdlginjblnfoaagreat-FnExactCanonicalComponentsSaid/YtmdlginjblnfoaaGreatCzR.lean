/-
  Several texts in one: CordS, CoQ, CoR, CoT, CoX, CoU, Put2, TokE. No condition on any program.
-/
import Derived.Test.YtmdlginjblnfoaaGreatCzN
import Derived.Test.YtmdlginjblnfoaaGreatCzK
import Derived.Test.YtmdlginjblnfoaaGreatCzJ
import Derived.Test.YtmdlginjblnfoaaGreatCzO
import Derived.Test.YtmdlginjblnfoaaGreatCzG
import Derived.Test.YtmdlginjblnfoaaGreatCzB
import Derived.Test.YtmdlginjblnfoaaGreatCzA
import Derived.Test.YtmdlginjblnfoaaGreatCzD
import Derived.BigQuiet
import Derived.Deep.QuietTactic

/- Contract: isOrder (reference), out of a contract of isParts. -/
namespace Go.Proofs.YtmdlginjblnfoaaGreat
open Go.ChangeShapes Go.WideShapes Go.ChangeAt Go.RowKit
set_option linter.unusedVariables false

/-- what is wanted of isParts -/
def PartsC (P : Program) (f : Nat) (e : TypeId) : Prop :=
  ∀ (v : Value) (N : NetD) (lo hi : Nat) (w : World), Net w lo hi v N → hi ≤ w.heap.size → N.good = true → Calls P f #[v] w fun e' w' => ∃ r xs, e' = .returned r ∧ xs.map CmpV.c = sortedC N ∧ CoS encS 3 w' w.heap.size w'.heap.size e r xs ∧ Below w.heap.size w w'

set_option maxHeartbeats 8000000 in
set_option maxRecDepth 100000 in
theorem isOrder_spec (v1 : Value) (N : NetD) (lo1 hi1 : Nat) (w : World) (h1 : Net w lo1 hi1 v1 N) (hh1 : hi1 ≤ w.heap.size) (hg : N.good = true) (hparts : PartsC Tryz.prog 17 46) :
    Calls Tryz.prog 36 #[v1] w fun e w' => ∃ r, e = .returned r ∧ IntS w' w.heap.size w'.heap.size r (canonL N) ∧ Below w.heap.size w w' := by
  obtain ⟨n1, n40⟩ := good_n hg
  have HG := Lib.hid hg; clear hg
  have HPC := Lib.hid hparts; clear hparts
  have HWK := Lib.hid (sortedC_wok HG.out)
  have hmk := fun W => run_make_row' (P := Tryz.prog) 23 3 (.int .i64 0) 8 Tryz.underlying23 Tryz.info3 rfl .i64 .i64 N.ends.length (by omega) (by omega) W
  have F1 := Lib.hid h1
  obtain ⟨A1, c1, A1', c1', A1'', c1'', rfl, hc1, hd1, _⟩ := h1.parts
  obtain ⟨b1, o1, _, _, rfl, _⟩ := Net.rowAt F1.out (u := 0) (by omega)
  clear h1
  obtain ⟨WA, HWA⟩ : ∃ W, Hid (W = (w.alloc (.cells #[.slice (some ⟨b1, o1, none⟩) N.ends.length c1, .slice A1' N.ids.length c1', .slice A1'' N.inputs.length c1''] 32))) := ⟨_, Lib.hid rfl⟩
  have hbA : Below w.heap.size w WA := by rw [HWA.out]; exact ((Below.refl _ _).alloc (Nat.le_refl _) _)
  have hsA : w.heap.size + 1 ≤ WA.heap.size := by rw [HWA.out]; simp; try omega
  have bx1 : BoxN WA (w.heap.size) #[.slice (some ⟨b1, o1, none⟩) N.ends.length c1, .slice A1' N.ids.length c1', .slice A1'' N.inputs.length c1''] 32 := by rw [HWA.out]; exact (BoxN.new' _ _ _ (by simp))
  have G1 := Lib.hid (Net.below F1.out hbA hh1); clear F1
  go_enter Tryz.func36, Tryz.ntmps36
  go_upto_region 1 with (fail)
  rw [← HWA.out]; clear HWA
  have kbx1_0 : WA.cell? ⟨w.heap.size, 0, none⟩ = some (.slice (some ⟨b1, o1, none⟩) N.ends.length c1) := bx1.cell 0 (by simp)
  have kbx1_1 : WA.cell? ⟨w.heap.size, 1, none⟩ = some (.slice A1' N.ids.length c1') := bx1.cell 1 (by simp)
  have kbx1_2 : WA.cell? ⟨w.heap.size, 2, none⟩ = some (.slice A1'' N.inputs.length c1'') := bx1.cell 2 (by simp)
  go_upto_region 2 with (fail)
  clear kbx1_0 kbx1_1 kbx1_2
  refine nameC ?_
  intro W1 HW1
  have hg1 : WA.grownBy W1 none := by rw [HW1.out]; exact grown_alloc _ _
  have hs1 := hg1.size
  have HF1 := Lib.hid ((Turned.refl WA.heap.size WA.heap.size WA).still hg1)
  have HO := Lib.hid (show IntS W1 WA.heap.size (WA.heap.size + 1) (.slice (some ⟨WA.heap.size, 0, none⟩) N.ends.length N.ends.length) (List.replicate N.ends.length 0) by rw [HW1.out]; exact made_ints _ _ _ rfl (by omega))
  have hz : WA.heap.size + 1 ≤ W1.heap.size := by rw [HW1.out]; simp
  clear HW1 hmk
  have N_1 := Lib.hid (Net.turned G1.out HF1.out (by omega) (by omega)); clear G1
  have bx1_1 := HF1.out.boxN bx1 (by omega); clear bx1
  have hbA1 : Below w.heap.size w W1 := (HF1.out.below_of hbA (by omega) (by omega)); clear hbA HF1
  have kbx1_0 : W1.cell? ⟨w.heap.size, 0, none⟩ = some (.slice (some ⟨b1, o1, none⟩) N.ends.length c1) := bx1_1.cell 0 (by simp)
  have kbx1_1 : W1.cell? ⟨w.heap.size, 1, none⟩ = some (.slice A1' N.ids.length c1') := bx1_1.cell 1 (by simp)
  have kbx1_2 : W1.cell? ⟨w.heap.size, 2, none⟩ = some (.slice A1'' N.inputs.length c1'') := bx1_1.cell 2 (by simp)
  go_wp2_with fail
  clear kbx1_0 kbx1_1 kbx1_2
  refine (HPC.out _ N lo1 hi1 _ N_1.out (by omega) HG.out).mono ?_
  rintro e W2 ⟨r0, xs, rfl, hxs, hX, hb2⟩
  have hg2 := grown_below hb2; clear hb2
  have hs2 := hg2.size
  have HF2 := Lib.hid ((Turned.refl WA.heap.size (WA.heap.size + 1) W1).still hg2)
  have O2 := Lib.hid (IntS.still HO.out hg2 (by omega)); clear HO
  have HX := Lib.hid hX; have HXS := Lib.hid hxs; clear hX
  have hxl : xs.length ≤ 40 := by
    have h := congrArg List.length hxs
    rw [List.length_map] at h
    have := HWK.out.2
    omega
  clear hxs
  obtain ⟨Ao, co, rfl, hco, hdo⟩ := HX.out.len
  have hlowX : W1.heap.size ≤ W2.heap.size := HX.out.low
  go_wp2_with fail
  go_loopw [16, 4] (fun kv av wr => ∃ (k ap : Nat) (pre : List Int), k ≤ xs.length ∧ kv = .int .i64 k ∧ av = .int .i64 ap ∧ Hid (ap = pre.length) ∧ Hid (pre = ((sortedC N).take k).flatMap CmpD.walk) ∧ Hid (IntS wr WA.heap.size (WA.heap.size + 1) (.slice (some ⟨WA.heap.size, 0, none⟩) N.ends.length N.ends.length) (numL (List.replicate N.ends.length 0) 0 pre)) ∧ Hid (CoS encS 3 wr W1.heap.size W2.heap.size 46 (.slice Ao xs.length co) xs) ∧ Hid (Turned WA.heap.size (WA.heap.size + 1) W1 wr)) (fun kv av _ => xs.length - (intOf kv).toNat)
  case atStart => exact ⟨0, 0, [], Nat.zero_le _, rfl, rfl, Lib.hid rfl, Lib.hid (by simp), O2, HX, HF2⟩
  case round =>
    clear HF2
    obtain ⟨k, ap, pre, hk, rfl, rfl, HAP, HP, HO, HX, HF3⟩ := hrel
    have hs3 := HF3.out.size
    obtain ⟨wq, rfl⟩ : ∃ wq : World, wq = wr := ⟨_, rfl⟩
    have hxh := HX.out.high
    have hsl : (sortedC N).length = xs.length := by rw [← HXS.out, List.length_map]
    by_cases hkn : k < xs.length
    case neg =>
      obtain rfl : k = xs.length := by omega
      have HR := Lib.hid (show numL (List.replicate N.ends.length 0) 0 pre = canonL N by unfold canonL; rw [ordTo_numL, HP.out, ← hsl, List.take_length])
      rw [HR.out] at HO
      go_wp2_with fail
      go_ret
      exact ⟨_, rfl, IntS.mono HO.out (by omega) (by omega), (HF3.out.below_of hbA1 (by omega) (by omega))⟩
    have hpl : pre.length ≤ 1600 := by
      have h1 := flat_walk_len (N := N) ((sortedC N).take k) (fun c hc => HWK.out.1 c (List.mem_of_mem_take hc))
      rw [← HP.out, List.length_take] at h1
      omega
    obtain ⟨b, c, eb, hc1, hc2, hb1, hb2, hcl⟩ := HX.out.cells (fun _ => rfl) (by omega) (by omega)
    injection eb with eb1 _ eb2
    subst eb1 eb2
    have hxm : xs[k] ∈ xs := List.getElem_mem hkn
    have hxc : xs[k].c ∈ sortedC N := by rw [← HXS.out]; exact List.mem_map.2 ⟨_, hxm, rfl⟩
    have HWC := Lib.hid (HWK.out.1 _ hxc)
    have HTK := Lib.hid (show ((sortedC N).take (k + 1)).flatMap CmpD.walk = pre ++ xs[k].c.walk by
      rw [take_flat (by omega), HP.out]
      congr 2
      have : (sortedC N)[k]? = (xs.map CmpV.c)[k]? := by rw [HXS.out]
      rw [List.getElem?_eq_getElem (by omega), List.getElem?_eq_getElem (by simpa using hkn)] at this
      simpa using this)
    obtain ⟨lo, hi, a1, a2, hE, a4⟩ := HX.out.el _ hxm
    have q0 := hcl k hkn 0 _ (by omega) rfl
    have q1 := hcl k hkn 1 _ (by omega) rfl
    have q2 := hcl k hkn 2 _ (by omega) rfl
    clear hcl hxm hxc
    have hE1 := hE.code
    have hE2 := hE.walk
    clear hE
    obtain ⟨x, HXK⟩ : ∃ x, Hid (xs[k] = x) := ⟨_, Lib.hid rfl⟩
    rw [HXK.out] at q0 q1 q2  hE1 hE2 HWC HTK
    obtain ⟨vc, vw, cc⟩ := x
    dsimp only at q0 q1 q2  hE1 hE2 HWC HTK
    obtain ⟨A1, c1, rfl, _, _⟩ := hE1.dims
    obtain ⟨A2, c2, rfl, hw1, hw2⟩ := hE2.dims
    have HE2 := Lib.hid hE2; clear hE1 hE2
    have q0' := q0.1; have q1' := q1.1; have q2' := q2.1
    clear q0 q1 q2 
    have hki : (k : Int) < xs.length := by omega
    rw [Nat.add_zero] at q0'
    go_upto_region 6 with (fail)
    refine nameC ?_
    intro W4 HW4
    have hg4 : wq.grownBy W4 none := by rw [HW4.out]; exact grown_alloc _ _
    have hs4 := hg4.size
    have HF4 := Lib.hid (HF3.out.still hg4); clear HF3
    have O4 := Lib.hid (IntS.still HO.out hg4 (by omega)); clear HO
    have X4 := Lib.hid (CoS.still HX.out hg4); clear HX
    have E4 := Lib.hid (IntS.still HE2.out hg4 (by omega)); clear HE2
    have CB4 := Lib.hid (show BoxN W4 wq.heap.size #[.slice A1 cc.code.length c1, .slice A2 cc.walk.length c2, .int .i64 (cc.cnt : Nat)] 46 by rw [HW4.out]; exact BoxN.new _ _ _)
    clear HW4
    have kb1 := CB4.out.cell 1 (by simp)
    go_wp2_with fail
    clear kb1
    go_loopw [23, 4] (fun jv av wr => ∃ (j a : Nat), j ≤ cc.walk.length ∧ jv = .int .i64 j ∧ av = .int .i64 a ∧ Hid (a = pre.length + j) ∧ Hid (IntS wr WA.heap.size (WA.heap.size + 1) (.slice (some ⟨WA.heap.size, 0, none⟩) N.ends.length N.ends.length) (numL (List.replicate N.ends.length 0) 0 (pre ++ cc.walk.take j))) ∧ Hid (CoS encS 3 wr W1.heap.size W2.heap.size 46 (.slice (some ⟨b, 0, none⟩) xs.length co) xs) ∧ Hid (IntS wr lo hi (.slice A2 cc.walk.length c2) cc.walk) ∧ Hid (Turned WA.heap.size (WA.heap.size + 1) W1 wr)) (fun jv av _ => cc.walk.length - (intOf jv).toNat)
    case atStart => exact ⟨0, ap, Nat.zero_le _, rfl, rfl, Lib.hid HAP.out, Lib.hid (by rw [List.take_zero, List.append_nil]; exact O4.out), X4, E4, HF4⟩
    case round =>
      clear HF4
      obtain ⟨j, a, hj, rfl, rfl, HA, HO, HX, HE, HF5⟩ := hrel
      have hs5 := HF5.out.size
      obtain ⟨wt, rfl⟩ : ∃ wt : World, wt = wr := ⟨_, rfl⟩
      have hxh2 := HX.out.high
      have ha := HA.out
      have hwl := HWC.out.1
      by_cases hjn : j < cc.walk.length
      case neg =>
        obtain rfl : j = cc.walk.length := by omega
        have HO2 := HO.out
        rw [List.take_length] at HO2
        go_wp2_with fail
        go_roundw
        case rel => exact ⟨k + 1, a, pre ++ cc.walk, by omega, by go_num, rfl, Lib.hid (by rw [List.length_append]; exact ha), Lib.hid HTK.out.symm, Lib.hid HO2, HX, HF5⟩
        case measure => simp [intOf]; omega
      obtain ⟨u, eu, hun⟩ := HWC.out.2 _ (nth_mem hjn)
      obtain ⟨bn, on, rfl, _, _, xn, _⟩ := IntS.opened HE.out hjn
      rw [eu] at xn
      have hul : u < (numL (List.replicate N.ends.length 0) 0 (pre ++ cc.walk.take j)).length := by rw [numL_length]; simpa using hun
      obtain ⟨d1, d2⟩ := IntS.at0 HO.out (j := u) hul
      have HNX := Lib.hid (show numL (List.replicate N.ends.length 0) 0 (pre ++ cc.walk.take (j + 1)) = (numL (List.replicate N.ends.length 0) 0 (pre ++ cc.walk.take j)).set u (a : Int) by
        rw [List.take_succ_eq_append_getElem hjn, ← nth_eq hjn, eu, ← List.append_assoc, numL_snoc, Int.toNat_natCast, List.length_append, List.length_take, Nat.min_eq_left hj, Nat.zero_add, ha])
      clear eu
      have hji : (j : Int) < cc.walk.length := by omega
      have hui : (u : Int) < N.ends.length := by omega
      obtain ⟨dv, HDV⟩ : ∃ x, Hid (nth (numL (List.replicate N.ends.length 0) 0 (pre ++ cc.walk.take j)) u = x) := ⟨_, Lib.hid rfl⟩
      rw [HDV.out] at d1
      have HS9 := Lib.hid (HO.out.set0 hul (a : Int))
      have ha2 : a ≤ 1640 := by omega
      clear hul ha
      go_wp2_with fail
      go_roundw
      case rel =>
        have hg9 : wt.grownBy (wt.setCell ⟨WA.heap.size, u, none⟩ (.int .i64 (a : Nat))) (some (WA.heap.size)) := grown_set _ _ _
        exact ⟨j + 1, a + 1, by omega, by go_num, by go_num, Lib.hid (by have := HA.out; omega), Lib.hid (by rw [HNX.out]; exact HS9.out), Lib.hid (CoS.far HX.out hg9 (fun g e => .inl (by cases e; omega))), Lib.hid (IntS.far HE.out hg9 (by omega) (fun g e => .inl (by cases e; omega))), Lib.hid (HF5.out.grown hg9 (fun g e => .inl (by cases e; omega)))⟩
      case measure => simp [intOf]; omega

end Go.Proofs.YtmdlginjblnfoaaGreat

/- Components in order, as the reference inserts them: the place of an insertion; the components of the first nodes, sorted. No condition on any program. -/
namespace Go.Proofs.YtmdlginjblnfoaaGreat
open Go.ChangeShapes Go.WideShapes Go.ChangeAt Go.RowKit
set_option linter.unusedVariables false

/-- the component x goes in at place a of l: it comes before none of those ahead of a, and before the one at a -/
structure InsAt (x : CmpD) (l : List CmpD) (a : Nat) : Prop where
  le : a ≤ l.length
  pre : ∀ j (h : j < l.length), j < a → ltL x.code l[j].code = false
  here : ∀ h : a < l.length, ltL x.code l[a].code = true
theorem insC_at {x : CmpD} : ∀ {l : List CmpD} {a : Nat}, InsAt x l a → insC x l = l.take a ++ [x] ++ l.drop a
  | [], a, h => by
    have : a = 0 := by have := h.le; simpa using this
    subst this; rfl
  | y :: l, 0, h => by
    have := h.here (by simp)
    simp only [List.getElem_cons_zero] at this
    simp [insC, this]
  | y :: l, a + 1, h => by
    have h0 := h.pre 0 (by simp) (by omega)
    simp only [List.getElem_cons_zero] at h0
    have ih := insC_at (x := x) (l := l) (a := a) ⟨by have := h.le; simpa using this, fun j hj hja => by have := h.pre (j + 1) (by simpa using hj) (by omega); simpa using this, fun hl => by have := h.here (by simpa using hl); simpa using this⟩
    simp only [insC, h0, Bool.false_eq_true, if_false, ih]
    simp
/-- the components of the nodes below k, sorted -/
def partsTo (N : NetD) (k : Nat) : List CmpD := insAll (stC N k).1
theorem partsTo_in {N : NetD} {k : Nat} (h : (k : Int) ∈ (stC N k).2) : partsTo N (k + 1) = partsTo N k := by
  unfold partsTo; simp only [stC]; rw [if_pos h]
theorem partsTo_new {N : NetD} {k : Nat} (h : ¬ (k : Int) ∈ (stC N k).2) : partsTo N (k + 1) = insC (compD N k) (partsTo N k) := by
  unfold partsTo; simp only [stC]; rw [if_neg h]
  unfold insAll
  rw [List.foldl_append]; rfl
theorem partsTo_len {N : NetD} : ∀ k, (partsTo N k).length ≤ k
  | 0 => Nat.le_refl _
  | k + 1 => by
    have ih := partsTo_len (N := N) k
    by_cases h : (k : Int) ∈ (stC N k).2
    · rw [partsTo_in h]; omega
    · rw [partsTo_new h, (insC_perm _ _).length_eq]; simp; omega
end Go.Proofs.YtmdlginjblnfoaaGreat

/- Memory of lists of components: the first of them, several more. No condition on any program. -/
namespace Go.Proofs.YtmdlginjblnfoaaGreat
open Go.ChangeShapes Go.WideShapes Go.ChangeAt Go.RowKit
set_option linter.unusedVariables false
section
variable {enc : CmpV → List Value} {k : Nat} {w w' : World} {base top : Nat} {e : TypeId} {v : Value} {xs ys : List CmpV}
theorem flat_take (hk : ∀ x, (enc x).length = k) : ∀ (xs : List CmpV) (a : Nat), (xs.flatMap enc).take (a * k) = (xs.take a).flatMap enc
  | [], a => by simp
  | x :: xs, 0 => by simp
  | x :: xs, a + 1 => by
    rw [List.flatMap_cons, List.take_succ_cons, List.flatMap_cons, List.take_append, hk, Nat.succ_mul, List.take_of_length_le (by rw [hk]; omega), show a * k + k - k = a * k by omega, flat_take hk xs a]
/-- the first a of them, in the same block -/
theorem CoS.first {A : Option Addr} {n c : Nat} (h : CoS enc k w base top e (.slice A n c) xs) (hk : ∀ x, (enc x).length = k) {a : Nat} (ha : a ≤ xs.length) : CoS enc k w base top e (.slice A a c) (xs.take a) := by
  obtain ⟨h1, h2⟩ := h.row
  have hl : (xs.take a).length = a := by rw [List.length_take]; omega
  have hob : (Value.slice A a c).ownBlock = (Value.slice A n c).ownBlock := by cases A <;> rfl
  refine ⟨⟨flat_len hk _, ?_⟩, h.low, h.high, fun g hg => h.own g (by rw [← hob]; exact hg), fun x hx => ?_⟩
  · rcases h2 with ⟨e1, e2⟩ | ⟨g, cap, cur, e1, r1, r2, r3, r4, r5, r6⟩
    · injection e1 with e1 _ e3
      subst e1 e3
      have : a = 0 := by omega
      subst this
      exact .inl ⟨rfl, hl⟩
    · injection e1 with e1 _ e3
      subst e1 e3
      refine .inr ⟨g, c, cur, by rw [hl], r1, r2, by omega, r4, r5, ?_⟩
      rw [hl, ← flat_take hk, ← r6, List.take_take, Nat.min_eq_left (Nat.mul_le_mul_right k ha)]
  · obtain ⟨lo, hi, b1, b2, b3, b4⟩ := h.el x (List.mem_of_mem_take hx)
    exact ⟨lo, hi, b1, b2, b3, fun g hg => b4 g (by rw [← hob]; exact hg)⟩
/-- several more -/
theorem CoS.app (h : CoS enc k w base top e v xs) {v' : Value} (hg : w.grownBy w' v.ownBlock) (hr : w'.ownsRow base e k v' (xs.length + ys.length) (xs.flatMap enc ++ ys.flatMap enc)) (hv : v'.ownBlock = v.ownBlock ∨ ∃ g, v'.ownBlock = some g ∧ w.heap.size ≤ g)
    (hy : ∀ y ∈ ys, ∃ lo hi, base ≤ lo ∧ hi ≤ w.heap.size ∧ ElOk w lo hi y ∧ ∀ g, v.ownBlock = some g → g < lo ∨ hi ≤ g) : CoS enc k w' base w'.heap.size e v' (xs ++ ys) := by
  have hs := hg.size
  have hlow := h.low
  have hhigh := h.high
  have hap : ∀ lo hi : Nat, hi ≤ w.heap.size → (∀ g, v.ownBlock = some g → g < lo ∨ hi ≤ g) → ∀ g, v'.ownBlock = some g → g < lo ∨ hi ≤ g := fun lo hi h1 h2 g hg2 => by
    rcases hv with e1 | ⟨g', e1, hg'⟩
    · exact h2 g (by rw [← e1]; exact hg2)
    · rw [e1] at hg2; injection hg2 with hg2; omega
  refine ⟨?_, by omega, Nat.le_refl _, fun g hg2 => (World.ownsRow.lt hr g hg2).2, fun y hy2 => ?_⟩
  · rw [List.length_append, List.flatMap_append]; exact hr
  · rw [List.mem_append] at hy2
    rcases hy2 with hy2 | hy2
    · obtain ⟨lo', hi', a1, a2, a3, a4⟩ := h.el y hy2
      exact ⟨lo', hi', a1, by omega, a3.far hg (by omega) a4, hap lo' hi' (by omega) a4⟩
    · obtain ⟨lo', hi', a1, a2, a3, a4⟩ := hy y hy2
      exact ⟨lo', hi', a1, by omega, a3.far hg a2 a4, hap lo' hi' a2 a4⟩
end
end Go.Proofs.YtmdlginjblnfoaaGreat

/- append of several components onto a row of the call's own. No condition on any program. -/
namespace Go.Proofs.YtmdlginjblnfoaaGreat
open Go.ChangeShapes Go.WideShapes Go.ChangeAt Go.RowKit
set_option linter.unusedVariables false
theorem ElOk.oneS {w : World} {lo hi : Nat} {x : CmpV} (h : ElOk w lo hi x) : ∀ u ∈ encS x, u.oneCell' = true := fun u hu => by
  obtain ⟨A1, c1, e1, _, _⟩ := h.code.dims
  obtain ⟨A2, c2, e2, _, _⟩ := h.walk.dims
  have hu' : u ∈ [x.vc, x.vw, .int .i64 (x.c.cnt : Nat)] := hu
  rw [e1, e2] at hu'
  simp only [List.mem_cons, List.not_mem_nil, or_false] at hu'
  rcases hu' with rfl | rfl | rfl <;> rfl
end Go.Proofs.YtmdlginjblnfoaaGreat

/- A row of components and a row of numbers that grow in turn, both of the call's own. No condition on any program. -/
namespace Go.Proofs.YtmdlginjblnfoaaGreat
open Go.ChangeShapes Go.WideShapes Go.ChangeAt Go.RowKit
set_option linter.unusedVariables false

structure CoX (enc : CmpV → List Value) (k : Nat) (w : World) (base top : Nat) (e : TypeId) (v : Value) (xs : List CmpV) (u : Value) (zs : List Int) : Prop where
  row : w.ownsRow base e k v xs.length (xs.flatMap enc)
  low : base ≤ top
  high : top ≤ w.heap.size
  own : ∀ g, v.ownBlock = some g → g < top
  num : OwnI w base 3 u zs
  ne : ∀ g, u.ownBlock = some g → v.ownBlock ≠ some g
  el : ∀ x ∈ xs, ∃ lo hi, base ≤ lo ∧ hi ≤ top ∧ ElOk w lo hi x ∧ (∀ g, v.ownBlock = some g → g < lo ∨ hi ≤ g) ∧ ∀ g, u.ownBlock = some g → g < lo ∨ hi ≤ g
section
variable {enc : CmpV → List Value} {k : Nat} {w w' : World} {base top : Nat} {e : TypeId} {v u : Value} {xs ys : List CmpV} {zs : List Int}
theorem CoX.co (h : CoX enc k w base top e v xs u zs) : CoS enc k w base top e v xs :=
  ⟨h.row, h.low, h.high, h.own, fun x hx => let ⟨lo, hi, a1, a2, a3, a4, _⟩ := h.el x hx; ⟨lo, hi, a1, a2, a3, a4⟩⟩
theorem CoX.nil (enc : CmpV → List Value) (k : Nat) (w : World) (base : Nat) (e : TypeId) (h : base ≤ w.heap.size) : CoX enc k w base base e (.slice none 0 0) [] (.slice none 0 0) [] :=
  ⟨World.ownsRow_nil w base e k, Nat.le_refl _, h, (fun g h => by cases h), OwnI.nil _ _ _, (fun g h => by cases h), (fun x h => by cases h)⟩
theorem CoX.lt (h : CoX enc k w base top e v xs u zs) : ∀ g, v.ownBlock = some g → base ≤ g ∧ g < top := h.co.lt
theorem CoX.far {row : Option Nat} (h : CoX enc k w base top e v xs u zs) (hg : w.grownBy w' row) (hr : ∀ g, row = some g → (g < base ∨ top ≤ g) ∧ u.ownBlock ≠ some g) : CoX enc k w' base top e v xs u zs := by
  have hc := h.co.far hg (fun g e => (hr g e).1)
  refine ⟨hc.row, h.low, hc.high, h.own, h.num.kept hg ?_, h.ne, fun x hx => ?_⟩
  · cases hu : u.ownBlock with
    | none => exact .inl rfl
    | some g => right; intro e2; exact (hr g e2.symm).2 hu
  · obtain ⟨lo, hi, a1, a2, a3, a4, a5⟩ := h.el x hx
    exact ⟨lo, hi, a1, a2, a3.far hg (by have := h.high; omega) (fun g hg2 => by have := (hr g hg2).1; omega), a4, a5⟩
theorem CoX.still (h : CoX enc k w base top e v xs u zs) (hg : w.grownBy w' none) : CoX enc k w' base top e v xs u zs := h.far hg (fun g e => by cases e)
theorem CoX.mono (h : CoX enc k w base top e v xs u zs) {top' : Nat} (h1 : top ≤ top') (h2 : top' ≤ w.heap.size) : CoX enc k w base top' e v xs u zs :=
  ⟨h.row, Nat.le_trans h.low h1, h2, fun g hg => Nat.lt_of_lt_of_le (h.own g hg) h1, h.num, h.ne, fun x hx => let ⟨lo, hi, a1, a2, a3⟩ := h.el x hx; ⟨lo, hi, a1, Nat.le_trans a2 h1, a3⟩⟩
/-- the numbers have grown -/
theorem CoX.more (h : CoX enc k w base top e v xs u zs) {u' : Value} {zs' : List Int} (hg : w.grownBy w' u.ownBlock) (ho : OwnI w' base 3 u' zs') (hv : u'.ownBlock = u.ownBlock ∨ ∃ g, u'.ownBlock = some g ∧ w.heap.size ≤ g) : CoX enc k w' base top e v xs u' zs' := by
  have hs := hg.size
  have hhigh := h.high
  have hapv : v.ownBlock = none ∨ v.ownBlock ≠ u.ownBlock := by
    cases e1 : v.ownBlock with
    | none => exact .inl rfl
    | some g => right; intro e2; exact h.ne g e2.symm e1
  refine ⟨World.ownsRow.kept h.row hg hapv, h.low, by omega, h.own, ho, fun g hg2 hv2 => ?_, fun x hx => ?_⟩
  · rcases hv with e1 | ⟨g', e1, hg'⟩
    · exact h.ne g (by rw [← e1]; exact hg2) hv2
    · rw [e1] at hg2; injection hg2 with hg2; have := h.own g hv2; omega
  · obtain ⟨lo, hi, a1, a2, a3, a4, a5⟩ := h.el x hx
    refine ⟨lo, hi, a1, a2, a3.far hg (by omega) a5, a4, fun g hg2 => ?_⟩
    rcases hv with e1 | ⟨g', e1, hg'⟩
    · exact a5 g (by rw [← e1]; exact hg2)
    · rw [e1] at hg2; injection hg2 with hg2; omega
/-- the first a of them, in the same block -/
theorem CoX.first {A : Option Addr} {n c : Nat} (h : CoX enc k w base top e (.slice A n c) xs u zs) (hk : ∀ x, (enc x).length = k) {a : Nat} (ha : a ≤ xs.length) : CoX enc k w base top e (.slice A a c) (xs.take a) u zs := by
  have hc := h.co.first hk ha
  have hob : (Value.slice A a c).ownBlock = (Value.slice A n c).ownBlock := by cases A <;> rfl
  refine ⟨hc.row, hc.low, hc.high, hc.own, h.num, fun g hg => by rw [hob]; exact h.ne g hg, fun x hx => ?_⟩
  obtain ⟨lo, hi, a1, a2, a3, a4, a5⟩ := h.el x (List.mem_of_mem_take hx)
  exact ⟨lo, hi, a1, a2, a3, fun g hg => a4 g (by rw [← hob]; exact hg), a5⟩
/-- several more components -/
theorem CoX.app (h : CoX enc k w base top e v xs u zs) {v' : Value} (hg : w.grownBy w' v.ownBlock) (hr : w'.ownsRow base e k v' (xs.length + ys.length) (xs.flatMap enc ++ ys.flatMap enc)) (hv : v'.ownBlock = v.ownBlock ∨ ∃ g, v'.ownBlock = some g ∧ w.heap.size ≤ g)
    (hy : ∀ y ∈ ys, ∃ lo hi, base ≤ lo ∧ hi ≤ w.heap.size ∧ ElOk w lo hi y ∧ (∀ g, v.ownBlock = some g → g < lo ∨ hi ≤ g) ∧ ∀ g, u.ownBlock = some g → g < lo ∨ hi ≤ g) : CoX enc k w' base w'.heap.size e v' (xs ++ ys) u zs := by
  have hs := hg.size
  have hlow := h.low
  have hhigh := h.high
  have hc := h.co.app hg hr hv (fun y hy2 => let ⟨lo, hi, a1, a2, a3, a4, _⟩ := hy y hy2; ⟨lo, hi, a1, a2, a3, a4⟩)
  have hap : ∀ lo hi : Nat, hi ≤ w.heap.size → (∀ g, v.ownBlock = some g → g < lo ∨ hi ≤ g) → ∀ g, v'.ownBlock = some g → g < lo ∨ hi ≤ g := fun lo hi h1 h2 g hg2 => by
    rcases hv with e1 | ⟨g', e1, hg'⟩
    · exact h2 g (by rw [← e1]; exact hg2)
    · rw [e1] at hg2; injection hg2 with hg2; omega
  refine ⟨hc.row, hc.low, hc.high, hc.own, h.num.kept hg ?_, fun g hg2 hv2 => ?_, fun y hy2 => ?_⟩
  · cases hu : u.ownBlock with
    | none => exact .inl rfl
    | some g => right; intro e2; exact h.ne g hu e2.symm
  · rcases hv with e1 | ⟨g', e1, hg'⟩
    · exact h.ne g hg2 (by rw [← e1]; exact hv2)
    · rw [e1] at hv2; injection hv2 with hv2; have := (h.num.lt g hg2).2; omega
  · rw [List.mem_append] at hy2
    rcases hy2 with hy2 | hy2
    · obtain ⟨lo', hi', a1, a2, a3, a4, a5⟩ := h.el y hy2
      exact ⟨lo', hi', a1, by omega, a3.far hg (by omega) a4, hap lo' hi' (by omega) a4, a5⟩
    · obtain ⟨lo', hi', a1, a2, a3, a4, a5⟩ := hy y hy2
      exact ⟨lo', hi', a1, by omega, a3.far hg a2 a4, hap lo' hi' a2 a4, a5⟩
end
/-- append of several numbers, and where the row lies -/
theorem append_intsA {P : Program} {ops : Array Oper} {rest : List Oper} {o : Oper} {a : Act} {Q : Exit → Act → World → Prop} {t e : TypeId} {bytes : Nat}
    (ht : P.underlying t = some (.slice e)) (hinfo : (P.info? e).map (fun i => (i.zero, i.size, i.bytes)) = some (some (.int .i64 0), 1, bytes)) (hby : bytes ≤ 64)
    (w : World) (hgd : o.guard = none) {s : Operand} (x : Operand) (ho : o.op = .call { callee := .builtin .append, args := #[s, x], argTypes := #[t, t] })
    {base : Nat} {v : Value} {zs : List Int} (hown : OwnI w base e v zs) (hs : a.eval s = v) {g off m c : Nat} (ys : List Int) (hm : ys.length = m) (hx : a.eval x = .slice (some ⟨g, off, none⟩) m c)
    (hcell : ∀ j, j < m → w.cell? ⟨g, off + j, none⟩ = some (.int .i64 (nth ys j))) (hlen : zs.length + m ≤ 1099511627776) (hbase : base ≤ w.heap.size)
    (h : ∀ v' w', OwnI w' base e v' (zs ++ ys) → w.grownBy w' v.ownBlock → (v'.ownBlock = v.ownBlock ∨ ∃ g, v'.ownBlock = some g ∧ w.heap.size ≤ g) → wpList P ops Q rest (a.put o.dst v') w') :
    wpList P ops Q (o :: rest) a w := by
  refine append_row ht hinfo rfl (by omega) hby w hgd x ho hown hs (ys.map (Value.int .i64)) hx (by simp [hm]) ?_ ?_ (by simpa using hlen) hbase fun v' w' a1 a2 a3 => h v' w' ?_ a2 (a3.imp id fun e => ⟨_, e, Nat.le_refl _⟩)
  · intro j u hj
    have hjl : j < ys.length := by have := (List.getElem?_eq_some_iff.1 hj).1; simpa using this
    rw [List.getElem?_map, nth_get? hjl] at hj
    rw [show (⟨g, off, none⟩ : Addr).add j = ⟨g, off + j, none⟩ from Go.WideShapes.add_plain g off j, hcell j (by omega)]
    exact hj
  · intro u hu
    obtain ⟨z, _, rfl⟩ := List.mem_map.1 hu
    rfl
  · unfold OwnI Own
    rw [List.map_append]
    simpa [hm] using a1
theorem flat_drop {enc : CmpV → List Value} {k : Nat} (hk : ∀ x, (enc x).length = k) : ∀ (xs : List CmpV) (a : Nat), (xs.flatMap enc).drop (a * k) = (xs.drop a).flatMap enc
  | [], a => by simp
  | x :: xs, 0 => by simp
  | x :: xs, a + 1 => by
    rw [List.flatMap_cons, List.drop_succ_cons, Nat.succ_mul, List.drop_append, hk, List.drop_eq_nil_of_le (by rw [hk]; omega), show a * k + k - k = a * k by omega, flat_drop hk xs a, List.nil_append]
/-- the cells of the last ones -/
theorem CoS.news {enc : CmpV → List Value} {k : Nat} {w : World} {base top : Nat} {e : TypeId} {b n c : Nat} {xs : List CmpV} (h : CoS enc k w base top e (.slice (some ⟨b, 0, none⟩) n c) xs) (hk : ∀ x, (enc x).length = k) {a : Nat} :
    ∀ j u, ((xs.drop a).flatMap enc)[j]? = some u → w.cell? ⟨b, a * k + j, none⟩ = some u := fun j u hj => by
  obtain ⟨h1, h2⟩ := h.row
  rcases h2 with ⟨e1, _⟩ | ⟨g, cap, cur, e1, r1, r2, r3, r4, r5, r6⟩
  · cases e1
  · injection e1 with e1 _ _
    injection e1 with e1
    injection e1 with e1 _ _
    subst e1
    rw [← flat_drop hk, List.getElem?_drop] at hj
    have hlt : a * k + j < xs.length * k := by rw [← h1]; exact (List.getElem?_eq_some_iff.1 hj).1
    rw [← r6, List.getElem?_take_of_lt hlt] at hj
    rw [cell_of_row w b _ cur e (0, 0) r2]
    simpa using hj
theorem CoX.none_ {enc : CmpV → List Value} {k : Nat} {w : World} {base top : Nat} {e : TypeId} {n c : Nat} {xs : List CmpV} {u : Value} {zs : List Int} (h : CoX enc k w base top e (.slice none n c) xs u zs) : n = 0 ∧ c = 0 ∧ xs.length = 0 := by
  obtain ⟨h1, h2⟩ := h.row
  rcases h2 with ⟨e1, e2⟩ | ⟨g, cap, cur, e1, _⟩
  · injection e1 with _ e3 e4; exact ⟨e3, e4, e2⟩
  · cases e1
theorem CoX.some_ {enc : CmpV → List Value} {k : Nat} {w : World} {base top : Nat} {e : TypeId} {ad : Addr} {n c : Nat} {xs : List CmpV} {u : Value} {zs : List Int} (h : CoX enc k w base top e (.slice (some ad) n c) xs u zs) : ∃ b, ad = ⟨b, 0, none⟩ ∧ base ≤ b ∧ b < top := by
  obtain ⟨h1, h2⟩ := h.row
  rcases h2 with ⟨e1, e2⟩ | ⟨g, cap, cur, e1, r1, _⟩
  · cases e1
  · injection e1 with e1 _ _
    injection e1 with e1
    subst e1
    exact ⟨g, rfl, r1, h.own g rfl⟩
end Go.Proofs.YtmdlginjblnfoaaGreat

/- l1Put, node after node over a list without repeats: the list, sorted. No condition on any program. -/
namespace Go.Proofs.YtmdlginjblnfoaaGreat
open Go.ChangeShapes Go.WideShapes Go.ChangeAt Go.RowKit
set_option linter.unusedVariables false
theorem after_put (v : Int) : ∀ (S : List Int), S.Pairwise (· < ·) → v ∉ S → ∀ y ∈ S.dropWhile (fun y => decide (y < v)), v < y
  | [], _, _, y, hy => by simp at hy
  | z :: S, hs, hv, y, hy => by
    rw [List.pairwise_cons] at hs
    rw [List.dropWhile_cons] at hy
    by_cases h : z < v
    · rw [if_pos (by simpa using h)] at hy
      exact after_put v S hs.2 (fun h => hv (List.mem_cons_of_mem _ h)) y hy
    · rw [if_neg (by simpa using h)] at hy
      have hne : z ≠ v := fun e => hv (by simp [e])
      rcases List.mem_cons.1 hy with rfl | hy
      · omega
      · have := hs.1 y hy; omega
theorem before_put (v : Int) : ∀ (S : List Int), ∀ y ∈ S.takeWhile (fun y => decide (y < v)), y < v
  | [], y, hy => by simp at hy
  | z :: S, y, hy => by
    rw [List.takeWhile_cons] at hy
    by_cases h : z < v
    · rw [if_pos (by simpa using h)] at hy
      rcases List.mem_cons.1 hy with rfl | hy
      · exact h
      · exact before_put v S y hy
    · rw [if_neg (by simpa using h)] at hy; cases hy
theorem put_parts (S : List Int) (v : Int) : S.take (putK S v) = S.takeWhile (fun y => decide (y < v)) ∧ S.drop (putK S v) = S.dropWhile (fun y => decide (y < v)) := by
  have h := List.takeWhile_append_dropWhile (p := fun y => decide (y < v)) (l := S)
  unfold putK
  constructor
  · conv => lhs; arg 2; rw [← h]
    rw [List.take_left']; rfl
  · conv => lhs; arg 2; rw [← h]
    rw [List.drop_left']; rfl
theorem put_sort {U : List Int} {v : Int} (hn : U.Nodup) (hv : v ∉ U) : putL (sortI U) v = sortI (U ++ [v]) := by
  have hp := sortI_perm U
  have hvs : v ∉ sortI U := fun h => hv (hp.mem_iff.1 h)
  have hss : (sortI U).Pairwise (· < ·) := (List.Pairwise.and (sortI_sorted U) (hp.nodup_iff.2 hn)).imp fun h => by omega
  have hne : ¬ (putK (sortI U) v < (sortI U).length ∧ nth (sortI U) (putK (sortI U) v) = v) := fun h => hvs (by rw [← h.2]; exact nth_mem h.1)
  obtain ⟨e1, e2⟩ := put_parts (sortI U) v
  have heq : putL (sortI U) v = (sortI U).takeWhile (fun y => decide (y < v)) ++ [v] ++ (sortI U).dropWhile (fun y => decide (y < v)) := by unfold putL; rw [if_neg hne, e1, e2]
  rw [heq]
  have hbefore : ∀ y ∈ (sortI U).takeWhile (fun y => decide (y < v)), y < v := before_put v (sortI U)
  have hafter := after_put v (sortI U) hss hvs
  have hsplit := List.takeWhile_append_dropWhile (p := fun y => decide (y < v)) (l := sortI U)
  have hpw : ((sortI U).takeWhile (fun y => decide (y < v)) ++ (sortI U).dropWhile (fun y => decide (y < v))).Pairwise (· < ·) := by rw [hsplit]; exact hss
  rw [List.pairwise_append] at hpw
  apply List.Perm.eq_of_pairwise (le := (· ≤ ·)) (fun a b _ _ h1 h2 => by omega)
  · rw [List.pairwise_append, List.pairwise_append]
    refine ⟨⟨hpw.1.imp fun h => by omega, by simp, fun a ha b hb => ?_⟩, hpw.2.1.imp fun h => by omega, fun a ha b hb => ?_⟩
    · simp at hb; subst hb; have := hbefore a ha; omega
    · have h2 := hafter b hb
      rcases List.mem_append.1 ha with ha | ha
      · have := hbefore a ha; omega
      · simp at ha; subst ha; omega
  · exact sortI_sorted _
  · refine List.Perm.trans ?_ (sortI_perm (U ++ [v])).symm
    rw [List.append_assoc]
    refine List.Perm.trans (List.Perm.append_left _ List.perm_append_comm) ?_
    rw [← List.append_assoc, hsplit]
    exact hp.append_right _
theorem put_take {L : List Int} (hn : L.Nodup) {j : Nat} (hj : j < L.length) : putL (sortI (L.take j)) (nth L j) = sortI (L.take (j + 1)) := by
  have e : L.take (j + 1) = L.take j ++ [nth L j] := by rw [List.take_succ_eq_append_getElem hj, ← nth_eq hj]
  have h : (L.take (j + 1)).Nodup := hn.sublist (List.take_sublist _ _)
  rw [e] at h
  rw [e, put_sort (hn.sublist (List.take_sublist _ _))]
  intro hm
  rw [List.nodup_append] at h
  exact h.2.2 _ hm _ (by simp) rfl
end Go.Proofs.YtmdlginjblnfoaaGreat

/- Contract of the reference's l1Put. -/
namespace Go.Proofs.YtmdlginjblnfoaaGreat
open Go.ChangeShapes Go.WideShapes Go.ChangeAt Go.RowKit
set_option linter.unusedVariables false

set_option maxHeartbeats 4000000 in
set_option maxRecDepth 100000 in
theorem l1Put_any (v : Value) (zs : List Int) (x : Int) (base : Nat) (w : World) (h : OwnI w base 3 v zs) (hb : base ≤ w.heap.size) (hz : zs.length ≤ 1048576) :
    Calls Tryz.prog 39 #[v, .int .i64 x] w fun e w' => ∃ r, e = .returned r ∧ OwnI w' base 3 r (putL zs x) ∧ Below w.heap.size w w' := by
  have HO := Lib.hid h
  have HI := Lib.hid h.ints
  obtain ⟨i0, hi0, hzz0⟩ := Option.map_eq_some_iff.1 Tryz.info3
  rcases h.2 with ⟨rfl, hn⟩ | ⟨g, cap, cur, rfl, hg, hh, hn, hm, hs, ht⟩
  · -- nothing there yet
    have hnil : zs = [] := by simpa using hn
    subst hnil
    clear h hzz0 hn
    go_enter Tryz.func39, Tryz.ntmps39
    go_wp2_with fail
    go_loop [5] (fun c => c = .int .i64 0) (fun c => 0)
    case atStart => rfl
    case round =>
      obtain rfl := hrel
      have HE := Lib.hid (OwnI.empty w w.heap.size 3 rfl (Nat.le_refl _))
      go_wp2_with (first | (at_builtin; refine wpList_append_own_none (w := w.alloc (.cells #[] 3)) rfl (.tmp 34) (.tmp 37) 23 rfl w.heap.size 3 i0 1 Tryz.underlying23 hi0 _ _ _ rfl HE.out rfl ?_) | (at_builtin; refine append_int (s := .tmp 39) Tryz.underlying23 Tryz.info3 (by decide) (w.alloc (.cells #[] 3)) rfl _ rfl HE.out x _ rfl (by simp [Act.eval, go_sem]) (by simp) (by simp) ?_; intro v' w' ho' hg' hat'; have HO' := Lib.hid ho') | (at_builtin; refine wpList_append_own_none rfl (.tmp 43) (.tmp 46) 23 rfl w.heap.size 3 i0 1 Tryz.underlying23 hi0 _ _ _ rfl HO'.out rfl ?_))
      obtain ⟨Av, cv, rfl, _, _⟩ := HO'.out.ints.dims
      go_ret
      refine ⟨_, rfl, HO'.out.lower hb, ?_⟩
      exact (below_a1 w _).grown hg' (by simp) fun g hg => by have := HE.out.lt g hg; omega
  · have hcap : zs.length ≤ cap := by simpa using hn
    have hcap2 : cap ≤ 9223372036854775807 := hm
    have hgw : g < w.heap.size := (Array.getElem?_eq_some_iff.1 hh).1
    have hl : (zs.map (Value.int .i64)).length = zs.length := by simp
    simp only [List.length_map] at HO HI ⊢
    clear h hzz0 hn hm hs ht hh hl
    go_enter Tryz.func39, Tryz.ntmps39
    go_wp2_with fail
    go_loop [5] (fun c => ∃ k : Nat, c = .int .i64 k ∧ k ≤ zs.length ∧ Hid (∀ j, j < k → nth zs j < x)) (fun c => zs.length - (intOf c).toNat)
    case atStart => exact ⟨0, rfl, Nat.zero_le _, Lib.hid fun j hj => absurd hj (by omega)⟩
    case round =>
      obtain ⟨k, rfl, hk, HU⟩ := hrel
      by_cases hlt : k < zs.length
      case neg =>
        obtain rfl : k = zs.length := by omega
        by_cases hc : cap = zs.length
        · subst hc
          have HK := Lib.hid (putK_is (Nat.le_refl _) HU.out (fun h => absurd h (by omega)))
          have hk2 : zs.length ≤ zs.length := by omega
          have W1C := Lib.hid (fun j (hj : j < zs.length) => show (w.alloc (.cells #[] 3)).cell? ⟨g, 0 + j, none⟩ = some (.int .i64 (nth (zs.take zs.length) j)) by rw [(below_a1 w (.cells #[] 3)).cell (p := ⟨g, 0 + j, none⟩) (by show g < _; omega), nth_take hj]; exact (HI.out.at_ (by omega)).1)
          have HE := Lib.hid (OwnI.empty w w.heap.size 3 rfl (Nat.le_refl _))
          have hbw1 := below_a1 w (.cells #[] 3)
          have htl : (zs.take zs.length).length = zs.length := by rw [List.length_take]; omega
          have hdl : (zs.drop zs.length).length = 0 := by simp
          have HTL := Lib.hid htl
          have HDL := Lib.hid hdl
          clear htl hdl
          go_wp2_with (first
            | (at_builtin; refine append_ints (s := .tmp 34) Tryz.underlying23 Tryz.info3 (by decide) (w.alloc (.cells #[] 3)) rfl (.tmp 37) rfl HE.out rfl (g := g) (off := 0) (zs.take zs.length) HTL.out rfl W1C.out (by simp; omega) (by simp) ?_; intro v1 w1 ho1 hg1; have hb1 : Below w.heap.size w w1 := hbw1.grown hg1 (by simp) (fun g hg => by have := HE.out.lt g hg; omega); have HO1 := Lib.hid ho1; have hz1 := hb1.size)
            | (at_builtin; refine append_int (s := .tmp 39) Tryz.underlying23 Tryz.info3 (by decide) w1 rfl _ rfl HO1.out x _ rfl (by simp [Act.eval, go_sem]) (by rw [List.nil_append, HTL.out]; omega) (by omega) ?_; intro v2 w2 ho2 hg2 _; have hb2 : Below w.heap.size w w2 := hb1.grown hg2 (by omega) (fun g hg => by have := HO1.out.lt g hg; omega); have HO2 := Lib.hid ho2; have hz2 := hb2.size; have HC3 := Lib.hid (fun j (hj : j < 0) => show w2.cell? ⟨g, 0 + j, none⟩ = some (.int .i64 (nth (zs.drop zs.length) j)) by omega))
            | (at_builtin; refine append_ints (s := .tmp 43) Tryz.underlying23 Tryz.info3 (by decide) w2 rfl (.tmp 46) rfl HO2.out rfl (g := g) (off := 0) (zs.drop zs.length) HDL.out rfl HC3.out (by rw [List.length_append, List.length_append, HTL.out]; simp; omega) (by omega) ?_; intro v3 w3 ho3 hg3; have hb3 : Below w.heap.size w w3 := hb2.grown hg3 (by omega) (fun g hg => by have := HO2.out.lt g hg; omega); have HO3 := Lib.hid ho3))
          obtain ⟨Av, cv, rfl, _, _⟩ := HO3.out.ints.dims
          go_ret
          refine ⟨_, rfl, ?_, hb3⟩
          have e : putL zs x = ([] ++ zs.take zs.length) ++ [x] ++ zs.drop zs.length := by unfold putL; rw [HK.out, if_neg (by omega)]; simp
          rw [e]
          exact HO3.out.lower hb
        · have hc2 : zs.length < cap := by omega
          have HK := Lib.hid (putK_is (Nat.le_refl _) HU.out (fun h => absurd h (by omega)))
          have hk2 : zs.length ≤ zs.length := by omega
          have W1C := Lib.hid (fun j (hj : j < zs.length) => show (w.alloc (.cells #[] 3)).cell? ⟨g, 0 + j, none⟩ = some (.int .i64 (nth (zs.take zs.length) j)) by rw [(below_a1 w (.cells #[] 3)).cell (p := ⟨g, 0 + j, none⟩) (by show g < _; omega), nth_take hj]; exact (HI.out.at_ (by omega)).1)
          have HE := Lib.hid (OwnI.empty w w.heap.size 3 rfl (Nat.le_refl _))
          have hbw1 := below_a1 w (.cells #[] 3)
          have htl : (zs.take zs.length).length = zs.length := by rw [List.length_take]; omega
          have hdl : (zs.drop zs.length).length = 0 := by simp
          have HTL := Lib.hid htl
          have HDL := Lib.hid hdl
          clear htl hdl
          go_wp2_with (first
            | (at_builtin; refine append_ints (s := .tmp 34) Tryz.underlying23 Tryz.info3 (by decide) (w.alloc (.cells #[] 3)) rfl (.tmp 37) rfl HE.out rfl (g := g) (off := 0) (zs.take zs.length) HTL.out rfl W1C.out (by simp; omega) (by simp) ?_; intro v1 w1 ho1 hg1; have hb1 : Below w.heap.size w w1 := hbw1.grown hg1 (by simp) (fun g hg => by have := HE.out.lt g hg; omega); have HO1 := Lib.hid ho1; have hz1 := hb1.size)
            | (at_builtin; refine append_int (s := .tmp 39) Tryz.underlying23 Tryz.info3 (by decide) w1 rfl _ rfl HO1.out x _ rfl (by simp [Act.eval, go_sem]) (by rw [List.nil_append, HTL.out]; omega) (by omega) ?_; intro v2 w2 ho2 hg2 _; have hb2 : Below w.heap.size w w2 := hb1.grown hg2 (by omega) (fun g hg => by have := HO1.out.lt g hg; omega); have HO2 := Lib.hid ho2; have hz2 := hb2.size; have HC3 := Lib.hid (fun j (hj : j < 0) => show w2.cell? ⟨g, zs.length + j, none⟩ = some (.int .i64 (nth (zs.drop zs.length) j)) by rw [hb2.cell (p := ⟨g, zs.length + j, none⟩) (by show g < _; omega), nth_drop]; have := (HI.out.at_ (j := zs.length + j) (by omega)).1; rwa [Nat.zero_add] at this))
            | (at_builtin; refine append_ints (s := .tmp 43) Tryz.underlying23 Tryz.info3 (by decide) w2 rfl (.tmp 46) rfl HO2.out rfl (g := g) (off := zs.length) (zs.drop zs.length) HDL.out rfl HC3.out (by rw [List.length_append, List.length_append, HTL.out]; simp; omega) (by omega) ?_; intro v3 w3 ho3 hg3; have hb3 : Below w.heap.size w w3 := hb2.grown hg3 (by omega) (fun g hg => by have := HO2.out.lt g hg; omega); have HO3 := Lib.hid ho3))
          obtain ⟨Av, cv, rfl, _, _⟩ := HO3.out.ints.dims
          go_ret
          refine ⟨_, rfl, ?_, hb3⟩
          have e : putL zs x = ([] ++ zs.take zs.length) ++ [x] ++ zs.drop zs.length := by unfold putL; rw [HK.out, if_neg (by omega)]; simp
          rw [e]
          exact HO3.out.lower hb
      obtain ⟨x1, _⟩ := HI.out.at0 hlt
      obtain ⟨y, HY⟩ : ∃ y, Hid (nth zs k = y) := ⟨_, Lib.hid rfl⟩
      rw [HY.out] at x1
      by_cases hy : y < x
      · go_wp2_with fail
        go_round
        case rel =>
          refine ⟨k + 1, by go_num, by omega, Lib.hid fun j hj => ?_⟩
          by_cases e : j = k
          · rw [e, HY.out]; exact hy
          · exact HU.out j (by omega)
        case measure => simp [intOf]; omega
      by_cases he : y = x
      · have he' : (y == x) = true := by simpa using he
        have HE2 := Lib.hid he; clear he
        go_wp2_with fail
        go_ret
        refine ⟨_, rfl, ?_, Below.refl _ _⟩
        have hk2 := putK_is hk HU.out (fun _ => by rw [HY.out]; omega)
        have e : putL zs x = zs := by unfold putL; rw [hk2, if_pos ⟨hlt, by rw [HY.out, HE2.out]⟩]
        rw [e]
        exact HO.out
      have he' : (y == x) = false := by simpa using he
      have HE2 := Lib.hid he; clear he
      have HK := Lib.hid (putK_is hk HU.out (fun _ => by rw [HY.out]; omega))
      have hk2 : k ≤ zs.length := by omega
      have W1C := Lib.hid (fun j (hj : j < k) => show (w.alloc (.cells #[] 3)).cell? ⟨g, 0 + j, none⟩ = some (.int .i64 (nth (zs.take k) j)) by rw [(below_a1 w (.cells #[] 3)).cell (p := ⟨g, 0 + j, none⟩) (by show g < _; omega), nth_take hj]; exact (HI.out.at_ (by omega)).1)
      have HE := Lib.hid (OwnI.empty w w.heap.size 3 rfl (Nat.le_refl _))
      have hbw1 := below_a1 w (.cells #[] 3)
      have htl : (zs.take k).length = k := by rw [List.length_take]; omega
      have hdl : (zs.drop k).length = zs.length - k := List.length_drop
      have HTL := Lib.hid htl
      have HDL := Lib.hid hdl
      clear htl hdl
      go_wp2_with (first
        | (at_builtin; refine append_ints (s := .tmp 34) Tryz.underlying23 Tryz.info3 (by decide) (w.alloc (.cells #[] 3)) rfl (.tmp 37) rfl HE.out rfl (g := g) (off := 0) (zs.take k) HTL.out rfl W1C.out (by simp; omega) (by simp) ?_; intro v1 w1 ho1 hg1; have hb1 : Below w.heap.size w w1 := hbw1.grown hg1 (by simp) (fun g hg => by have := HE.out.lt g hg; omega); have HO1 := Lib.hid ho1; have hz1 := hb1.size)
        | (at_builtin; refine append_int (s := .tmp 39) Tryz.underlying23 Tryz.info3 (by decide) w1 rfl _ rfl HO1.out x _ rfl (by simp [Act.eval, go_sem]) (by rw [List.nil_append, HTL.out]; omega) (by omega) ?_; intro v2 w2 ho2 hg2 _; have hb2 : Below w.heap.size w w2 := hb1.grown hg2 (by omega) (fun g hg => by have := HO1.out.lt g hg; omega); have HO2 := Lib.hid ho2; have hz2 := hb2.size; have HC3 := Lib.hid (fun j (hj : j < zs.length - k) => show w2.cell? ⟨g, k + j, none⟩ = some (.int .i64 (nth (zs.drop k) j)) by rw [hb2.cell (p := ⟨g, k + j, none⟩) (by show g < _; omega), nth_drop]; have := (HI.out.at_ (j := k + j) (by omega)).1; rwa [Nat.zero_add] at this))
        | (at_builtin; refine append_ints (s := .tmp 43) Tryz.underlying23 Tryz.info3 (by decide) w2 rfl (.tmp 46) rfl HO2.out rfl (g := g) (off := k) (zs.drop k) HDL.out rfl HC3.out (by rw [List.length_append, List.length_append, HTL.out]; simp; omega) (by omega) ?_; intro v3 w3 ho3 hg3; have hb3 : Below w.heap.size w w3 := hb2.grown hg3 (by omega) (fun g hg => by have := HO2.out.lt g hg; omega); have HO3 := Lib.hid ho3))
      obtain ⟨Av, cv, rfl, _, _⟩ := HO3.out.ints.dims
      go_ret
      refine ⟨_, rfl, ?_, hb3⟩
      have e : putL zs x = ([] ++ zs.take k) ++ [x] ++ zs.drop k := by unfold putL; rw [HK.out, if_neg (fun h => HE2.out (by rw [← HY.out]; exact h.2))]; simp
      rw [e]
      exact HO3.out.lower hb

end Go.Proofs.YtmdlginjblnfoaaGreat

/- Contracts: equality of two slices of numbers, of two slices of such slices. -/
namespace Go.Proofs.YtmdlginjblnfoaaGreat
open Go.ChangeShapes Go.WideShapes Go.ChangeAt Go.RowKit
set_option linter.unusedVariables false

set_option maxHeartbeats 1000000 in
set_option maxRecDepth 100000 in
theorem l1Same_any (v1 v2 : Value) (a b : List Int) (lo1 hi1 lo2 hi2 : Nat) (w : World) (h1 : IntS w lo1 hi1 v1 a) (h2 : IntS w lo2 hi2 v2 b) (hh1 : hi1 ≤ w.heap.size) (hh2 : hi2 ≤ w.heap.size) :
    Calls Tryz.prog 41 #[v1, v2] w fun e w' => e = .returned (.bool (decide (a = b))) ∧ Below w.heap.size w w' := by
  obtain ⟨A, c, rfl, hc1, hc2, hcell⟩ := h1.form
  obtain ⟨A2, c2, rfl, hd1, hd2, hcell2⟩ := h2.form
  have HC := Lib.hid hcell; have HC2 := Lib.hid hcell2
  clear hcell hcell2 h1 h2
  unfold maxLen at hc2 hd2
  obtain ⟨m, HM⟩ : ∃ m, Hid (a.length = m) := ⟨_, Lib.hid rfl⟩
  obtain ⟨m2, HM2⟩ : ∃ m, Hid (b.length = m) := ⟨_, Lib.hid rfl⟩
  rw [HM.out] at hc1 ⊢
  rw [HM2.out] at hd1 ⊢
  by_cases hl : m = m2
  case neg =>
    have hl' : ((m : Int) != (m2 : Int)) = true := by simp; omega
    have HN := Lib.hid (show decide (a = b) = false from decide_eq_false (fun e => hl (by rw [← HM.out, ← HM2.out, e])))
    clear hl
    go_enter Tryz.func41, Tryz.ntmps41
    go_wp2_with fail
    go_ret
    exact ⟨ret_bool HN.out.symm, Below.refl _ _⟩
  have hl' : ((m : Int) != (m2 : Int)) = false := by simp; omega
  have HL := Lib.hid hl; clear hl
  go_enter Tryz.func41, Tryz.ntmps41
  go_wp2_with fail
  go_loopw [13] (fun i wr => ∃ k : Nat, k ≤ m ∧ i = .int .i64 k ∧ Hid (Below w.heap.size w wr) ∧ Hid (∀ j, j < k → nth a j = nth b j)) (fun i _ => m - (intOf i).toNat)
  case atStart => exact ⟨0, Nat.zero_le _, rfl, Lib.hid (Below.refl _ _), Lib.hid fun j hj => absurd hj (by omega)⟩
  case round =>
    obtain ⟨k, hk, rfl, HB, HU⟩ := hrel
    by_cases hlt : k < m
    case neg =>
      obtain rfl : k = m := by omega
      go_wp2_with fail
      go_ret
      exact ⟨ret_bool (decide_eq_true (ext_nth (by rw [HM.out, HM2.out, HL.out]) (by rw [HM.out]; exact HU.out))).symm, HB.out⟩
    obtain ⟨x, o, hA, _, hx2, hcs⟩ := HC.out (by rw [HM.out]; omega)
    obtain ⟨y, o2, hA2, _, hy2, hcs2⟩ := HC2.out (by rw [HM2.out]; have := HL.out; omega)
    subst hA hA2
    have hk2 : k < m2 := by have := HL.out; omega
    have p1 := (HB.out.cell (p := ⟨x, o + k, none⟩) (by show x < _; omega)).trans (hcs k (by rw [HM.out]; exact hlt)).1
    have p2 := (HB.out.cell (p := ⟨y, o2 + k, none⟩) (by show y < _; omega)).trans (hcs2 k (by rw [HM2.out]; exact hk2)).1
    clear hcs hcs2
    obtain ⟨z1, HZ1⟩ : ∃ z, Hid (nth a k = z) := ⟨_, Lib.hid rfl⟩
    obtain ⟨z2, HZ2⟩ : ∃ z, Hid (nth b k = z) := ⟨_, Lib.hid rfl⟩
    rw [HZ1.out] at p1
    rw [HZ2.out] at p2
    have hkm : (k : Int) < (m : Int) := by omega
    have hkm2 : (k : Int) < (m2 : Int) := by omega
    by_cases hz : z1 = z2
    · have hz' : (z1 != z2) = false := by simp [hz]
      have HZ := Lib.hid hz; clear hz
      go_wp2_with fail
      go_quiet (fail)
      go_wp2_with fail
      go_roundw
      case rel =>
        refine ⟨k + 1, by omega, by go_num, Lib.hid (below_drewN HB.out _), Lib.hid fun j hj => ?_⟩
        by_cases e : j = k
        · rw [e, HZ1.out, HZ2.out, HZ.out]
        · exact HU.out j (by omega)
      case measure => simp [intOf]; omega
    · have hz' : (z1 != z2) = true := by simp [hz]
      have HN := Lib.hid (show decide (a = b) = false from decide_eq_false (fun e => hz (by rw [← HZ1.out, ← HZ2.out, e])))
      clear hz
      go_wp2_with fail
      go_quiet (fail)
      go_wp2_with fail
      go_ret
      exact ⟨ret_bool HN.out.symm, below_drewN HB.out _⟩

end Go.Proofs.YtmdlginjblnfoaaGreat
