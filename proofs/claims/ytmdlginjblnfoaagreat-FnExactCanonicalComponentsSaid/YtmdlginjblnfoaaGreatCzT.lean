/-
  Several texts in one: Cnw, Bss, KeA, SSet2, Grow, KeC. No condition on any program.
-/
import Derived.Test.YtmdlginjblnfoaaGreatCzQ
import Derived.Test.YtmdlginjblnfoaaGreatCzR
import Derived.Test.YtmdlginjblnfoaaGreatCzH
import Derived.Test.YtmdlginjblnfoaaGreatCzS
import Derived.Test.YtmdlginjblnfoaaGreatCzL
import Derived.Test.YtmdlginjblnfoaaGreatCzA
import Derived.Test.YtmdlginjblnfoaaGreatCzO
import Derived.Test.YtmdlginjblnfoaaGreatCzJ
import Derived.Test.YtmdlginjblnfoaaGreatCzK
import Derived.Test.YtmdlginjblnfoaaGreatCzE
import Derived.Test.YtmdlginjblnfoaaGreatCzF

/- Contracts: CanonicalNetwork, program and reference. -/
namespace Go.Proofs.YtmdlginjblnfoaaGreat
open Go.ChangeShapes Go.WideShapes Go.ChangeAt Go.RowKit
set_option linter.unusedVariables false

theorem canonL_len (N : NetD) : (canonL N).length = N.ends.length := by unfold canonL; rw [ordTo_numL, numL_length]; simp
theorem canonL_at {N : NetD} (hg : N.good = true) : ∀ j, j < N.ends.length → ∃ t : Nat, nth (canonL N) j = t ∧ t < N.ends.length := fun j hj => by
  obtain ⟨hp, hl, hall⟩ := flat_pick hg
  obtain ⟨q, hq, e⟩ := (pick_mem hp).1 (hall j hj)
  exact ⟨q, by rw [canonL_to]; exact toOf_at hp hq e, by rw [← hl]; exact hq⟩
/-- the canonical network -/
def canonN (N : NetD) : NetD := renN N (canonL N)
theorem canonN_part {N : NetD} (hg : N.good = true) : canonN N = partN N (flatN N) kpT := by
  obtain ⟨hp, hl, hall⟩ := flat_pick hg
  unfold canonN
  rw [canonL_to]
  exact ren_part hg hp hl hall
theorem canonN_good {N : NetD} (hg : N.good = true) : (canonN N).good = true := by
  obtain ⟨hp, hl, hall⟩ := flat_pick hg
  have := good_n hg
  rw [canonN_part hg]
  exact part_good hg hp (Shut.keep hg hp (all_shut hall)) (by omega) (by omega)
def noNet : NetD := ⟨[], [], []⟩
theorem Net.none (w : World) (lo hi : Nat) : Net w lo hi (.agg #[.slice none 0 0, .slice none 0 0, .slice none 0 0]) noNet := ⟨_, _, _, rfl, SS.nil _ _ _, IntS.nil _ _ _, IntS.nil _ _ _⟩
/-- a network that can be marked: its rows, ids and inputs apart, in one of two orders -/
def NetY (w : World) (lo hi : Nat) (v : Value) (N : NetD) : Prop := NetX w lo hi v N ∨ NetZ w lo hi v N
theorem NetY.none (w : World) {lo hi : Nat} (h : lo ≤ hi) : NetY w lo hi (.agg #[.slice none 0 0, .slice none 0 0, .slice none 0 0]) noNet :=
  .inl ⟨_, _, _, lo, lo, rfl, Nat.le_refl _, Nat.le_refl _, h, ⟨fun _ => undef, Sl.nil _ _ _ _ _, fun i hi => absurd hi (by simp [noNet]), fun i j _ hj => absurd hj (by simp [noNet]), fun i hi => absurd hi (by simp [noNet])⟩, IntS.nil _ _ _, IntS.nil _ _ _⟩
section
variable {w w' : World} {lo hi lo' hi' B l2 h2 : Nat} {v : Value} {N : NetD}
theorem NetY.net (h : NetY w lo hi v N) : Net w lo hi v N := by
  rcases h with h | h
  · exact h.net
  · exact h.net
theorem NetY.below (h : NetY w lo hi v N) (hb : Below B w w') (hB : hi ≤ B) : NetY w' lo hi v N := by
  rcases h with h | h
  · exact .inl (NetX.below h hb hB)
  · exact .inr (NetZ.below h hb hB)
theorem NetY.turned (h : NetY w lo hi v N) (hb : Turned l2 h2 w w') (hB : hi ≤ w.heap.size) (hd : hi ≤ l2 ∨ h2 ≤ lo) : NetY w' lo hi v N := by
  rcases h with h | h
  · exact .inl (NetX.turned h hb hB hd)
  · exact .inr (NetZ.turned h hb hB hd)
end

theorem isOrderS_any (v1 : Value) (N : NetD) (lo1 hi1 : Nat) (w : World) (h1 : Net w lo1 hi1 v1 N) (hh1 : hi1 ≤ w.heap.size) (hg : N.good = true) :
    Calls Tryz.prog 36 #[v1] w fun e w' => ∃ r, e = .returned r ∧ IntS w' w.heap.size w'.heap.size r (canonL N) ∧ Below w.heap.size w w' :=
  isOrder_spec v1 N lo1 hi1 w h1 hh1 hg (fun v N lo hi w h hh hg => isParts_any v N lo hi w h hh hg)

set_option maxHeartbeats 4000000 in
set_option maxRecDepth 100000 in
theorem isCanon_any (v1 : Value) (N : NetD) (lo1 hi1 : Nat) (w : World) (h1 : Net w lo1 hi1 v1 N) (hh1 : hi1 ≤ w.heap.size) (hg : N.good = true) :
    Calls Tryz.prog 16 #[v1] w fun e w' => ∃ r, e = .returned (r) ∧ NetZ w' w.heap.size w'.heap.size r (canonN N) ∧ Below w.heap.size w w' := by
  obtain ⟨n1, n40⟩ := good_n hg
  have HG := Lib.hid hg; clear hg
  have F1 := Lib.hid h1
  obtain ⟨A1, c1, A1', c1', A1'', c1'', rfl, hc1, hd1, _⟩ := h1.parts
  obtain ⟨b1, o1, _, _, rfl, _⟩ := Net.rowAt F1.out (u := 0) (by omega)
  clear h1
  obtain ⟨WA, HWA⟩ : ∃ W, Hid (W = ((w.alloc (.cells #[.slice (some ⟨b1, o1, none⟩) N.ends.length c1, .slice A1' N.ids.length c1', .slice A1'' N.inputs.length c1''] 32)).alloc (.cells #[.slice none 0 0, .slice none 0 0, .slice none 0 0] 32))) := ⟨_, Lib.hid rfl⟩
  have hbA : Below w.heap.size w WA := by rw [HWA.out]; exact (((Below.refl _ _).alloc (Nat.le_refl _) _).alloc (by simp; try omega) _)
  have hsA : w.heap.size + 2 ≤ WA.heap.size := by rw [HWA.out]; simp; try omega
  have bx1 : BoxN WA (w.heap.size) #[.slice (some ⟨b1, o1, none⟩) N.ends.length c1, .slice A1' N.ids.length c1', .slice A1'' N.inputs.length c1''] 32 := by rw [HWA.out]; exact ((BoxN.new' _ _ _ (by simp)).still (grown_alloc _ _))
  have bxx0 : BoxN WA (w.heap.size + 1) #[.slice none 0 0, .slice none 0 0, .slice none 0 0] 32 := by rw [HWA.out]; exact (BoxN.new' _ _ _ (by simp))
  have G1 := Lib.hid (Net.below F1.out hbA hh1); clear F1
  go_enter Tryz.func16, Tryz.ntmps16
  go_upto_region 1 with (fail)
  rw [← HWA.out]; clear HWA
  go_wp2_with fail
  refine wp_region_U (fun w' => w'.cell? ⟨w.heap.size, 0, none⟩ = some (.slice (some ⟨b1, o1, none⟩) N.ends.length c1) ∧ w'.cell? ⟨w.heap.size, 1, none⟩ = some (.slice A1' N.ids.length c1') ∧ w'.cell? ⟨w.heap.size, 2, none⟩ = some (.slice A1'' N.inputs.length c1'')) [4] (by kernel_rfl) ?_
  refine nameU ?_
  intro W1 HW1
  have hg1 : WA.grownBy W1 none := by rw [HW1.out]; exact grown_drew _
  clear HW1
  have hs1 := hg1.size
  have HF1 := Lib.hid ((Turned.refl WA.heap.size WA.heap.size WA).still hg1)
  have hS2 : W1.cell? ⟨w.heap.size, 0, none⟩ = some (.slice (some ⟨b1, o1, none⟩) N.ends.length c1) ∧ W1.cell? ⟨w.heap.size, 1, none⟩ = some (.slice A1' N.ids.length c1') ∧ W1.cell? ⟨w.heap.size, 2, none⟩ = some (.slice A1'' N.inputs.length c1'') := ⟨(HF1.out.boxN bx1 (by omega)).cell 0 (by simp), (HF1.out.boxN bx1 (by omega)).cell 1 (by simp), (HF1.out.boxN bx1 (by omega)).cell 2 (by simp)⟩
  refine anyU_take (i := 0) (v := .agg #[.slice (some ⟨b1, o1, none⟩) N.ends.length c1, .slice A1' N.ids.length c1', .slice A1'' N.inputs.length c1'']) rfl (by kernel_rfl) (by kernel_rfl) (by kernel_rfl) (fun _ _ _ h => h) ⟨by rfl, fun w' hS' => (by obtain ⟨s1, s2, s3⟩ := hS'; go_simp)⟩ hS2 ?_
  simp only [List.getElem_toArray, List.getElem_cons_zero, Act.put, List.setIfInBounds_toArray, List.set_cons_zero, List.set_cons_succ]
  refine anyU_take (i := 1) (v := .agg #[.slice (some ⟨b1, o1, none⟩) N.ends.length c1, .slice A1' N.ids.length c1', .slice A1'' N.inputs.length c1'']) rfl (by kernel_rfl) (by kernel_rfl) (by kernel_rfl) (fun _ _ _ h => h) ⟨by rfl, fun w' hS' => (by obtain ⟨s1, s2, s3⟩ := hS'; go_simp)⟩ hS2 ?_
  simp only [List.getElem_toArray, List.getElem_cons_succ, List.getElem_cons_zero, Act.put, List.setIfInBounds_toArray, List.set_cons_zero, List.set_cons_succ]
  refine anyU_ready (rs := [2]) (by kernel_rfl) (by simp) ?_
  refine ReadyU.cons (i := 2) rfl (fun K hK => ?_) ReadyU.nil
  simp only [List.getElem_toArray, List.getElem_cons_succ, List.getElem_cons_zero]
  refine ite_is (by rfl) ?_
  simp [go_sem]
  refine (isOrderS_any _ N lo1 hi1 _ (Net.turned G1.out HF1.out (by omega) (by omega)) (by omega) HG.out).mono ?_
  rintro e W3 ⟨ro, rfl, hro, hb3⟩
  have hg3 := grown_below hb3; clear hb3
  have hs3 := hg3.size
  have HF3 := Lib.hid (HF1.out.still hg3); clear HF1
  have HOR := Lib.hid hro; clear hro
  obtain ⟨Ao, co, rfl, hco, hdo⟩ := HOR.out.dims
  have hS4 : W3.cell? ⟨w.heap.size, 0, none⟩ = some (.slice (some ⟨b1, o1, none⟩) N.ends.length c1) ∧ W3.cell? ⟨w.heap.size, 1, none⟩ = some (.slice A1' N.ids.length c1') ∧ W3.cell? ⟨w.heap.size, 2, none⟩ = some (.slice A1'' N.inputs.length c1'') := ⟨(HF3.out.boxN bx1 (by omega)).cell 0 (by simp), (HF3.out.boxN bx1 (by omega)).cell 1 (by simp), (HF3.out.boxN bx1 (by omega)).cell 2 (by simp)⟩
  refine hK.out _ _ ⟨fun _ => hS4, ?_⟩
  clear hK K hS2
  try simp only [List.getElem_toArray, List.getElem_cons_succ, List.getElem_cons_zero, Act.put, List.setIfInBounds_toArray, List.set_cons_zero, List.set_cons_succ]
  refine anyU_ready (rs := [3]) (by kernel_rfl) (by simp) ?_
  refine ReadyU.cons (i := 3) rfl (fun K hK => ?_) ReadyU.nil
  simp only [List.getElem_toArray, List.getElem_cons_succ, List.getElem_cons_zero]
  refine ite_is (by rfl) ?_
  simp [go_sem]
  refine (neRenumber_any _ N lo1 hi1 _ (canonL N) _ _ _ (Net.turned G1.out HF3.out (by omega) (by omega)) (by omega) HOR.out (by omega) HG.out (canonL_len N) (canonL_at HG.out)).mono ?_
  rintro e W5 ⟨rm, rfl, hrm, hb5⟩
  have hg5 := grown_below hb5; clear hb5
  have hs5 := hg5.size
  have HF5 := Lib.hid (HF3.out.still hg5); clear HF3
  obtain ⟨Q, HQ⟩ : ∃ Q, Hid (renN N (canonL N) = Q) := ⟨_, Lib.hid rfl⟩
  rw [HQ.out] at hrm
  obtain ⟨A5, c5, A6, c6, A7, c7, rfl, hc5, hd5, _⟩ := hrm.net.parts
  have HM := Lib.hid hrm; clear hrm
  have hS6 : W5.cell? ⟨w.heap.size, 0, none⟩ = some (.slice (some ⟨b1, o1, none⟩) N.ends.length c1) ∧ W5.cell? ⟨w.heap.size, 1, none⟩ = some (.slice A1' N.ids.length c1') ∧ W5.cell? ⟨w.heap.size, 2, none⟩ = some (.slice A1'' N.inputs.length c1'') := ⟨(HF5.out.boxN bx1 (by omega)).cell 0 (by simp), (HF5.out.boxN bx1 (by omega)).cell 1 (by simp), (HF5.out.boxN bx1 (by omega)).cell 2 (by simp)⟩
  refine hK.out _ _ ⟨fun _ => hS6, ?_⟩
  clear hK K hS4
  try simp only [List.getElem_toArray, List.getElem_cons_succ, List.getElem_cons_zero, Act.put, List.setIfInBounds_toArray, List.set_cons_zero, List.set_cons_succ]
  have HBR : Hid (BoxN W5 (w.heap.size + 1) #[.slice none 0 0, .slice none 0 0, .slice none 0 0] 32) := Lib.hid (HF5.out.boxN bxx0 (by omega))
  have kr0 : W5.cell? ⟨w.heap.size + 1, 0, none⟩ = some (.slice none 0 0) := HBR.out.cell 0 (by simp)
  have krf0 := HBR.out.frozen 0
  have kr1 : W5.cell? ⟨w.heap.size + 1, 1, none⟩ = some (.slice none 0 0) := HBR.out.cell 1 (by simp)
  have krf1 := HBR.out.frozen 1
  have kr2 : W5.cell? ⟨w.heap.size + 1, 2, none⟩ = some (.slice none 0 0) := HBR.out.cell 2 (by simp)
  have krf2 := HBR.out.frozen 2
  refine anyU_ready (rs := [4]) (by kernel_rfl) (by simp) ?_
  refine ReadyU.cons (i := 4) rfl (fun K hK => ?_) ReadyU.nil
  simp only [List.getElem_toArray, List.getElem_cons_succ, List.getElem_cons_zero]
  refine ite_is (by rfl) ?_
  simp [go_sem, kr0, kr1, kr2, krf0, krf1, krf2]
  refine hK.out _ _ ⟨fun h => absurd h (by decide), ?_⟩
  clear hK K
  try simp only [List.getElem_toArray, List.getElem_cons_succ, List.getElem_cons_zero, Act.put, List.setIfInBounds_toArray, List.set_cons_zero, List.set_cons_succ]
  refine nameU ?_
  intro W7 HW7
  have hg7 : W5.grownBy W7 (some (w.heap.size + 1)) := by rw [HW7.out]; exact grownBy_setCell (p := ⟨w.heap.size + 1, 2, none⟩) (grownBy_setCell (p := ⟨w.heap.size + 1, 1, none⟩) (grown_set _ ⟨w.heap.size + 1, 0, none⟩ _) rfl _) rfl _
  have hs7 := hg7.size
  have HRB := Lib.hid (show BoxN W7 (w.heap.size + 1) #[.slice A5 Q.ends.length c5, .slice A6 Q.ids.length c6, .slice A7 Q.inputs.length c7] 32 by rw [HW7.out]; exact (((HBR.out.set 0 _).set 1 _).set 2 _))
  have HBL := Lib.hid ((HF5.out.below_of hbA (by omega) (by omega)).grown hg7 (by omega) fun g e => by cases e; omega)
  have HMM := Lib.hid (NetZ.turned HM.out ((Turned.refl (w.heap.size + 1) (w.heap.size + 1 + 1) W5).grown hg7 (fun g e => .inl (by cases e; omega))) (by omega) (.inr (by omega)))
  clear HW7 kr0 kr1 kr2 krf0 krf1 krf2 HBR
  clear hS6
  refine anyU_done (by kernel_rfl) ?_ _
  go_wp2_with fail
  ((try simp only [Exit.inBlock, Exit.then]); refine bodyPost_ret (results_cell1 rfl _ _ _ rfl (load_net HRB.out)) rfl ?_)
  exact ⟨_, rfl, by unfold canonN; rw [HQ.out]; exact NetZ.mono HMM.out (by omega) (by omega) (Nat.le_refl _), HBL.out⟩

end Go.Proofs.YtmdlginjblnfoaaGreat

/- Slices of slices of booleans that a call owns and appends rows to; a place of one, and what a store leaves. No condition on any program. -/
namespace Go.Proofs.YtmdlginjblnfoaaGreat
open Go.RowKit
set_option linter.unusedVariables false
abbrev BoolSSx := SSx BoolS

/-- v is a slice of slices that reads as xss; its own row lies from block base on; its rows lie one behind the other, from base on and below top -/
def OwnBS (w : World) (base top : Nat) (e : TypeId) (v : Value) (xss : List (List Bool)) : Prop :=
  ∃ (vs : List Value) (lo hi : Nat → Nat), vs.length = xss.length ∧ Own w base e v vs ∧ base ≤ top ∧ top ≤ w.heap.size ∧
    (∀ j, j < xss.length → ∃ u, vs[j]? = some u ∧ base ≤ lo j ∧ hi j ≤ top ∧ BoolS w (lo j) (hi j) u (nthL xss j) ∧ ∀ g, v.ownBlock = some g → g < lo j ∨ hi j ≤ g) ∧
    ∀ i j, i < j → j < xss.length → hi i ≤ lo j


section
variable {w w' : World} {base top : Nat} {e : TypeId} {v : Value} {xss : List (List Bool)}
theorem OwnBS.nil (w : World) (base top : Nat) (e : TypeId) (h1 : base ≤ top) (h2 : top ≤ w.heap.size) : OwnBS w base top e (.slice none 0 0) [] :=
  ⟨[], fun _ => 0, fun _ => 0, rfl, Own.nil _ _ _, h1, h2, fun j hj => absurd hj (by simp), fun i j _ hj => absurd hj (by simp)⟩
theorem OwnBS.below (h : OwnBS w base top e v xss) (hb : Below w.heap.size w w') : OwnBS w' base top e v xss := by
  obtain ⟨vs, lo, hi, h1, h2, h3, h4, h5, h6⟩ := h
  refine ⟨vs, lo, hi, h1, h2.kept (row := none) ⟨hb.os, hb.tape, hb.output, hb.size, fun k hk _ => hb.block k hk⟩ (by cases hv : v.ownBlock with
    | none => exact .inl rfl
    | some g => right; simp), h3, Nat.le_trans h4 hb.size, fun j hj => ?_, h6⟩
  obtain ⟨u, a1, a2, a3, a4, a5⟩ := h5 j hj
  exact ⟨u, a1, a2, a3, a4.below hb (by omega), a5⟩
theorem OwnBS.alloc (h : OwnBS w base top e v xss) (o : Obj) : OwnBS (w.alloc o) base top e v xss := h.below ((Below.refl _ _).alloc (Nat.le_refl _) o)
theorem OwnBS.drew (h : OwnBS w base top e v xss) : OwnBS w.drew base top e v xss := h
theorem OwnBS.drewN (h : OwnBS w base top e v xss) (k : Nat) : OwnBS (w.drewN k) base top e v xss := h
theorem OwnBS.len (h : OwnBS w base top e v xss) : ∃ A c, v = .slice A xss.length c ∧ xss.length ≤ c ∧ c ≤ maxLen := by
  obtain ⟨vs, lo, hi, h1, h2, _⟩ := h
  obtain ⟨A, c, e, a1, a2, _⟩ := h2.form
  exact ⟨A, c, by rw [e, h1], by omega, a2⟩
theorem OwnBS.lt (h : OwnBS w base top e v xss) : ∀ k, v.ownBlock = some k → base ≤ k ∧ k < w.heap.size := by
  obtain ⟨vs, lo, hi, h1, h2, _⟩ := h
  exact h2.lt
theorem OwnBS.mono (h : OwnBS w base top e v xss) {top' : Nat} (h1 : top ≤ top') (h2 : top' ≤ w.heap.size) : OwnBS w base top' e v xss := by
  obtain ⟨vs, lo, hi, a1, a2, a3, a4, a5, a6⟩ := h
  refine ⟨vs, lo, hi, a1, a2, by omega, h2, fun j hj => ?_, a6⟩
  obtain ⟨u, b1, b2, b3, b4, b5⟩ := a5 j hj
  exact ⟨u, b1, b2, by omega, b4, b5⟩
theorem OwnBS.ssx (h : OwnBS w base top e v xss) : BoolSSx w base w.heap.size v xss := by
  obtain ⟨vs, lo, hi, h1, h2, h3, h4, h5, h6⟩ := h
  have hsl : Sl w base w.heap.size 1 v xss.length (fun j => vs.getD j undef) := by
    have := Sl.of_own (f := fun j => vs.getD j undef) h2 (fun j hj => by simp at hj; simp [hj])
    rwa [h1] at this
  have hr : ∀ j, j < xss.length → BoolS w (lo j) (hi j) (vs.getD j undef) (nthL xss j) ∧ base ≤ lo j ∧ hi j ≤ top ∧ ∀ g, v.ownBlock = some g → g < lo j ∨ hi j ≤ g := fun j hj => by
    obtain ⟨u, a1, a2, a3, a4, a5⟩ := h5 j hj
    have : vs.getD j undef = u := by simp [a1]
    rw [this]
    exact ⟨a4, a2, a3, a5⟩
  refine ⟨fun j => vs.getD j undef, hsl, fun i hi' => (hr i hi').1.mono (hr i hi').2.1 (by have := (hr i hi').2.2.1; omega), fun i j hij hj => ?_, fun i hi' => ?_⟩
  · obtain ⟨a1, _⟩ := hr i (by omega)
    obtain ⟨b1, _⟩ := hr j hj
    rcases Sl.row a1 with e1 | ⟨g1, e1, c1, c2⟩
    · exact .inl e1
    · right
      rw [e1]
      rcases Sl.row b1 with e2 | ⟨g2, e2, d1, d2⟩
      · rw [e2]; simp
      · rw [e2]; intro e3; injection e3 with e3; have := h6 i j hij hj; omega
  · obtain ⟨a1, _, _, a2⟩ := hr i hi'
    rcases Sl.row a1 with e1 | ⟨g1, e1, c1, c2⟩
    · exact .inl e1
    · right
      rw [e1]
      unfold rowOf
      rw [if_neg (by omega)]
      intro e3
      have := a2 g1 e3.symm
      omega
end

/-- append of one row onto a slice of slices of the call's own, the row's slice just laid in a block of its own -/
theorem append_bs {P : Program} {ops : Array Oper} {rest : List Oper} {o : Oper} {a : Act} {Q : Exit → Act → World → Prop} {t e : TypeId} {bytes : Nat}
    (ht : P.underlying t = some (.slice e)) (hinfo : (P.info? e).map (fun i => (i.zero, i.size, i.bytes)) = some (some (.slice none 0 0), 1, bytes)) (hby : bytes ≤ 64)
    (w : World) (hgd : o.guard = none) {s : Operand} (x : Operand) (ho : o.op = .call { callee := .builtin .append, args := #[s, x], argTypes := #[t, t] })
    {base top : Nat} {v : Value} {xss : List (List Bool)} (hown : OwnBS w base top e v xss) {u : Value} {xs : List Bool} {lo hi : Nat} (hu : BoolS w lo hi u xs) (hlo : top ≤ lo) (hhi : hi ≤ w.heap.size) (hlh : lo ≤ hi) (hfar : ∀ g, v.ownBlock = some g → g < lo ∨ hi ≤ g)
    (te : TypeId) (hs : a.eval s = v) (hx : a.eval x = .slice (some ⟨w.heap.size, 0, none⟩) 1 1) (hlen : xss.length < 1099511627776)
    (h : ∀ v' w', OwnBS w' base hi e v' (xss ++ [xs]) → w.grownBy w' v.ownBlock → (v'.ownBlock = v.ownBlock ∨ v'.ownBlock = some (w.heap.size + 1)) → wpList P ops Q rest (a.put o.dst v') w') :
    wpList P ops Q (o :: rest) a (w.alloc (.cells #[u] te)) := by
  obtain ⟨vs, los, his, h1, h2, h3, h4, h5, h6⟩ := hown
  obtain ⟨A, c, rfl⟩ := (show ∃ A c, u = .slice A xs.length c from let ⟨A, c, e, _⟩ := hu; ⟨A, c, e⟩)
  refine append1 ht hinfo rfl hby w hgd x ho h2 _ te hs hx rfl (by omega) (by omega) fun v' w' ho' hg' hat' => h v' w' ?_ hg' hat'
  have hgs := hg'.size
  have hold : ∀ j, j < xss.length → ∃ u, vs[j]? = some u ∧ base ≤ los j ∧ his j ≤ top ∧ BoolS w' (los j) (his j) u (nthL xss j) ∧ ∀ g, v'.ownBlock = some g → g < los j ∨ his j ≤ g := fun j hj => by
    obtain ⟨u, a1, a2, a3, a4, a5⟩ := h5 j hj
    refine ⟨u, a1, a2, a3, a4.far hg' (by omega) a5, fun g hg => ?_⟩
    rcases hat' with e1 | e1
    · exact a5 g (by rw [← e1]; exact hg)
    · rw [e1] at hg; injection hg with hg; omega
  refine ⟨vs ++ [.slice A xs.length c], fun j => if j < xss.length then los j else lo, fun j => if j < xss.length then his j else hi, by simp [h1], ho', by omega, by omega, fun j hj => ?_, fun i j hij hj => ?_⟩
  · dsimp only
    by_cases e1 : j < xss.length
    · obtain ⟨u, a1, a2, a3, a4, a5⟩ := hold j e1
      rw [if_pos e1, if_pos e1, nthL_append_left e1]
      exact ⟨u, by rw [List.getElem?_append_left (by omega)]; exact a1, a2, by omega, a4, a5⟩
    · obtain rfl : j = xss.length := by simp at hj; omega
      rw [if_neg e1, if_neg e1, nthL_append_at]
      refine ⟨.slice A xs.length c, by rw [← h1]; simp, by omega, Nat.le_refl _, hu.far hg' hhi hfar, fun g hg => ?_⟩
      rcases hat' with e2 | e2
      · exact hfar g (by rw [← e2]; exact hg)
      · rw [e2] at hg; injection hg with hg; omega
  · dsimp only
    rw [if_pos (by simp at hj; omega)]
    by_cases e1 : j < xss.length
    · rw [if_pos e1]; exact h6 i j hij e1
    · rw [if_neg e1]
      obtain ⟨u, _, _, a3, _⟩ := h5 i (by simp at hj; omega)
      omega

theorem OwnBS.far {w w' : World} {base top : Nat} {e : TypeId} {v : Value} {xss : List (List Bool)} {row : Option Nat} (h : OwnBS w base top e v xss) (hg : w.grownBy w' row) (hr : ∀ g, row = some g → g < base) : OwnBS w' base top e v xss := by
  obtain ⟨vs, lo, hi, h1, h2, h3, h4, h5, h6⟩ := h
  refine ⟨vs, lo, hi, h1, h2.kept hg ?_, h3, Nat.le_trans h4 hg.size, fun j hj => ?_, h6⟩
  · cases hv : v.ownBlock with
    | none => exact .inl rfl
    | some g =>
      right
      intro e
      have := (h2.lt g hv).1
      have := hr g e.symm
      omega
  · obtain ⟨u, a1, a2, a3, a4, a5⟩ := h5 j hj
    exact ⟨u, a1, a2, a3, a4.far hg (by omega) (fun g e => .inl (by have := hr g e; omega)), a5⟩



/-- one boolean of a list of lists replaced -/
def setAtB (xss : List (List Bool)) (a i : Nat) (z : Bool) : List (List Bool) := xss.set a ((nthL xss a).set i z)
theorem setAtB_length (xss : List (List Bool)) (a i : Nat) (z : Bool) : (setAtB xss a i z).length = xss.length := by simp [setAtB]
theorem nthL_setAtB {xss : List (List Bool)} {a : Nat} (ha : a < xss.length) (i : Nat) (z : Bool) (j : Nat) : nthL (setAtB xss a i z) j = if j = a then (nthL xss a).set i z else nthL xss j := nthL_set ha _ _
theorem setAtB_row (xss : List (List Bool)) {a : Nat} (ha : a < xss.length) (i : Nat) (z : Bool) (j : Nat) : (nthL (setAtB xss a i z) j).length = (nthL xss j).length := by
  rw [nthL_setAtB ha]
  by_cases e : j = a
  · rw [if_pos e, List.length_set, e]
  · rw [if_neg e]
/-- a place of a slice of slices whose rows lie apart: its cells, and what a store leaves -/
theorem BSSx.place {w : World} {lo hi n c : Nat} {A : Option Addr} {xss : List (List Bool)} (h : BoolSSx w lo hi (.slice A n c) xss) (hh : hi ≤ w.heap.size) {a i : Nat} (ha : a < xss.length) (hi' : i < (nthL xss a).length) :
    ∃ b off b2 o2 c2, A = some ⟨b, off, none⟩ ∧ lo ≤ b ∧ b < hi ∧ lo ≤ b2 ∧ b2 < hi ∧ w.cell? ⟨b, off + a, none⟩ = some (.slice (some ⟨b2, o2, none⟩) (nthL xss a).length c2) ∧ (nthL xss a).length ≤ c2 ∧ c2 ≤ 9223372036854775807 ∧
      w.cell? ⟨b2, o2 + i, none⟩ = some (.bool (nthB (nthL xss a) i)) ∧ w.frozen? ⟨b2, o2 + i, none⟩ = false ∧ ∀ z, BoolSSx (w.setCell ⟨b2, o2 + i, none⟩ (.bool z)) lo hi (.slice A n c) (setAtB xss a i z) := by
  obtain ⟨vs, h1, h2, h3, h4⟩ := h
  have hrow := h2 a ha
  obtain ⟨A2, c2, e2, k1, k2⟩ := BoolS.dims hrow
  rw [e2] at hrow
  obtain ⟨b2, o2, rfl, l1, l2, x1, x2⟩ := BoolS.opened hrow hi'
  have htop := h1
  obtain ⟨A', c', e, m1, m2, m3⟩ := h1
  injection e with e3 e4 e5
  subst e3 e5
  obtain ⟨b, off, rfl, n1, n2, n3⟩ := m3 (by omega)
  have hva : w.cell? ⟨b, off + a, none⟩ = some (vs a) := (n3 a (by omega)).1
  rw [e2] at hva
  refine ⟨b, off, b2, o2, c2, rfl, n1, n2, l1, l2, hva, k1, k2, x1, x2, fun z => ?_⟩
  have hra : rowOf (nthL xss a).length (vs a) = some b2 := by rw [e2]; exact rowOf_some (by omega)
  have hg : w.grownBy (w.setCell ⟨b2, o2 + i, none⟩ (.bool z)) (some b2) := grown_set w ⟨b2, o2 + i, none⟩ _
  have hlen : ∀ j, (nthL (setAtB xss a i z) j).length = (nthL xss j).length := setAtB_row xss ha i z
  refine ⟨vs, ?_, fun j hj => ?_, fun j k hjk hk => ?_, fun j hj => ?_⟩
  · rw [setAtB_length]
    refine Sl.grown htop hg hh ?_
    have := h4 a ha
    rw [hra] at this
    rcases this with t | t
    · cases t
    · exact .inr fun e => t e.symm
  · rw [setAtB_length] at hj
    rw [nthL_setAtB ha]
    by_cases ej : j = a
    · subst ej
      rw [if_pos rfl, e2]
      exact hrow.set hi' z
    · rw [if_neg ej]
      refine Sl.grown (h2 j hj) hg hh ?_
      rw [← hra]
      by_cases hlt : j < a
      · exact h3 j a hlt ha
      · rcases h3 a j (by omega) hj with t | t
        · rw [hra] at t; cases t
        · exact .inr fun e => t e.symm
  · rw [setAtB_length] at hk
    rw [hlen j, hlen k]
    exact h3 j k hjk hk
  · rw [setAtB_length] at hj ⊢
    rw [hlen j]
    exact h4 j hj


theorem BSSx.far {w w' : World} {lo hi : Nat} {v : Value} {xss : List (List Bool)} {row : Option Nat} (h : BoolSSx w lo hi v xss) (hg : w.grownBy w' row) (hB : hi ≤ w.heap.size) (hr : ∀ g, row = some g → g < lo ∨ hi ≤ g) : BoolSSx w' lo hi v xss :=
  SSx.keep (fun h => BoolS.far h hg hB hr) h fun k h1 h2 => hg.block k (by omega) (fun e => by have := hr k e.symm; omega)
theorem BSSx.still {w w' : World} {lo hi : Nat} {v : Value} {xss : List (List Bool)} (h : BoolSSx w lo hi v xss) (hg : w.grownBy w' none) (hB : hi ≤ w.heap.size) : BoolSSx w' lo hi v xss := BSSx.far h hg hB (no_row _ _)
theorem BSSx.below {B : Nat} {w w' : World} {lo hi : Nat} {v : Value} {xss : List (List Bool)} (h : BoolSSx w lo hi v xss) (hb : Below B w w') (hB : hi ≤ B) : BoolSSx w' lo hi v xss := SSx.keep (fun h => BoolS.below h hb hB) h fun k _ hk => hb.block k (by omega)
theorem BSSx.turned {w w' : World} {l2 h2 lo hi : Nat} {v : Value} {xss : List (List Bool)} (h : BoolSSx w lo hi v xss) (hb : Turned l2 h2 w w') (hB : hi ≤ w.heap.size) (hd : hi ≤ l2 ∨ h2 ≤ lo) : BoolSSx w' lo hi v xss := SSx.keep (fun h => BoolS.turned h hb hB hd) h fun k h1 hk => hb.block k (by omega) (by omega)
theorem BSSx.mono {w : World} {lo hi lo' hi' : Nat} {v : Value} {xss : List (List Bool)} (h : BoolSSx w lo hi v xss) (h1 : lo' ≤ lo) (h2 : hi ≤ hi') : BoolSSx w lo' hi' v xss := SSx.mono (fun h => BoolS.mono h h1 h2) h h1 h2
theorem SSx.dims {α : Type} {R : World → Nat → Nat → Value → List α → Prop} {w : World} {lo hi : Nat} {v : Value} {xss : List (List α)} (h : SSx R w lo hi v xss) : ∃ A c, v = .slice A xss.length c ∧ xss.length ≤ c ∧ c ≤ 9223372036854775807 := SS.dims h.ss
theorem BSSx.dims {w : World} {lo hi : Nat} {v : Value} {xss : List (List Bool)} (h : BoolSSx w lo hi v xss) : ∃ A c, v = .slice A xss.length c ∧ xss.length ≤ c ∧ c ≤ 9223372036854775807 := SS.dims h.ss


/-- writes behind the rows -/
theorem OwnBS.farT {w w' : World} {base top : Nat} {e : TypeId} {v : Value} {xss : List (List Bool)} {row : Option Nat} (h : OwnBS w base top e v xss) (hg : w.grownBy w' row) (hr : ∀ g, row = some g → top ≤ g ∧ v.ownBlock ≠ some g) : OwnBS w' base top e v xss := by
  obtain ⟨vs, lo, hi, h1, h2, h3, h4, h5, h6⟩ := h
  refine ⟨vs, lo, hi, h1, h2.kept hg ?_, h3, Nat.le_trans h4 hg.size, fun j hj => ?_, h6⟩
  · cases hv : v.ownBlock with
    | none => exact .inl rfl
    | some g => right; intro e; exact (hr g e.symm).2 hv
  · obtain ⟨u, a1, a2, a3, a4, a5⟩ := h5 j hj
    exact ⟨u, a1, a2, a3, a4.far hg (by omega) (fun g e => .inr (by have := (hr g e).1; omega)), a5⟩
/-- a place, the top row's address known -/
theorem BSSx.at2 {w : World} {lo hi n c b off : Nat} {xss : List (List Bool)} (h : BoolSSx w lo hi (.slice (some ⟨b, off, none⟩) n c) xss) (hh : hi ≤ w.heap.size) {a i : Nat} (ha : a < xss.length) (hi' : i < (nthL xss a).length) :
    ∃ b2 o2 c2, lo ≤ b ∧ b < hi ∧ lo ≤ b2 ∧ b2 < hi ∧ w.cell? ⟨b, off + a, none⟩ = some (.slice (some ⟨b2, o2, none⟩) (nthL xss a).length c2) ∧ (nthL xss a).length ≤ c2 ∧ c2 ≤ 9223372036854775807 ∧
      w.cell? ⟨b2, o2 + i, none⟩ = some (.bool (nthB (nthL xss a) i)) ∧ w.frozen? ⟨b2, o2 + i, none⟩ = false ∧ ∀ z, BoolSSx (w.setCell ⟨b2, o2 + i, none⟩ (.bool z)) lo hi (.slice (some ⟨b, off, none⟩) n c) (setAtB xss a i z) := by
  obtain ⟨b', off', b2, o2, c2, e, h1, h2, h3, h4, h5, h6, h7, h8, h9, h10⟩ := BSSx.place h hh ha hi'
  injection e with e
  injection e with e1 e2
  subst e1 e2
  exact ⟨b2, o2, c2, h1, h2, h3, h4, h5, h6, h7, h8, h9, h10⟩
theorem ISSx.at2 {w : World} {lo hi n c b off : Nat} {xss : List (List Int)} (h : IntSSx w lo hi (.slice (some ⟨b, off, none⟩) n c) xss) (hh : hi ≤ w.heap.size) {a i : Nat} (ha : a < xss.length) (hi' : i < (nthL xss a).length) :
    ∃ b2 o2 c2, lo ≤ b ∧ b < hi ∧ lo ≤ b2 ∧ b2 < hi ∧ w.cell? ⟨b, off + a, none⟩ = some (.slice (some ⟨b2, o2, none⟩) (nthL xss a).length c2) ∧ (nthL xss a).length ≤ c2 ∧ c2 ≤ 9223372036854775807 ∧
      w.cell? ⟨b2, o2 + i, none⟩ = some (.int .i64 (nth (nthL xss a) i)) ∧ w.frozen? ⟨b2, o2 + i, none⟩ = false := by
  obtain ⟨b', off', b2, o2, c2, e, h1, h2, h3, h4, h5, h6, h7, h8, h9, h10⟩ := ISSx.place h hh ha hi'
  injection e with e
  injection e with e1 e2
  subst e1 e2
  exact ⟨b2, o2, c2, h1, h2, h3, h4, h5, h6, h7, h8, h9⟩
theorem OwnBS.still {w w' : World} {base top : Nat} {e : TypeId} {v : Value} {xss : List (List Bool)} (h : OwnBS w base top e v xss) (hg : w.grownBy w' none) : OwnBS w' base top e v xss := h.farT hg (fun g e => by cases e)

end Go.Proofs.YtmdlginjblnfoaaGreat

/- Contract: neAll (reference): a row of booleans a node. -/
namespace Go.Proofs.YtmdlginjblnfoaaGreat
open Go.ChangeShapes Go.WideShapes Go.ChangeAt Go.RowKit
set_option linter.unusedVariables false

theorem infoBs : (Tryz.prog.info? 73).map (fun i => (i.zero, i.size, i.bytes)) = some (some (.slice none 0 0), 1, 24) := by kernel_rfl
/-- as many booleans in each row as the node has ports -/
def SameB (N : NetD) (k : Nat) (bss : List (List Bool)) : Prop := bss.length = k ∧ ∀ a, a < k → (nthL bss a).length = (nthL N.ends a).length
theorem SameB.snoc {N : NetD} {k : Nat} {bss : List (List Bool)} (h : SameB N k bss) {bs : List Bool} (hb : bs.length = (nthL N.ends k).length) : SameB N (k + 1) (bss ++ [bs]) := by
  refine ⟨by simp [h.1], fun a ha => ?_⟩
  by_cases e : a < bss.length
  · rw [nthL_append_left e]; exact h.2 a (by rw [← h.1]; exact e)
  · obtain rfl : a = bss.length := by have := h.1; omega
    rw [nthL_append_at, hb, h.1]

set_option maxHeartbeats 2000000 in
set_option maxRecDepth 100000 in
theorem neAll_any (v1 : Value) (N : NetD) (lo1 hi1 : Nat) (w : World) (h1 : Net w lo1 hi1 v1 N) (hh1 : hi1 ≤ w.heap.size) (hg : N.good = true) :
    Calls Tryz.prog 43 #[v1] w fun e w' => ∃ r bss, e = .returned r ∧ BoolSSx w' w.heap.size w'.heap.size r bss ∧ SameB N N.ends.length bss ∧ Below w.heap.size w w' := by
  obtain ⟨n1, n40⟩ := good_n hg
  have HG := Lib.hid hg; clear hg
  have F1 := Lib.hid h1
  obtain ⟨A1, c1, A1', c1', A1'', c1'', rfl, hc1, hd1, _⟩ := h1.parts
  obtain ⟨b1, o1, _, _, rfl, _⟩ := Net.rowAt F1.out (u := 0) (by omega)
  clear h1
  obtain ⟨WA, HWA⟩ : ∃ W, Hid (W = (w.alloc (.cells #[.slice (some ⟨b1, o1, none⟩) N.ends.length c1, .slice A1' N.ids.length c1', .slice A1'' N.inputs.length c1''] 32))) := ⟨_, Lib.hid rfl⟩
  have hbA : Below w.heap.size w WA := by rw [HWA.out]; exact ((Below.refl _ _).alloc (Nat.le_refl _) _)
  have hsA : w.heap.size + 1 ≤ WA.heap.size := by rw [HWA.out]; simp; try omega
  have bx1 : BoxN WA (w.heap.size) #[.slice (some ⟨b1, o1, none⟩) N.ends.length c1, .slice A1' N.ids.length c1', .slice A1'' N.inputs.length c1''] 32 := by rw [HWA.out]; exact (BoxN.new' _ _ _ (by simp))
  have G1 := Lib.hid (Net.below F1.out hbA hh1); clear F1
  go_enter Tryz.func43, Tryz.ntmps43
  go_upto_region 1 with (fail)
  rw [← HWA.out]; clear HWA
  have kbx1_0 : WA.cell? ⟨w.heap.size, 0, none⟩ = some (.slice (some ⟨b1, o1, none⟩) N.ends.length c1) := bx1.cell 0 (by simp)
  have kbx1_1 : WA.cell? ⟨w.heap.size, 1, none⟩ = some (.slice A1' N.ids.length c1') := bx1.cell 1 (by simp)
  have kbx1_2 : WA.cell? ⟨w.heap.size, 2, none⟩ = some (.slice A1'' N.inputs.length c1'') := bx1.cell 2 (by simp)
  go_wp2_with fail
  clear kbx1_0 kbx1_1 kbx1_2
  go_loopw [11, 3] (fun kv ov wr => ∃ (k : Nat) (bss : List (List Bool)) (top : Nat), k ≤ N.ends.length ∧ kv = .int .i64 k ∧ Hid (OwnBS wr WA.heap.size top 73 ov bss) ∧ Hid (SameB N k bss) ∧ Hid (Turned WA.heap.size WA.heap.size WA wr)) (fun kv ov _ => N.ends.length - (intOf kv).toNat)
  case atStart => exact ⟨0, [], WA.heap.size, Nat.zero_le _, rfl, Lib.hid (OwnBS.nil _ _ _ _ (Nat.le_refl _) (Nat.le_refl _)), Lib.hid ⟨rfl, fun a ha => absurd ha (by omega)⟩, Lib.hid (Turned.refl WA.heap.size WA.heap.size WA)⟩
  case round =>
    obtain ⟨k, bss, top, hk, rfl, HO, HS, HF1⟩ := hrel
    have hs1 := HF1.out.size
    obtain ⟨wq, rfl⟩ : ∃ wq : World, wq = wr := ⟨_, rfl⟩
    have htop : top ≤ wq.heap.size := let ⟨_, _, _, _, _, _, h, _⟩ := HO.out; h
    have HLT := Lib.hid HO.out.lt
    have hbl := HS.out.1
    have HBL := Lib.hid hbl; clear hbl
    obtain ⟨Ao, co, rfl, hco, hdo⟩ := HO.out.len
    by_cases hkn : k < N.ends.length
    case neg =>
      obtain rfl : k = N.ends.length := by omega
      go_wp2_with fail
      go_ret
      exact ⟨_, bss, rfl, BSSx.mono HO.out.ssx (by omega) (Nat.le_refl _), HS.out, (HF1.out.below_of hbA (by omega) (by omega))⟩
    have hki : (k : Int) < N.ends.length := by omega
    have hd6 := good_deg HG.out hkn
    obtain ⟨Aa, ca, hba, qa, hca, hda, hRa⟩ := Net.rowIn G1.out hkn
    replace qa := (HF1.out.cell (by omega) (by omega)).trans qa
    have Ra := Lib.hid hRa; clear hRa
    obtain ⟨d, HD⟩ : ∃ d, Hid ((nthL N.ends k).length = d) := ⟨_, Lib.hid rfl⟩
    rw [HD.out] at qa hca hd6
    have hmk := fun W => run_make_row' (P := Tryz.prog) 73 4 (.bool false) 1 Tryz.underlying73 Tryz.infoBool rfl .i64 .i64 d (by omega) (by omega) W
    go_upto_region 6 with (fail)
    clear qa hmk
    refine nameC ?_
    intro W2 HW2
    have hg2 : wq.grownBy W2 none := by rw [HW2.out]; exact grown_alloc _ _
    have hs2 := hg2.size
    have HF2 := Lib.hid (HF1.out.still hg2); clear HF1
    have O2 := Lib.hid (OwnBS.still HO.out hg2); clear HO
    have HB := Lib.hid (show BoolS W2 wq.heap.size (wq.heap.size + 1) (.slice (some ⟨wq.heap.size, 0, none⟩) d d) (List.replicate d false) by rw [HW2.out]; exact made_bools _ _ _ rfl (by omega))
    have hz : wq.heap.size + 1 ≤ W2.heap.size := by rw [HW2.out]; simp
    clear HW2
    go_wp2_with fail
    go_loopw [20] (fun jv wr => ∃ (j : Nat) (bs : List Bool), j ≤ d ∧ jv = .int .i64 j ∧ Hid (OwnBS wr WA.heap.size top 73 (.slice Ao bss.length co) bss) ∧ Hid (BoolS wr wq.heap.size (wq.heap.size + 1) (.slice (some ⟨wq.heap.size, 0, none⟩) d d) bs) ∧ Hid (bs.length = d) ∧ wq.heap.size + 1 ≤ wr.heap.size ∧ Hid (Turned WA.heap.size WA.heap.size WA wr)) (fun jv _ => d - (intOf jv).toNat)
    case atStart => exact ⟨0, _, Nat.zero_le _, rfl, O2, HB, Lib.hid (by simp), hz, HF2⟩
    case round =>
      clear HF2
      obtain ⟨j, bs, hj, rfl, HO, HB, HL, hz1, HF3⟩ := hrel
      have hs3 := HF3.out.size
      obtain ⟨wt, rfl⟩ : ∃ wt : World, wt = wr := ⟨_, rfl⟩
      by_cases hjn : j < d
      case pos =>
        have hji : (j : Int) < d := by omega
        obtain ⟨x1, x2⟩ := HB.out.at0 (j := j) (by rw [HL.out]; exact hjn)
        obtain ⟨xv, HXV⟩ : ∃ x, Hid (nthB bs j = x) := ⟨_, Lib.hid rfl⟩
        rw [HXV.out] at x1
        have HB1 := Lib.hid (HB.out.set0 (j := j) (by rw [HL.out]; exact hjn) true)
        have HL1 := Lib.hid (show (bs.set j true).length = d by rw [List.length_set]; exact HL.out)
        go_wp2_with fail
        go_roundw
        case rel =>
          have hg9 : wt.grownBy (wt.setCell ⟨wq.heap.size, j, none⟩ (.bool true)) (some (wq.heap.size)) := grown_set _ _ _
          have hs9 := hg9.size
          exact ⟨j + 1, bs.set j true, by omega, by go_num, Lib.hid (OwnBS.farT HO.out hg9 (fun g e => by cases e; exact ⟨by omega, fun h => by have := HLT.out _ h; omega⟩)), HB1, HL1, by omega, Lib.hid (HF3.out.grown hg9 (fun g e => .inr (by cases e; omega)))⟩
        case measure => simp [intOf]; omega
      obtain rfl : j = d := by omega
      have HS2 := Lib.hid (SameB.snoc HS.out (show bs.length = (nthL N.ends k).length by rw [HL.out, HD.out]))
      have hbl := HBL.out
      have hbl4 : bss.length ≤ 40 := by omega
      clear hbl
      go_wp2_with (at_builtin; refine append_bs (s := .tmp 27) Tryz.underlying71 infoBs (by decide) wt rfl _ rfl HO.out HB.out (by omega) (by omega) (by omega) (fun g e => .inl (by have := HLT.out g e; omega)) _ (by simp [Act.eval, go_sem]) (by simp [Act.eval, go_sem]) (by omega) ?_; intro v' w' ho' hg' hat')
      go_roundw
      case rel => exact ⟨k + 1, _, wq.heap.size + 1, by omega, by go_num, Lib.hid ho', HS2, Lib.hid (HF3.out.grown hg' (fun g e => .inr (by have := HLT.out g e; omega)))⟩
      case measure => simp [intOf]; omega

end Go.Proofs.YtmdlginjblnfoaaGreat

/- Slices of slices of numbers that a call writes into: two numbers set. No condition on any program. -/
namespace Go.Proofs.YtmdlginjblnfoaaGreat
open Go.RowKit
set_option linter.unusedVariables false

theorem ISSx.apart {w : World} {lo hi n c : Nat} {b off b2 o2 n2 c2 : Nat} {xss : List (List Int)} (h : IntSSx w lo hi (.slice (some ⟨b, off, none⟩) n c) xss) {a : Nat} (ha : a < xss.length) (hpos : 0 < (nthL xss a).length) (hc : w.cell? ⟨b, off + a, none⟩ = some (.slice (some ⟨b2, o2, none⟩) n2 c2)) : b ≠ b2 := by
  obtain ⟨vs, h1, h2, h3, h4⟩ := h
  obtain ⟨A', c', e, m1, m2, m3⟩ := h1
  injection e with e3 e4 e5
  subst e3 e4 e5
  obtain ⟨b', off', e6, n1, n2', n3⟩ := m3 (by omega)
  injection e6 with e6
  injection e6 with e7 e8
  subst e7 e8
  have hva := (n3 a (by omega)).1
  rw [hc] at hva
  injection hva with hva
  have hr := h4 a ha
  rw [← hva, rowOf_some (show 0 < xss.length by omega)] at hr
  unfold rowOf at hr
  rw [if_neg (by omega)] at hr
  rcases hr with t | t
  · cases t
  · intro e; exact t (by rw [e]; rfl)
end Go.Proofs.YtmdlginjblnfoaaGreat

/- A made slice of slices whose rows the call owns and appends to. No condition on any program. -/
namespace Go.Proofs.YtmdlginjblnfoaaGreat
open Go.RowKit
set_option linter.unusedVariables false

/-- block b holds a slice of slices; each row is the call's own, no two rows share a block -/
def Gro (w : World) (b : Nat) (e : TypeId) (xss : List (List Int)) : Prop :=
  ∃ vs : Nat → Value, Sl w b (b + 1) 1 (.slice (some ⟨b, 0, none⟩) xss.length xss.length) xss.length vs ∧ b < w.heap.size ∧
    (∀ i, i < xss.length → OwnI w (b + 1) e (vs i) (nthL xss i)) ∧ ∀ i j, i < xss.length → j < xss.length → i ≠ j → Apart (vs i) (vs j)
theorem Own_rowOf {w : World} {base : Nat} {e : TypeId} {v : Value} {zs : List Int} (h : OwnI w base e v zs) : rowOf zs.length v = none ∨ (rowOf zs.length v = v.ownBlock ∧ ∃ g, v.ownBlock = some g ∧ base ≤ g ∧ g < w.heap.size) := by
  unfold rowOf
  by_cases hz : zs.length = 0
  · exact .inl (if_pos hz)
  · rw [if_neg hz]
    rcases h.block with h1 | h1
    · exact .inl h1
    · exact .inr ⟨rfl, h1⟩
section
variable {w w' : World} {b : Nat} {e : TypeId} {xss : List (List Int)} {row : Option Nat}
theorem Gro.far (h : Gro w b e xss) (hg : w.grownBy w' row) (hr : ∀ g, row = some g → g < b) : Gro w' b e xss := by
  obtain ⟨vs, h1, h2, h3, h4⟩ := h
  refine ⟨vs, Sl.keep h1 fun k a1 a2 => hg.block k (by omega) (fun e => by have := hr k e.symm; omega), Nat.lt_of_lt_of_le h2 hg.size, fun i hi => (h3 i hi).far hg fun g e => .inl (by have := hr g e; omega), h4⟩
theorem Gro.still (h : Gro w b e xss) (hg : w.grownBy w' none) : Gro w' b e xss := h.far hg fun g e => by cases e
theorem Gro.made (w : World) (n : Nat) (t e : TypeId) {g : Nat} (hg : w.heap.size = g) (hn : n ≤ 1099511627776) : Gro (w.alloc (.cells (madeCells #[.slice none 0 0] n) t)) g e (List.replicate n []) := by
  subst hg
  have hr := World.rowIs_made w (.slice none 0 0) n t
  refine ⟨fun _ => .slice none 0 0, ?_, by simp, fun i hi => ?_, fun i j _ _ _ => Apart.nil_left _⟩
  · rw [List.length_replicate]
    have := Sl.of_row (lo := w.heap.size) (sz := 1) (n := n) (c := n) hr (Nat.le_refl _) (by omega) (Nat.le_refl _) (by unfold maxLen; omega)
    exact this.mono (Nat.le_refl _) (by simp)
  · have : nthL (List.replicate n ([] : List Int)) i = [] := by
      unfold nthL
      rw [List.length_replicate] at hi
      simp [hi]
    rw [this]
    exact OwnI.nil _ _ _
/-- one row, and what an append onto it with the store behind it leaves -/
theorem Gro.open_ (h : Gro w b e xss) {i : Nat} (hi : i < xss.length) :
    ∃ u, w.cell? ⟨b, i, none⟩ = some u ∧ w.frozen? ⟨b, i, none⟩ = false ∧ OwnI w (b + 1) e u (nthL xss i) ∧ b < w.heap.size ∧
      ∀ v' w' zs', OwnI w' (b + 1) e v' zs' → w.grownBy w' u.ownBlock → (v'.ownBlock = u.ownBlock ∨ v'.ownBlock = some (w.heap.size + 1)) → Gro (w'.setCell ⟨b, i, none⟩ v') b e (xss.set i zs') := by
  obtain ⟨vs, h1, h2, h3, h4⟩ := h
  have hat := h1.at_ (j := i) (by omega)
  rw [Nat.zero_add] at hat
  refine ⟨vs i, hat.1, hat.2, h3 i hi, h2, fun v' w' zs' ho hg hb => ?_⟩
  have hub : ∀ g, (vs i).ownBlock = some g → b + 1 ≤ g := fun g e => ((h3 i hi).lt g e).1
  have hs := hg.size
  have h1' : Sl w' b (b + 1) 1 (.slice (some ⟨b, 0, none⟩) xss.length xss.length) xss.length vs := Sl.keep h1 fun k a1 a2 => hg.block k (by omega) (fun e => by have := hub k e.symm; omega)
  have hset := h1'.set (j := i) (by omega) v'
  rw [Nat.zero_add] at hset
  have hgs : w'.grownBy (w'.setCell ⟨b, i, none⟩ v') (some b) := grown_set w' ⟨b, i, none⟩ _
  refine ⟨fun j => if j = i then v' else vs j, ?_, by rw [size_setCell]; omega, fun j hj => ?_, fun j k hj hk hjk => ?_⟩
  · rw [List.length_set]; exact hset
  · rw [List.length_set] at hj
    rw [nthL_set hi]
    dsimp only
    by_cases ej : j = i
    · rw [if_pos ej, if_pos ej]
      exact ho.far hgs fun g e => .inl (by injection e; omega)
    · rw [if_neg ej, if_neg ej]
      exact ((h3 j hj).kept hg (h4 j i hj hi ej).keeps).far hgs fun g e => .inl (by injection e; omega)
  · rw [List.length_set] at hj hk
    dsimp only
    by_cases ej : j = i
    · rw [if_pos ej, if_neg (by omega)]
      subst ej
      exact (Apart.grow (h4 k j hk hi (fun e => hjk e.symm)) (h3 k hk) (g := w.heap.size + 1) (by omega) hb).symm
    · rw [if_neg ej]
      by_cases ek : k = i
      · rw [if_pos ek]
        subst ek
        exact Apart.grow (h4 j k hj hi ej) (h3 j hj) (g := w.heap.size + 1) (by omega) hb
      · rw [if_neg ek]; exact h4 j k hj hk hjk
theorem Gro.ssx (h : Gro w b e xss) : IntSSx w b w.heap.size (.slice (some ⟨b, 0, none⟩) xss.length xss.length) xss := by
  obtain ⟨vs, h1, h2, h3, h4⟩ := h
  refine ⟨vs, h1.mono (Nat.le_refl _) (by omega), fun i hi => (h3 i hi).ints.mono (by omega) (Nat.le_refl _), fun i j hij hj => ?_, fun i hi => ?_⟩
  · rcases Own_rowOf (h3 i (by omega)) with e1 | ⟨e1, g, e2, _⟩
    · exact .inl e1
    · rcases Own_rowOf (h3 j hj) with f1 | ⟨f1, _⟩
      · right; rw [e1, e2, f1]; simp
      · rw [e1, f1]
        exact (h4 i j (by omega) hj (by omega)).keeps
  · rcases Own_rowOf (h3 i hi) with e1 | ⟨e1, g, e2, a1, a2⟩
    · exact .inl e1
    · right
      rw [e1, e2, rowOf_some (by omega)]
      intro e3; injection e3; omega
end

end Go.Proofs.YtmdlginjblnfoaaGreat

/- Contract: neCut (reference), its rows of ends. -/
namespace Go.Proofs.YtmdlginjblnfoaaGreat
open Go.ChangeShapes Go.WideShapes Go.ChangeAt Go.RowKit
set_option linter.unusedVariables false

theorem infoRowK : (Tryz.prog.info? 23).map (fun i => (i.zero, i.size, i.bytes)) = some (some (.slice none 0 0), 1, 24) := by kernel_rfl
theorem infoRowE : (Tryz.prog.info? 64).map (fun i => (i.zero, i.size, i.bytes)) = some (some (.slice none 0 0), 1, 24) := by kernel_rfl
theorem infoEndK : (Tryz.prog.info? 66).map (fun i => (i.zero, i.size, i.bytes)) = some (some (.agg #[.int .i64 0, .int .i64 0]), 2, 16) := by kernel_rfl
/-- the new numbers of the first ports of a node -/
def cntL (kp : Nat → Nat → Bool) (v m : Nat) : List Int := (List.range m).map fun i => ((cntK kp v i : Nat) : Int)
theorem cntL_len (kp : Nat → Nat → Bool) (v m : Nat) : (cntL kp v m).length = m := by simp [cntL]
theorem cntL_succ (kp : Nat → Nat → Bool) (v m : Nat) : cntL kp v (m + 1) = cntL kp v m ++ [((cntK kp v m : Nat) : Int)] := by simp [cntL, List.range_succ]
theorem nth_cntL {kp : Nat → Nat → Bool} {v m i : Nat} (h : i < m) : nth (cntL kp v m) i = ((cntK kp v i : Nat) : Int) := by simp [nth, cntL, h]
/-- the new numbers of all ports: nodes below v, and the first i ports of v -/
def toAt (N : NetD) (kp : Nat → Nat → Bool) (v i : Nat) : List (List Int) := (List.range N.ends.length).map fun a => if a < v then cntL kp a (nthL N.ends a).length else if a = v then cntL kp v i else []
theorem toAt_len (N : NetD) (kp : Nat → Nat → Bool) (v i : Nat) : (toAt N kp v i).length = N.ends.length := by simp [toAt]
theorem nthL_toAt {N : NetD} {kp : Nat → Nat → Bool} {v i a : Nat} (h : a < N.ends.length) : nthL (toAt N kp v i) a = if a < v then cntL kp a (nthL N.ends a).length else if a = v then cntL kp v i else [] := by simp [nthL, toAt, h]
theorem toAt_zero (N : NetD) (kp : Nat → Nat → Bool) : toAt N kp 0 0 = List.replicate N.ends.length [] := by
  refine ext_nthL (by rw [toAt_len]; simp) fun a ha => ?_
  rw [toAt_len] at ha
  rw [nthL_toAt ha, if_neg (by omega)]
  have : nthL (List.replicate N.ends.length ([] : List Int)) a = [] := by simp [nthL, ha]
  rw [this]
  by_cases e : a = 0
  · rw [if_pos e]; rfl
  · rw [if_neg e]
theorem toAt_next {N : NetD} {kp : Nat → Nat → Bool} {v : Nat} (hv : v < N.ends.length) : toAt N kp v (nthL N.ends v).length = toAt N kp (v + 1) 0 := by
  refine ext_nthL (by rw [toAt_len, toAt_len]) fun a ha => ?_
  rw [toAt_len] at ha
  rw [nthL_toAt ha, nthL_toAt ha]
  by_cases e1 : a < v
  · rw [if_pos e1, if_pos (by omega)]
  · rw [if_neg e1]
    by_cases e2 : a = v
    · subst e2; rw [if_pos rfl, if_pos (by omega)]
    · rw [if_neg e2, if_neg (by omega)]
      by_cases e3 : a = v + 1
      · rw [if_pos e3]; rfl
      · rw [if_neg e3]
theorem toAt_step {N : NetD} {kp : Nat → Nat → Bool} {v i : Nat} (hv : v < N.ends.length) : (toAt N kp v i).set v (cntL kp v i ++ [((cntK kp v i : Nat) : Int)]) = toAt N kp v (i + 1) := by
  refine ext_nthL (by rw [List.length_set, toAt_len, toAt_len]) fun a ha => ?_
  rw [List.length_set, toAt_len] at ha
  rw [nthL_set (by rw [toAt_len]; exact hv), nthL_toAt ha, nthL_toAt ha, ← cntL_succ]
  by_cases e2 : a = v
  · subst e2; rw [if_pos rfl, if_neg (by omega), if_pos rfl]
  · rw [if_neg e2]
    by_cases e1 : a < v
    · rw [if_pos e1, if_pos e1]
    · rw [if_neg e1, if_neg e1, if_neg e2, if_neg e2]
theorem toAt_at {N : NetD} {kp : Nat → Nat → Bool} {a : Nat} (h : a < N.ends.length) : nthL (toAt N kp N.ends.length 0) a = cntL kp a (nthL N.ends a).length := by rw [nthL_toAt h, if_pos h]
/-- the booleans say which ports are kept -/
def KeepB (N : NetD) (kp : Nat → Nat → Bool) (bss : List (List Bool)) : Prop := SameB N N.ends.length bss ∧ ∀ a, a < N.ends.length → ∀ b, b < (nthL N.ends a).length → nthB (nthL bss a) b = kp a b
/-- the kept ends of a node as pairs of numbers -/
def cutP (N : NetD) (kp : Nat → Nat → Bool) (v m : Nat) : List Po := ((List.range m).filter (kp v)).map fun i => ((nthE (nthL N.ends v) i).1.toNat, cntK kp (nthE (nthL N.ends v) i).1.toNat (nthE (nthL N.ends v) i).2.toNat)
theorem cutP_len (N : NetD) (kp : Nat → Nat → Bool) (v m : Nat) : (cutP N kp v m).length ≤ m := by
  unfold cutP; rw [List.length_map]; exact Nat.le_trans (List.length_filter_le _ _) (by simp)
theorem cutP_yes {N : NetD} {kp : Nat → Nat → Bool} {v m t r : Nat} (h : kp v m = true) (he : nthE (nthL N.ends v) m = ((t : Int), (r : Int))) : cutP N kp v (m + 1) = cutP N kp v m ++ [(t, cntK kp t r)] := by simp [cutP, List.range_succ, h, he]
theorem cutP_no {N : NetD} {kp : Nat → Nat → Bool} {v m : Nat} (h : kp v m = false) : cutP N kp v (m + 1) = cutP N kp v m := by simp [cutP, List.range_succ, h]
theorem cutP_row {N : NetD} (hg : N.good = true) {kp : Nat → Nat → Bool} {v : Nat} (hv : v < N.ends.length) : ∀ m, m ≤ (nthL N.ends v).length → castL (cutP N kp v m) = cutRow N kp v m
  | 0, _ => by simp [cutP, cutRow, castL]
  | m + 1, hm => by
    have ih := cutP_row hg (kp := kp) hv m (by omega)
    obtain ⟨t, r, he, _⟩ := good_end hg hv (show m < (nthL N.ends v).length by omega)
    cases hb : kp v m with
    | false => rw [cutP_no hb, cutRow_no hb, ih]
    | true => rw [cutP_yes hb he, cutRow_yes hb, castL_snoc, ih, he]; rfl
/-- the rows of the first nodes -/
def cutRows (N : NetD) (kp : Nat → Nat → Bool) (v : Nat) : List (List (Int × Int)) := (List.range v).map fun a => cutRow N kp a (nthL N.ends a).length
theorem cutRows_len (N : NetD) (kp : Nat → Nat → Bool) (v : Nat) : (cutRows N kp v).length = v := by simp [cutRows]
theorem cutRows_succ (N : NetD) (kp : Nat → Nat → Bool) (v : Nat) : cutRows N kp (v + 1) = cutRows N kp v ++ [cutRow N kp v (nthL N.ends v).length] := by simp [cutRows, List.range_succ]
theorem nthL_cutRows {N : NetD} {kp : Nat → Nat → Bool} {v a : Nat} (h : a < v) : nthL (cutRows N kp v) a = cutRow N kp a (nthL N.ends a).length := by simp [nthL, cutRows, h]

set_option maxHeartbeats 1000000 in
theorem l1OwnA (v : Value) (zs : List Int) (lo hi : Nat) (w : World) (h : IntS w lo hi v zs) (hhi : hi ≤ w.heap.size) (hl : zs.length ≤ 1048576) :
    Calls Tryz.prog 62 #[v] w fun e w' => ∃ r, e = .returned r ∧ IntS w' w.heap.size w'.heap.size r zs ∧ Below w.heap.size w w' := by
  have F := Lib.hid h
  obtain ⟨A, c, rfl, hc, hd⟩ := h.dims
  have HE := Lib.hid (OwnI.empty w w.heap.size 3 rfl (Nat.le_refl _))
  obtain ⟨i0, hi0, _⟩ := Option.map_eq_some_iff.1 Tryz.info3
  have HI0 := Lib.hid hi0; clear hi0
  by_cases h0 : 0 < zs.length
  · obtain ⟨b, off, rfl, _, hb, _, _⟩ := h.opened (j := 0) h0
    have HC := Lib.hid (show ∀ j, j < zs.length → (w.alloc (.cells #[] 3)).cell? ⟨b, off + j, none⟩ = some (.int .i64 (nth zs j)) from fun j hj => (IntS.at_ (F.out.alloc hhi _) hj).1)
    clear h
    go_enter Tryz.func62, Tryz.ntmps62
    go_wp2_with (at_builtin; refine append_ints (s := .tmp 3) Tryz.underlying23 Tryz.info3 (by decide) (w.alloc (.cells #[] 3)) rfl (.tmp 4) rfl HE.out rfl (g := b) (off := off) zs rfl rfl HC.out (by simp; omega) (by simp) ?_; intro v1 w1 ho1 hg1; have HO := Lib.hid ho1; have HG1 := Lib.hid hg1; clear ho1 hg1)
    go_ret
    refine ⟨_, rfl, ?_, ((Below.refl _ _).alloc (Nat.le_refl _) _).grown HG1.out (by simp) (fun g hg => by have := HE.out.lt g hg; omega)⟩
    have := HO.out.ints; simpa using this
  · have hz0 : zs.length = 0 := by omega
    have hz : zs = [] := List.eq_nil_of_length_eq_zero hz0
    subst hz
    clear h h0 hz0
    go_enter Tryz.func62, Tryz.ntmps62
    go_wp2_with (at_builtin; refine append_zero (s := .tmp 3) Tryz.underlying23 HI0.out (w.alloc (.cells #[] 3)) rfl (.tmp 4) rfl HE.out rfl rfl ?_)
    go_ret
    exact ⟨_, rfl, HE.out.ints, below_a1 w _⟩

end Go.Proofs.YtmdlginjblnfoaaGreat
