/-
  Contracts: LeastDominating, the program's and the reference's.
-/
import Derived.Test.YtadihdhacmcobaaBin2
import Derived.Test.YtadihdhacmcobaaFind
import Derived.Test.YtadihdhacmcobaaRuleS
import Derived.Test.YtadihdhacmcobaaBasics
namespace Go.Proofs.Ytadihdhacmcobaa
open Go.ChangeShapes Go.WideShapes Go.ChangeAt Go.RowKit
set_option linter.unusedVariables false

/-- some neighbour of v is in the set -/
def hnB (N : NetD) (v : Nat) (set : List Int) : Bool := (List.range (nthL N.ends v).length).any fun k => decide ((nthE (nthL N.ends v) k).1 ∈ set)
theorem hnB_is (N : NetD) (v : Nat) (set : List Int) : hnB N v set = (nbs N v).any fun x => decide (x ∈ set) := by
  rw [Bool.eq_iff_iff]
  unfold hnB
  simp only [List.any_eq_true, List.mem_range, decide_eq_true_eq]
  constructor
  · rintro ⟨k, hk, h⟩; exact ⟨_, nbs_mem.2 ⟨k, hk, rfl⟩, h⟩
  · rintro ⟨x, hx, h⟩; obtain ⟨k, hk, e⟩ := nbs_mem.1 hx; exact ⟨k, hk, by rw [e]; exact h⟩
theorem mem_upTo' {n : Nat} {x : Int} : x ∈ upTo n ↔ ∃ v : Nat, v < n ∧ x = v := by
  unfold upTo
  rw [List.mem_map]
  constructor
  · rintro ⟨v, hv, e⟩; exact ⟨v, List.mem_range.1 hv, e.symm⟩
  · rintro ⟨v, hv, e⟩; exact ⟨v, List.mem_range.2 hv, e.symm⟩
theorem ldB_any (N : NetD) (set : List Int) : (!(upTo N.ends.length).any fun x => !decide (x ∈ set) && !hnB N x.toNat set) = ldB N set := by
  have h : ((upTo N.ends.length).any fun x => !decide (x ∈ set) && !hnB N x.toNat set) = !ldB N set := by
    rw [Bool.eq_iff_iff, List.any_eq_true, Bool.not_eq_true', Bool.eq_false_iff]
    constructor
    · rintro ⟨x, hx, hp⟩ h2
      obtain ⟨v, hv, rfl⟩ := mem_upTo'.1 hx
      rw [Int.toNat_natCast, Bool.and_eq_true, Bool.not_eq_true', Bool.not_eq_true', decide_eq_false_iff_not, hnB_is, Bool.eq_false_iff] at hp
      rcases ldB_true.1 h2 v hv with e | ⟨y, h1, h2⟩
      · exact hp.1 e
      · exact hp.2 (List.any_eq_true.2 ⟨y, h1, decide_eq_true h2⟩)
    · intro h2
      have h2' : ¬ ∀ v, v < N.ends.length → (v : Int) ∈ set ∨ ∃ x, x ∈ nbs N v ∧ x ∈ set := fun h => h2 (ldB_true.2 h)
      obtain ⟨v, h3⟩ := Classical.not_forall.1 h2'
      obtain ⟨hv, h4⟩ := Classical.not_forall.1 h3
      refine ⟨(v : Int), mem_upTo'.2 ⟨v, hv, rfl⟩, ?_⟩
      rw [Int.toNat_natCast, Bool.and_eq_true, Bool.not_eq_true', Bool.not_eq_true', decide_eq_false_iff_not, hnB_is, Bool.eq_false_iff]
      refine ⟨fun e => h4 (.inl e), fun e => ?_⟩
      obtain ⟨y, h1, h5⟩ := List.any_eq_true.1 e
      exact h4 (.inr ⟨y, h1, of_decide_eq_true h5⟩)
  rw [h, Bool.not_not]
def ldOk (N : NetD) : Bool := N.good && decide (N.ends.length ≤ 14)
noncomputable def ldOut (N : NetD) : List Int := if ldOk N then ldSet N else []
theorem ldOut_len (N : NetD) : (ldOut N).length ≤ 14 := by
  unfold ldOut
  split
  · rename_i h
    unfold ldOk at h
    rw [Bool.and_eq_true, decide_eq_true_eq] at h
    exact Nat.le_trans (ldSet_len N) h.2
  · exact Nat.zero_le _
theorem ldOut_yes {N : NetD} (h : ldOk N = true) : ldOut N = ldSet N := by unfold ldOut; rw [if_pos h]
theorem ldB_full (N : NetD) : ldB N (subN N.ends.length 0 N.ends.length 0) = true := by
  rw [ldB_true]
  intro v hv
  refine .inl ?_
  rw [subN_full]
  exact List.mem_map.2 ⟨v, by rw [List.mem_range'_1]; omega, rfl⟩
theorem subN_nodes {N : NetD} {s r : Nat} : ∀ x ∈ subN N.ends.length 0 s r, ∃ t : Nat, x = t ∧ t < N.ends.length := fun x hx => by
  obtain ⟨t, e, _, h⟩ := subN_mem hx; exact ⟨t, e, by omega⟩
set_option maxHeartbeats 4000000 in
theorem hn1_any (x y : Int) (g : Nat) (zs : List Int) (V : Value) (lo hi : Nat) (w : World) (x1 : w.cell? ⟨g, 0, none⟩ = some V) (hg : g < w.heap.size) (h : IntS w lo hi V zs) (hh : hi ≤ w.heap.size) :
    Calls Try.prog 92 #[.agg #[.int .i64 x, .int .i64 y], .pointer (some ⟨g, 0, none⟩)] w fun e w' => e = .returned (.bool (decide (x ∈ zs))) ∧ Below w.heap.size w w' := by
  obtain ⟨A, c, rfl, hc, hd⟩ := h.dims
  obtain ⟨WA, HWA⟩ : ∃ W, Hid (W = w.alloc (.cells #[.int .i64 x, .int .i64 y] 97)) := ⟨_, Lib.hid rfl⟩
  have hbA : Below w.heap.size w WA := by rw [HWA.out]; exact below_a1 _ _
  have hsA : w.heap.size + 1 ≤ WA.heap.size := by rw [HWA.out]; simp
  have bx : BoxN WA w.heap.size #[.int .i64 x, .int .i64 y] 97 := by rw [HWA.out]; exact BoxN.new _ _ _
  have G := Lib.hid (h.below hbA hh)
  have z1 : WA.cell? ⟨g, 0, none⟩ = some (.slice A zs.length c) := (hbA.cell (p := ⟨g, 0, none⟩) hg).trans x1
  have z2 : WA.cell? ⟨w.heap.size, 0, none⟩ = some (.int .i64 x) := bx.cell 0 (by simp)
  obtain ⟨b, HB⟩ : ∃ b, Hid (decide (x ∈ zs) = b) := ⟨_, Lib.hid rfl⟩
  clear h bx
  go_enter Try.func92, Try.ntmps92
  go_upto_region 1 with (fail)
  rw [← HWA.out]; clear HWA
  go_wp2_with (go_at_call 71; refine (contains_any _ zs _ _ _ _ G.out).mono ?_; rintro e w' ⟨rfl, rfl⟩; rw [HB.out])
  go_ret
  exact ⟨ret_bool HB.out.symm, hbA⟩

set_option maxHeartbeats 1000000 in
set_option maxRecDepth 100000 in
theorem hasNear_any (v1 : Value) (N : NetD) (lo1 hi1 : Nat) (v : Nat) (v3 : Value) (zs : List Int) (lo3 hi3 : Nat) (w : World) (h1 : Net w lo1 hi1 v1 N) (hh1 : hi1 ≤ w.heap.size) (h3 : IntS w lo3 hi3 v3 zs) (hh3 : hi3 ≤ w.heap.size) (hv : v < N.ends.length) :
    Calls Try.prog 72 #[v1, .int .i64 (v : Nat), v3] w fun e w' => e = .returned (.bool (hnB N v zs)) ∧ Below w.heap.size w w' := by
  have hmf : ∀ (fn : Fn) (first cap : Array Value) (w : World), (Instr.makeFunc fn first cap).run Try.prog w = .ok (.func fn first cap) w := fun _ _ _ _ => rfl
  have hvi : (v : Int) < N.ends.length := by omega
  have F1 := Lib.hid h1
  obtain ⟨A1, c1, A1', c1', A1'', c1'', rfl, hc1, hd1, _⟩ := h1.parts
  obtain ⟨b1, o1, _, _, rfl, _⟩ := Net.rowAt F1.out (u := 0) (by omega)
  clear h1
  have F3 := Lib.hid h3
  obtain ⟨A3, c3, rfl, hc3, hd3⟩ := h3.dims
  clear h3
  obtain ⟨WA, HWA⟩ : ∃ W, Hid (W = ((w.alloc (.cells #[.slice (some ⟨b1, o1, none⟩) N.ends.length c1, .slice A1' N.ids.length c1', .slice A1'' N.inputs.length c1''] 31)).alloc (.cells #[.slice A3 zs.length c3] 23))) := ⟨_, Lib.hid rfl⟩
  have hbA : Below w.heap.size w WA := by rw [HWA.out]; exact (((Below.refl _ _).alloc (Nat.le_refl _) _).alloc (by simp; try omega) _)
  have hsA : w.heap.size + 2 ≤ WA.heap.size := by rw [HWA.out]; simp; try omega
  have bx1 : BoxN WA (w.heap.size) #[.slice (some ⟨b1, o1, none⟩) N.ends.length c1, .slice A1' N.ids.length c1', .slice A1'' N.inputs.length c1''] 31 := by rw [HWA.out]; exact (BoxN.new' _ _ _ (by simp)).still (grown_alloc _ _)
  have bx3 : BoxN WA (w.heap.size + 1) #[.slice A3 zs.length c3] 23 := by rw [HWA.out]; exact (BoxN.new' _ _ _ (by simp))
  have G1 := Lib.hid (Net.below F1.out hbA hh1); clear F1
  have G3 := Lib.hid (IntS.below F3.out hbA hh3); clear F3
  go_enter Try.func72, Try.ntmps72
  go_upto_region 1 with (fail)
  rw [← HWA.out]; clear HWA
  obtain ⟨Aa, ca, hba, qa, hca, hda, hRa⟩ := Net.rowIn G1.out hv
  have Ra := Lib.hid hRa; clear hRa
  have kbx1_0 : WA.cell? ⟨w.heap.size, 0, none⟩ = some (.slice (some ⟨b1, o1, none⟩) N.ends.length c1) := bx1.cell 0 (by simp)
  have kbx1_1 : WA.cell? ⟨w.heap.size, 1, none⟩ = some (.slice A1' N.ids.length c1') := bx1.cell 1 (by simp)
  have kbx1_2 : WA.cell? ⟨w.heap.size, 2, none⟩ = some (.slice A1'' N.inputs.length c1'') := bx1.cell 2 (by simp)
  have kbx3_0 : WA.cell? ⟨w.heap.size + 1, 0, none⟩ = some (.slice A3 zs.length c3) := bx3.cell 0 (by simp)
  have hx3 := bx3.cell 0 (by simp)
  have hl3 := bx3.lt
  have HCF := Lib.hid (ContainsFunc_End 92 #[.pointer (some ⟨w.heap.size + 1, 0, none⟩)] (enters_of Try.func92 (by kernel_rfl) rfl) (fun k => decide ((nthE (nthL N.ends v) k).1 ∈ zs)) _ (nthL N.ends v) _ _ _ Ra.out (by omega) (fun k hk W hW => hn1_any _ _ (w.heap.size + 1) zs _ _ _ W ((hW.cell (p := ⟨w.heap.size + 1, 0, none⟩) (by show w.heap.size + 1 < _; omega)).trans hx3) (Nat.lt_of_lt_of_le hl3 hW.size) (G3.out.below hW (by omega)) (Nat.le_trans (by omega) hW.size)))
  obtain ⟨b, HB⟩ : ∃ b, Hid (hnB N v zs = b) := ⟨_, Lib.hid rfl⟩
  clear hx3
  go_wp2_with (go_at_call 91; refine HCF.out.mono ?_; rintro e w' ⟨rfl, hb'⟩; rw [show ((List.range (nthL N.ends v).length).any fun k => decide ((nthE (nthL N.ends v) k).1 ∈ zs)) = b from HB.out])
  go_ret
  exact ⟨ret_bool HB.out.symm, hbA.trans (hb'.mono (by omega))⟩

set_option maxHeartbeats 4000000 in
theorem dom1_any (v gs gn : Nat) (N : NetD) (zs : List Int) (V : Value) (A1 A1' A1'' : Option Addr) (c1 c1' c1'' lo1 hi1 lo2 hi2 : Nat) (w : World) (x1 : w.cell? ⟨gs, 0, none⟩ = some V) (bn : BoxN w gn #[.slice A1 N.ends.length c1, .slice A1' N.ids.length c1', .slice A1'' N.inputs.length c1''] 31)
    (h1 : Net w lo1 hi1 (.agg #[.slice A1 N.ends.length c1, .slice A1' N.ids.length c1', .slice A1'' N.inputs.length c1'']) N) (hh1 : hi1 ≤ w.heap.size) (h2 : IntS w lo2 hi2 V zs) (hh2 : hi2 ≤ w.heap.size) (hv : v < N.ends.length) :
    Calls Try.prog 70 #[.int .i64 v, .pointer (some ⟨gs, 0, none⟩), .pointer (some ⟨gn, 0, none⟩)] w fun e w' => e = .returned (.bool (!decide ((v : Int) ∈ zs) && !hnB N (v : Int).toNat zs)) ∧ Below w.heap.size w w' := by
  have k0 := bn.cell 0 (by simp)
  have k1 := bn.cell 1 (by simp)
  have k2 := bn.cell 2 (by simp)
  obtain ⟨A, c, rfl, hc, hd⟩ := h2.dims
  have F1 := Lib.hid h1; have F2 := Lib.hid h2
  clear h1 h2 bn
  simp at k0 k1 k2
  rw [Int.toNat_natCast]
  by_cases hm : (v : Int) ∈ zs
  · have hm' : decide ((v : Int) ∈ zs) = true := decide_eq_true hm
    have HM := Lib.hid hm'; clear hm hm'
    go_enter Try.func70, Try.ntmps70
    go_wp2_with (go_at_call 71; refine (contains_any _ zs _ _ _ _ F2.out).mono ?_; rintro e w' ⟨rfl, rfl⟩; rw [HM.out])
    go_ret
    exact ⟨ret_bool (by rw [HM.out]; rfl), Below.refl _ _⟩
  · have hm' : decide ((v : Int) ∈ zs) = false := decide_eq_false hm
    have HM := Lib.hid hm'; clear hm hm'
    obtain ⟨b, HB⟩ : ∃ b, Hid (hnB N v zs = b) := ⟨_, Lib.hid rfl⟩
    go_enter Try.func70, Try.ntmps70
    go_wp2_with (first | (go_at_call 71; refine (contains_any _ zs _ _ _ _ F2.out).mono ?_; rintro e w' ⟨rfl, rfl⟩; rw [HM.out]) | (go_at_call 72; refine (hasNear_any _ N lo1 hi1 v _ zs lo2 hi2 _ F1.out hh1 F2.out hh2 hv).mono ?_; rintro e w' ⟨rfl, hb'⟩; rw [HB.out]))
    go_ret
    exact ⟨ret_bool (by rw [HM.out, HB.out]; rfl), hb'⟩

set_option maxHeartbeats 1000000 in
set_option maxRecDepth 100000 in
theorem isDominating_any (v1 : Value) (N : NetD) (lo1 hi1 : Nat) (v2 : Value) (zs : List Int) (lo2 hi2 : Nat) (w : World) (h1 : Net w lo1 hi1 v1 N) (hh1 : hi1 ≤ w.heap.size) (h2 : IntS w lo2 hi2 v2 zs) (hh2 : hi2 ≤ w.heap.size) (hn : N.ends.length ≤ 1048576) :
    Calls Try.prog 43 #[v1, v2] w fun e w' => e = .returned (.bool (ldB N zs)) ∧ Below w.heap.size w w' := by
  have hmf : ∀ (fn : Fn) (first cap : Array Value) (w : World), (Instr.makeFunc fn first cap).run Try.prog w = .ok (.func fn first cap) w := fun _ _ _ _ => rfl
  have F1 := Lib.hid h1
  obtain ⟨A1, c1, A1', c1', A1'', c1'', rfl, hc1, hd1, _⟩ := h1.parts
  clear h1
  have F2 := Lib.hid h2
  obtain ⟨A2, c2, rfl, hc2, hd2⟩ := h2.dims
  clear h2
  obtain ⟨WA, HWA⟩ : ∃ W, Hid (W = ((w.alloc (.cells #[.slice A1 N.ends.length c1, .slice A1' N.ids.length c1', .slice A1'' N.inputs.length c1''] 31)).alloc (.cells #[.slice A2 zs.length c2] 23))) := ⟨_, Lib.hid rfl⟩
  have hbA : Below w.heap.size w WA := by rw [HWA.out]; exact (((Below.refl _ _).alloc (Nat.le_refl _) _).alloc (by simp; try omega) _)
  have hsA : w.heap.size + 2 ≤ WA.heap.size := by rw [HWA.out]; simp; try omega
  have bx1 : BoxN WA (w.heap.size) #[.slice A1 N.ends.length c1, .slice A1' N.ids.length c1', .slice A1'' N.inputs.length c1''] 31 := by rw [HWA.out]; exact (BoxN.new' _ _ _ (by simp)).still (grown_alloc _ _)
  have bx2 : BoxN WA (w.heap.size + 1) #[.slice A2 zs.length c2] 23 := by rw [HWA.out]; exact (BoxN.new' _ _ _ (by simp))
  have G1 := Lib.hid (Net.below F1.out hbA hh1); clear F1
  have G2 := Lib.hid (IntS.below F2.out hbA hh2); clear F2
  go_enter Try.func43, Try.ntmps43
  go_upto_region 1 with (fail)
  rw [← HWA.out]; clear HWA
  have kbx1_0 : WA.cell? ⟨w.heap.size, 0, none⟩ = some (.slice A1 N.ends.length c1) := bx1.cell 0 (by simp)
  have kbx1_1 : WA.cell? ⟨w.heap.size, 1, none⟩ = some (.slice A1' N.ids.length c1') := bx1.cell 1 (by simp)
  have kbx1_2 : WA.cell? ⟨w.heap.size, 2, none⟩ = some (.slice A1'' N.inputs.length c1'') := bx1.cell 2 (by simp)
  have kbx2_0 : WA.cell? ⟨w.heap.size + 1, 0, none⟩ = some (.slice A2 zs.length c2) := bx2.cell 0 (by simp)
  have hl2 := bx2.lt
  skip
  obtain ⟨b, HB⟩ : ∃ b, Hid (((upTo N.ends.length).any fun x => !decide (x ∈ zs) && !hnB N x.toNat zs) = b) := ⟨_, Lib.hid rfl⟩
  have HLB := Lib.hid (ldB_any N zs)
  rw [HB.out] at HLB
  go_wp2_with (first | (go_at_call 44; refine (numbersTo_any N.ends.length _ hn).mono ?_; rintro e W1 ⟨r, rfl, hr, hb1⟩; have hs1 := hb1.size; have HR := Lib.hid hr; obtain ⟨Ar, cr, rfl, hcr, hdr⟩ := hr.dims; clear hr; rw [upTo_length] at hcr; have hlr := upTo_length N.ends.length) | (go_at_call 69; refine (ContainsFunc_int 70 #[.pointer (some ⟨w.heap.size + 1, 0, none⟩), .pointer (some ⟨w.heap.size, 0, none⟩)] (enters_of Try.func70 (by kernel_rfl) rfl) (fun x => !decide (x ∈ zs) && !hnB N x.toNat zs) _ (upTo N.ends.length) _ _ _ (by first | exact HR.out | (rw [upTo_length] at HR; exact HR.out)) (Nat.le_refl _) (fun x hx W hW => by
      obtain ⟨v, hv, rfl⟩ := mem_upTo'.1 hx
      have hbW : Below WA.heap.size WA W := hb1.trans (hW.mono hs1)
      have hWs := hbW.size
      exact dom1_any v (w.heap.size + 1) w.heap.size N zs _ _ _ _ _ _ _ lo1 hi1 lo2 hi2 W ((hbW.cell (p := ⟨w.heap.size + 1, 0, none⟩) (by show w.heap.size + 1 < _; omega)).trans kbx2_0) (bx1.below hbW bx1.lt) (G1.out.below hbW (by omega)) (by omega) (G2.out.below hbW (by omega)) (by omega) hv)).mono ?_; rintro e w' ⟨rfl, hb2⟩; rw [HB.out]))
  go_ret
  exact ⟨ret_bool HLB.out, hbA.trans ((hb1.trans (hb2.mono hs1)).mono (by omega))⟩

set_option maxHeartbeats 4000000 in
set_option maxRecDepth 100000 in
theorem LeastDominating_impl (v1 : Value) (N : NetD) (lo1 hi1 : Nat) (w : World) (h1 : Net w lo1 hi1 v1 N) (hh1 : hi1 ≤ w.heap.size) (hz1 : N.sz ≤ 1048576) (ok1 : N.Ok) :
    Calls Try.prog 10 #[v1] w fun e w' => ∃ r, e = .returned (.tuple #[r, .bool (ldOk N)]) ∧ IntS w' w.heap.size w'.heap.size r (ldOut N) ∧ Below w.heap.size w w' := by
  clear ok1
  have F1 := Lib.hid h1
  obtain ⟨A1, c1, A1', c1', A1'', c1'', rfl, hc1, hd1, _⟩ := h1.parts
  clear h1
  obtain ⟨WA, HWA⟩ : ∃ W, Hid (W = (w.alloc (.cells #[.slice A1 N.ends.length c1, .slice A1' N.ids.length c1', .slice A1'' N.inputs.length c1''] 31))) := ⟨_, Lib.hid rfl⟩
  have hbA : Below w.heap.size w WA := by rw [HWA.out]; exact ((Below.refl _ _).alloc (Nat.le_refl _) _)
  have hsA : w.heap.size + 1 ≤ WA.heap.size := by rw [HWA.out]; simp; try omega
  have bx1 : BoxN WA (w.heap.size) #[.slice A1 N.ends.length c1, .slice A1' N.ids.length c1', .slice A1'' N.inputs.length c1''] 31 := by rw [HWA.out]; exact (BoxN.new' _ _ _ (by simp))
  have G1 := Lib.hid (Net.below F1.out hbA hh1); clear F1
  go_enter Try.func10, Try.ntmps10
  go_upto_region 1 with (fail)
  rw [← HWA.out]; clear HWA
  have kbx1_0 : WA.cell? ⟨w.heap.size, 0, none⟩ = some (.slice A1 N.ends.length c1) := bx1.cell 0 (by simp)
  have kbx1_1 : WA.cell? ⟨w.heap.size, 1, none⟩ = some (.slice A1' N.ids.length c1') := bx1.cell 1 (by simp)
  have kbx1_2 : WA.cell? ⟨w.heap.size, 2, none⟩ = some (.slice A1'' N.inputs.length c1'') := bx1.cell 2 (by simp)
  go_wp2_with fail
  clear kbx1_0 kbx1_1 kbx1_2
  refine (IsNetwork_any _ N lo1 hi1 _ G1.out (by omega) hz1).mono ?_
  rintro e W1 ⟨rfl, hb1⟩
  have hg1 := grown_below hb1; clear hb1
  have hs1 := hg1.size
  have HF1 := Lib.hid ((Turned.refl WA.heap.size WA.heap.size WA).still hg1)
  by_cases hG : N.good = true
  case neg =>
    have hG' : N.good = false := by simpa using hG
    rw [hG']
    have HG := Lib.hid hG'; clear hG hG'
    go_wp2_with fail
    go_ret2
    exact ⟨_, ret_vb (show false = ldOk N by unfold ldOk; rw [HG.out]; simp), by unfold ldOut ldOk; rw [HG.out]; simp only [Bool.false_and]; exact IntS.nil _ _ _, (HF1.out.below_of hbA (by omega) (by omega))⟩
  rw [hG]
  have HG := Lib.hid hG; clear hG
  obtain ⟨n1, n40⟩ := good_n HG.out
  have kbx1_0 : W1.cell? ⟨w.heap.size, 0, none⟩ = some (.slice A1 N.ends.length c1) := (HF1.out.boxN bx1 (by omega)).cell 0 (by simp)
  have kbx1_1 : W1.cell? ⟨w.heap.size, 1, none⟩ = some (.slice A1' N.ids.length c1') := (HF1.out.boxN bx1 (by omega)).cell 1 (by simp)
  have kbx1_2 : W1.cell? ⟨w.heap.size, 2, none⟩ = some (.slice A1'' N.inputs.length c1'') := (HF1.out.boxN bx1 (by omega)).cell 2 (by simp)
  by_cases h14 : N.ends.length ≤ 14
  case neg =>
    have H14 := Lib.hid (decide_eq_false h14)
    have h14' : decide ((14 : Int) < N.ends.length) = true := decide_eq_true (by omega)
    have h14'' : 14 < N.ends.length := by omega
    go_wp2_with fail
    go_ret2
    exact ⟨_, ret_vb (show false = ldOk N by unfold ldOk; rw [H14.out]; simp), by unfold ldOut ldOk; rw [H14.out]; simp only [Bool.and_false]; exact IntS.nil _ _ _, (HF1.out.below_of hbA (by omega) (by omega))⟩
  have h14' : decide ((14 : Int) < N.ends.length) = false := decide_eq_false (by omega)
  have HOK := Lib.hid (show ldOk N = true by unfold ldOk; rw [HG.out, decide_eq_true h14]; rfl)
  obtain ⟨n, HNN⟩ : ∃ n, Hid (N.ends.length = n) := ⟨_, Lib.hid rfl⟩
  go_wp2_with fail
  clear kbx1_0 kbx1_1 kbx1_2
  go_loopw [21] (fun iv wr => ∃ (s : Nat), s ≤ N.ends.length ∧ iv = .int .i64 s ∧ Hid (∀ s' r', s' < s → r' < ch N.ends.length s' → ldB N (subN N.ends.length 0 s' r') = false) ∧ Hid (Turned WA.heap.size WA.heap.size WA wr)) (fun iv _ => N.ends.length - (intOf iv).toNat)
  case atStart => exact ⟨0, Nat.zero_le _, rfl, Lib.hid (fun s' r' h => absurd h (Nat.not_lt_zero _)), HF1⟩
  case round =>
    clear HF1
    obtain ⟨s, hs, rfl, HNO, HF2⟩ := hrel
    have hs2 := HF2.out.size
    by_cases hlt : s < N.ends.length
    case neg =>
      have hse : s = N.ends.length := by omega
      subst hse
      have HL1 := Lib.hid (show Ld1 N N.ends.length 0 from ⟨Nat.le_refl _, by rw [ch_self]; exact Nat.one_pos, ldB_full N, HNO.out, fun r' h => absurd h (Nat.not_lt_zero _)⟩)
      have HSET := Lib.hid (show ldOut N = upTo N.ends.length by rw [ldOut_yes HOK.out, HL1.out.set, subN_full]; unfold upTo; rw [List.range_eq_range'])
      go_wp2_with fail
      refine (numbersTo_any N.ends.length _ (by omega)).mono ?_
      rintro e W3 ⟨r, rfl, hr, hb3⟩
      have hg3 := grown_below hb3; clear hb3
      have hs3 := hg3.size
      have HF3 := Lib.hid (HF2.out.still hg3); clear HF2
      have R3 := Lib.hid hr; clear hr
      go_wp2_with fail
      go_ret2
      refine ⟨_, ret_vb HOK.out.symm, ?_, (HF3.out.below_of hbA (by omega) (by omega))⟩
      rw [HSET.out]
      exact IntS.mono R3.out (by omega) (by omega)
    have hsi : (s : Int) < N.ends.length := by omega
    obtain ⟨c, HC⟩ : ∃ c, Hid (ch N.ends.length s = c) := ⟨_, Lib.hid rfl⟩
    have hc60 : c ≤ 1152921504606846976 := by have := ch_small (n := N.ends.length) (k := s) (by omega); have := HC.out; omega
    have HCH := Lib.hid HC.out
    go_wp2_with fail
    refine (binomial_any N.ends.length s _ (by omega) (by omega)).mono ?_
    rintro e W4 ⟨rfl, hb4⟩
    have hg4 := grown_below hb4; clear hb4
    have hs4 := hg4.size
    have HF4 := Lib.hid (HF2.out.still hg4); clear HF2
    rw [HC.out]
    go_wp2_with fail
    go_loopw [27] (fun jv wr => ∃ (r : Nat), r ≤ c ∧ jv = .int .i64 r ∧ Hid (∀ r', r' < r → ldB N (subN N.ends.length 0 s r') = false) ∧ Hid (Turned WA.heap.size WA.heap.size WA wr)) (fun jv _ => c - (intOf jv).toNat)
    case atStart => exact ⟨0, Nat.zero_le _, rfl, Lib.hid (fun r' h => absurd h (Nat.not_lt_zero _)), HF4⟩
    case round =>
      clear HF4
      obtain ⟨r, hr, rfl, HIN, HF5⟩ := hrel
      have hs5 := HF5.out.size
      by_cases hrc : r < c
      case neg =>
        obtain rfl : r = c := by omega
        have HNN2 := Lib.hid (show ∀ s' r', s' < s + 1 → r' < ch N.ends.length s' → ldB N (subN N.ends.length 0 s' r') = false from fun s' r' h1 h2 => by
          by_cases e : s' = s
          · subst e; exact HIN.out r' (by rw [← HC.out]; exact h2)
          · exact HNO.out s' r' (by omega) h2)
        go_wp2_with fail
        go_roundw
        case rel => exact ⟨s + 1, by omega, by go_num, HNN2, HF5⟩
        case measure => simp [intOf]; omega
      have hrci : (r : Int) < (c : Int) := by omega
      have HRK := Lib.hid (show r < ch N.ends.length s by rw [HC.out]; exact hrc)
      obtain ⟨d, HD⟩ : ∃ d, Hid (ldB N (subN N.ends.length 0 s r) = d) := ⟨_, Lib.hid rfl⟩
      go_wp2_with fail
      refine (subsetAt_any N.ends.length s r _ (by omega) HRK.out).mono ?_
      rintro e W6 ⟨rs, rfl, hrs, hb6⟩
      have hg6 := grown_below hb6; clear hb6
      have hs6 := hg6.size
      have HF6 := Lib.hid (HF5.out.still hg6); clear HF5
      have S6 := Lib.hid hrs; clear hrs
      obtain ⟨As, cs, rfl, hcs, hds⟩ := S6.out.dims
      have kbx1_0 : W6.cell? ⟨w.heap.size, 0, none⟩ = some (.slice A1 N.ends.length c1) := (HF6.out.boxN bx1 (by omega)).cell 0 (by simp)
      have kbx1_1 : W6.cell? ⟨w.heap.size, 1, none⟩ = some (.slice A1' N.ids.length c1') := (HF6.out.boxN bx1 (by omega)).cell 1 (by simp)
      have kbx1_2 : W6.cell? ⟨w.heap.size, 2, none⟩ = some (.slice A1'' N.inputs.length c1'') := (HF6.out.boxN bx1 (by omega)).cell 2 (by simp)
      go_wp2_with fail
      clear kbx1_0 kbx1_1 kbx1_2
      refine (isDominating_any _ N lo1 hi1 _ (subN N.ends.length 0 s r) _ _ _ (Net.turned G1.out HF6.out (by omega) (by omega)) (by omega) S6.out (by omega) (by omega)).mono ?_
      rintro e W7 ⟨rfl, hb7⟩
      have hg7 := grown_below hb7; clear hb7
      have hs7 := hg7.size
      have HF7 := Lib.hid (HF6.out.still hg7); clear HF6
      have S7 := Lib.hid (IntS.still S6.out hg7 (by omega)); clear S6
      rw [HD.out]
      cases d with
      | true =>
        have HSET := Lib.hid (show ldOut N = subN N.ends.length 0 s r by rw [ldOut_yes HOK.out]; exact Ld1.set ⟨by omega, HRK.out, HD.out, HNO.out, HIN.out⟩)
        go_wp2_with fail
        go_ret2
        refine ⟨_, ret_vb HOK.out.symm, ?_, (HF7.out.below_of hbA (by omega) (by omega))⟩
        rw [HSET.out]
        exact IntS.mono S7.out (by omega) (by omega)
      | false =>
        have HIN2 := Lib.hid (show ∀ r', r' < r + 1 → ldB N (subN N.ends.length 0 s r') = false from fun r' h => by
          by_cases e : r' = r
          · rw [e]; exact HD.out
          · exact HIN.out r' (by omega))
        go_wp2_with fail
        go_roundw
        case rel => exact ⟨r + 1, by omega, by go_num, HIN2, HF7⟩
        case measure => simp [intOf]; omega

set_option maxHeartbeats 4000000 in
set_option maxRecDepth 100000 in
theorem LeastDominating_spec (v1 : Value) (N : NetD) (lo1 hi1 : Nat) (w : World) (h1 : Net w lo1 hi1 v1 N) (hh1 : hi1 ≤ w.heap.size) (hz1 : N.sz ≤ 1048576) (ok1 : N.Ok) :
    Calls Try.prog 8 #[v1] w fun e w' => ∃ r, e = .returned (.tuple #[r, .bool (ldOk N)]) ∧ IntS w' w.heap.size w'.heap.size r (ldOut N) ∧ Below w.heap.size w w' := by
  clear ok1
  have F1 := Lib.hid h1
  obtain ⟨A1, c1, A1', c1', A1'', c1'', rfl, hc1, hd1, _⟩ := h1.parts
  clear h1
  obtain ⟨WA, HWA⟩ : ∃ W, Hid (W = (w.alloc (.cells #[.slice A1 N.ends.length c1, .slice A1' N.ids.length c1', .slice A1'' N.inputs.length c1''] 31))) := ⟨_, Lib.hid rfl⟩
  have hbA : Below w.heap.size w WA := by rw [HWA.out]; exact ((Below.refl _ _).alloc (Nat.le_refl _) _)
  have hsA : w.heap.size + 1 ≤ WA.heap.size := by rw [HWA.out]; simp; try omega
  have bx1 : BoxN WA (w.heap.size) #[.slice A1 N.ends.length c1, .slice A1' N.ids.length c1', .slice A1'' N.inputs.length c1''] 31 := by rw [HWA.out]; exact (BoxN.new' _ _ _ (by simp))
  have G1 := Lib.hid (Net.below F1.out hbA hh1); clear F1
  go_enter Try.func8, Try.ntmps8
  go_upto_region 1 with (fail)
  rw [← HWA.out]; clear HWA
  have kbx1_0 : WA.cell? ⟨w.heap.size, 0, none⟩ = some (.slice A1 N.ends.length c1) := bx1.cell 0 (by simp)
  have kbx1_1 : WA.cell? ⟨w.heap.size, 1, none⟩ = some (.slice A1' N.ids.length c1') := bx1.cell 1 (by simp)
  have kbx1_2 : WA.cell? ⟨w.heap.size, 2, none⟩ = some (.slice A1'' N.inputs.length c1'') := bx1.cell 2 (by simp)
  go_wp2_with fail
  clear kbx1_0 kbx1_1 kbx1_2
  refine (neGood_any _ N lo1 hi1 _ G1.out (by omega) hz1).mono ?_
  rintro e W1 ⟨rfl, hb1⟩
  have hg1 := grown_below hb1; clear hb1
  have hs1 := hg1.size
  have HF1 := Lib.hid ((Turned.refl WA.heap.size WA.heap.size WA).still hg1)
  by_cases hG : N.good = true
  case neg =>
    have hG' : N.good = false := by simpa using hG
    rw [hG']
    have HG := Lib.hid hG'; clear hG hG'
    go_wp2_with fail
    go_ret2
    exact ⟨_, ret_vb (show false = ldOk N by unfold ldOk; rw [HG.out]; simp), by unfold ldOut ldOk; rw [HG.out]; simp only [Bool.false_and]; exact IntS.nil _ _ _, (HF1.out.below_of hbA (by omega) (by omega))⟩
  rw [hG]
  have HG := Lib.hid hG; clear hG
  obtain ⟨n1, n40⟩ := good_n HG.out
  have kbx1_0 : W1.cell? ⟨w.heap.size, 0, none⟩ = some (.slice A1 N.ends.length c1) := (HF1.out.boxN bx1 (by omega)).cell 0 (by simp)
  have kbx1_1 : W1.cell? ⟨w.heap.size, 1, none⟩ = some (.slice A1' N.ids.length c1') := (HF1.out.boxN bx1 (by omega)).cell 1 (by simp)
  have kbx1_2 : W1.cell? ⟨w.heap.size, 2, none⟩ = some (.slice A1'' N.inputs.length c1'') := (HF1.out.boxN bx1 (by omega)).cell 2 (by simp)
  by_cases h14 : N.ends.length ≤ 14
  case neg =>
    have H14 := Lib.hid (decide_eq_false h14)
    have h14' : decide ((14 : Int) < N.ends.length) = true := decide_eq_true (by omega)
    have h14'' : 14 < N.ends.length := by omega
    go_wp2_with fail
    go_ret2
    exact ⟨_, ret_vb (show false = ldOk N by unfold ldOk; rw [H14.out]; simp), by unfold ldOut ldOk; rw [H14.out]; simp only [Bool.and_false]; exact IntS.nil _ _ _, (HF1.out.below_of hbA (by omega) (by omega))⟩
  have h14' : decide ((14 : Int) < N.ends.length) = false := decide_eq_false (by omega)
  have HOK := Lib.hid (show ldOk N = true by unfold ldOk; rw [HG.out, decide_eq_true h14]; rfl)
  obtain ⟨n, HNN⟩ : ∃ n, Hid (N.ends.length = n) := ⟨_, Lib.hid rfl⟩
  go_wp2_with fail
  clear kbx1_0 kbx1_1 kbx1_2
  have HN0 := Lib.hid (show ∀ s' r', s' < 1 → r' < ch N.ends.length s' → ldB N (subN N.ends.length 0 s' r') = false from fun s' r' h _ => by
    obtain rfl : s' = 0 := by omega
    rw [subN_zero]
    exact ldB_nil (by omega))
  go_loopw [4] (fun iv wr => ∃ (s : Nat), s ≤ N.ends.length ∧ 1 ≤ s ∧ iv = .int .i64 s ∧ Hid (∀ s' r', s' < s → r' < ch N.ends.length s' → ldB N (subN N.ends.length 0 s' r') = false) ∧ Hid (Turned WA.heap.size WA.heap.size WA wr)) (fun iv _ => N.ends.length + 1 - (intOf iv).toNat)
  case atStart => exact ⟨1, n1, Nat.le_refl _, rfl, HN0, HF1⟩
  case round =>
    clear HF1
    obtain ⟨s, hs, hs1, rfl, HNO, HF2⟩ := hrel
    have hs2 := HF2.out.size
    have hsi : decide ((s : Int) ≤ N.ends.length) = true := decide_eq_true (by omega)
    obtain ⟨c, HC⟩ : ∃ c, Hid (ch N.ends.length s = c) := ⟨_, Lib.hid rfl⟩
    have hc60 : c ≤ 1152921504606846976 := by have := ch_small (n := N.ends.length) (k := s) (by omega); have := HC.out; omega
    have kbx1_0 : wr.cell? ⟨w.heap.size, 0, none⟩ = some (.slice A1 N.ends.length c1) := (HF2.out.boxN bx1 (by omega)).cell 0 (by simp)
    have kbx1_1 : wr.cell? ⟨w.heap.size, 1, none⟩ = some (.slice A1' N.ids.length c1') := (HF2.out.boxN bx1 (by omega)).cell 1 (by simp)
    have kbx1_2 : wr.cell? ⟨w.heap.size, 2, none⟩ = some (.slice A1'' N.inputs.length c1'') := (HF2.out.boxN bx1 (by omega)).cell 2 (by simp)
    go_wp2_with fail
    clear kbx1_0 kbx1_1 kbx1_2
    go_loopw [5] (fun jv wr => ∃ (r : Nat), r ≤ c ∧ jv = .int .i64 r ∧ Hid (∀ r', r' < r → ldB N (subN N.ends.length 0 s r') = false) ∧ Hid (Turned WA.heap.size WA.heap.size WA wr)) (fun jv _ => c - (intOf jv).toNat)
    case atStart => exact ⟨0, Nat.zero_le _, rfl, Lib.hid (fun r' h => absurd h (Nat.not_lt_zero _)), HF2⟩
    case round =>
      clear HF2
      obtain ⟨r, hr, rfl, HIN, HF3⟩ := hrel
      have hs3 := HF3.out.size
      have kbx1_0 : wr.cell? ⟨w.heap.size, 0, none⟩ = some (.slice A1 N.ends.length c1) := (HF3.out.boxN bx1 (by omega)).cell 0 (by simp)
      have kbx1_1 : wr.cell? ⟨w.heap.size, 1, none⟩ = some (.slice A1' N.ids.length c1') := (HF3.out.boxN bx1 (by omega)).cell 1 (by simp)
      have kbx1_2 : wr.cell? ⟨w.heap.size, 2, none⟩ = some (.slice A1'' N.inputs.length c1'') := (HF3.out.boxN bx1 (by omega)).cell 2 (by simp)
      go_wp2_with fail
      clear kbx1_0 kbx1_1 kbx1_2
      refine (nuChoose_any N.ends.length s _ (by omega) (by omega)).mono ?_
      rintro e W4 ⟨rfl, hb4⟩
      have hg4 := grown_below hb4; clear hb4
      have hs4 := hg4.size
      have HF4 := Lib.hid (HF3.out.still hg4); clear HF3
      rw [HC.out]
      by_cases hrc : r < c
      case neg =>
        obtain rfl : r = c := by omega
        have hdr : decide ((r : Int) < (r : Int)) = false := decide_eq_false (by omega)
        have hsn : s < N.ends.length := by
          by_cases e : s = N.ends.length
          · exfalso
            have h1 := HIN.out 0 (by rw [← HC.out, e, ch_self]; exact Nat.one_pos)
            rw [e, ldB_full] at h1
            cases h1
          · omega
        have HNN2 := Lib.hid (show ∀ s' r', s' < s + 1 → r' < ch N.ends.length s' → ldB N (subN N.ends.length 0 s' r') = false from fun s' r' h1 h2 => by
          by_cases e : s' = s
          · subst e; exact HIN.out r' (by rw [← HC.out]; exact h2)
          · exact HNO.out s' r' (by omega) h2)
        go_wp2_with fail
        go_roundw
        case rel => exact ⟨s + 1, by omega, by omega, by go_num, HNN2, HF4⟩
        case measure => simp [intOf]; omega
      have hrci : (r : Int) < (c : Int) := by omega
      have HRK := Lib.hid (show r < ch N.ends.length s by rw [HC.out]; exact hrc)
      obtain ⟨d, HD⟩ : ∃ d, Hid (ldB N (subN N.ends.length 0 s r) = d) := ⟨_, Lib.hid rfl⟩
      have HCB := Lib.hid (show coversB N (subN N.ends.length 0 s r) 1 = d by rw [coversB_is HG.out subN_nodes, HD.out])
      have kbx1_0 : W4.cell? ⟨w.heap.size, 0, none⟩ = some (.slice A1 N.ends.length c1) := (HF4.out.boxN bx1 (by omega)).cell 0 (by simp)
      have kbx1_1 : W4.cell? ⟨w.heap.size, 1, none⟩ = some (.slice A1' N.ids.length c1') := (HF4.out.boxN bx1 (by omega)).cell 1 (by simp)
      have kbx1_2 : W4.cell? ⟨w.heap.size, 2, none⟩ = some (.slice A1'' N.inputs.length c1'') := (HF4.out.boxN bx1 (by omega)).cell 2 (by simp)
      go_wp2_with fail
      clear kbx1_0 kbx1_1 kbx1_2
      refine (nuAt_any N.ends.length s r _ (by omega) HRK.out).mono ?_
      rintro e W5 ⟨rs, rfl, hrs, hb5⟩
      have hg5 := grown_below hb5; clear hb5
      have hs5 := hg5.size
      have HF5 := Lib.hid (HF4.out.still hg5); clear HF4
      have S5 := Lib.hid hrs; clear hrs
      obtain ⟨As, cs, rfl, hcs, hds⟩ := S5.out.dims
      have kbx1_0 : W5.cell? ⟨w.heap.size, 0, none⟩ = some (.slice A1 N.ends.length c1) := (HF5.out.boxN bx1 (by omega)).cell 0 (by simp)
      have kbx1_1 : W5.cell? ⟨w.heap.size, 1, none⟩ = some (.slice A1' N.ids.length c1') := (HF5.out.boxN bx1 (by omega)).cell 1 (by simp)
      have kbx1_2 : W5.cell? ⟨w.heap.size, 2, none⟩ = some (.slice A1'' N.inputs.length c1'') := (HF5.out.boxN bx1 (by omega)).cell 2 (by simp)
      go_wp2_with fail
      clear kbx1_0 kbx1_1 kbx1_2
      refine (ruCovers_any _ N lo1 hi1 _ (subN N.ends.length 0 s r) _ _ 1 _ (Net.turned G1.out HF5.out (by omega) (by omega)) (by omega) S5.out (by omega) HG.out (by have := subN_le N.ends.length 0 s r; omega) (fun k hk => subN_nodes _ (nth_mem hk))).mono ?_
      rintro e W6 ⟨rfl, hb6⟩
      have hg6 := grown_below hb6; clear hb6
      have hs6 := hg6.size
      have HF6 := Lib.hid (HF5.out.still hg6); clear HF5
      have S6 := Lib.hid (IntS.still S5.out hg6 (by omega)); clear S5
      rw [HCB.out]
      cases d with
      | true =>
        have HSET := Lib.hid (show ldOut N = subN N.ends.length 0 s r by rw [ldOut_yes HOK.out]; exact Ld1.set ⟨by omega, HRK.out, HD.out, HNO.out, HIN.out⟩)
        go_wp2_with fail
        go_ret2
        refine ⟨_, ret_vb HOK.out.symm, ?_, (HF6.out.below_of hbA (by omega) (by omega))⟩
        rw [HSET.out]
        exact IntS.mono S6.out (by omega) (by omega)
      | false =>
        have HIN2 := Lib.hid (show ∀ r', r' < r + 1 → ldB N (subN N.ends.length 0 s r') = false from fun r' h => by
          by_cases e : r' = r
          · rw [e]; exact HD.out
          · exact HIN.out r' (by omega))
        go_wp2_with fail
        go_roundw
        case rel => exact ⟨r + 1, by omega, by go_num, HIN2, HF6⟩
        case measure => simp [intOf]; omega

end Go.Proofs.Ytadihdhacmcobaa
