/-
  Contracts: numbers for all ports; orientations (program and reference).
-/
import Derived.Test.YtmfjdiccohgihaaEdge2
namespace Go.Proofs.Ytmfjdiccohgihaa
open Go.ChangeShapes Go.WideShapes Go.ChangeAt Go.RowKit
set_option linter.unusedVariables false

def portsB (N : NetD) (o : List (List Int)) : Bool := decide (o.length = N.ends.length) && (List.range o.length).all fun v => decide ((nthL o v).length = (nthL N.ends v).length)
def rowIn (o : List (List Int)) (lo hi : Int) (v : Nat) : Bool := (nthL o v).all fun x => inB x lo hi
def rowsIn (o : List (List Int)) (lo hi : Int) : Bool := (List.range o.length).all (rowIn o lo hi)
def portIn (N : NetD) (o : List (List Int)) (lo hi : Int) (v : Nat) : Bool := decide ((nthL o v).length = (nthL N.ends v).length) && rowIn o lo hi v
def portsIn (N : NetD) (o : List (List Int)) (lo hi : Int) : Bool := decide (o.length = N.ends.length) && (List.range o.length).all (portIn N o lo hi)
theorem range_and (n : Nat) (p q : Nat → Bool) : ((List.range n).all fun k => p k && q k) = ((List.range n).all p && (List.range n).all q) := by
  rw [Bool.eq_iff_iff]; simp only [List.all_eq_true, Bool.and_eq_true]
  exact ⟨fun h => ⟨fun k hk => (h k hk).1, fun k hk => (h k hk).2⟩, fun h k hk => ⟨h.1 k hk, h.2 k hk⟩⟩
theorem portsIn_eq (N : NetD) (o : List (List Int)) (lo hi : Int) : portsIn N o lo hi = (portsB N o && rowsIn o lo hi) := by
  unfold portsIn portsB rowsIn
  rw [Bool.and_assoc, ← range_and]
  rfl
def edgeSum (o : List (List Int)) (q : Quad) : Int := nth (nthL o q.v.toNat) q.i.toNat + nth (nthL o q.w.toNat) q.j.toNat
def edgeOne (o : List (List Int)) (q : Quad) : Bool := decide (edgeSum o q = 1)
theorem edgeOne_nat (o : List (List Int)) (a b c d : Nat) : edgeOne o ⟨a, b, c, d⟩ = decide (nth (nthL o a) b + nth (nthL o c) d = 1) := rfl
def oriE (N : NetD) (o : List (List Int)) : Bool := (edges N).all (edgeOne o)
def oriB (N : NetD) (o : List (List Int)) : Bool := (portsB N o && rowsIn o 0 1) && oriE N o
def oriOk (N : NetD) (o : List (List Int)) : Bool := N.stubless && oriB N o
theorem ports_len {N : NetD} {o : List (List Int)} (h : portsB N o = true) : o.length = N.ends.length := by unfold portsB at h; rw [Bool.and_eq_true] at h; simpa using h.1
theorem ports_row {N : NetD} {o : List (List Int)} (h : portsB N o = true) {v : Nat} (hv : v < N.ends.length) : (nthL o v).length = (nthL N.ends v).length := by
  have hl := ports_len h
  unfold portsB at h; rw [Bool.and_eq_true] at h
  simpa using rangeAll_at h.2 (by omega : v < o.length)
theorem rows_val {o : List (List Int)} {lo hi : Int} (h : rowsIn o lo hi = true) {v i : Nat} (hv : v < o.length) (hi' : i < (nthL o v).length) : lo ≤ nth (nthL o v) i ∧ nth (nthL o v) i ≤ hi := by
  have := rangeAll_at h hv
  unfold rowIn at this
  exact inB_le (all_nth.1 this i hi')
theorem all_range_nthQ (l : List Quad) (p : Quad → Bool) : ((List.range l.length).all fun k => p (nthQ l k)) = l.all p := by
  rw [Bool.eq_iff_iff, List.all_eq_true, List.all_eq_true]
  constructor
  · intro h q hq
    obtain ⟨k, hk, e⟩ := List.mem_iff_getElem.1 hq
    have := h k (List.mem_range.2 hk)
    rwa [nthQ_eq hk, e] at this
  · intro h k hk; exact h _ (nthQ_mem (List.mem_range.1 hk))

set_option maxHeartbeats 4000000 in
set_option maxRecDepth 100000 in
theorem portsOk_any (v1 : Value) (N : NetD) (lo1 hi1 : Nat) (v2 : Value) (o : List (List Int)) (lo2 hi2 : Nat) (w : World) (h1 : Net w lo1 hi1 v1 N) (hh1 : hi1 ≤ w.heap.size) (h2 : IntSS w lo2 hi2 v2 o) (hh2 : hi2 ≤ w.heap.size) (hg : N.good = true) :
    Calls Try.prog 70 #[v1, v2] w fun e w' => e = .returned (.bool (portsB N o)) ∧ Below w.heap.size w w' := by
  obtain ⟨n1, n40⟩ := good_n hg
  have HG := Lib.hid hg; clear hg
  have F1 := Lib.hid h1
  obtain ⟨A1, c1, A1', c1', A1'', c1'', rfl, hc1, hd1, _⟩ := h1.parts
  obtain ⟨b1, o1, _, _, rfl, _⟩ := Net.rowAt F1.out (u := 0) (by omega)
  clear h1
  have F2 := Lib.hid h2
  obtain ⟨A2, c2, rfl, hc2, hd2⟩ := h2.dims
  clear h2
  obtain ⟨WA, HWA⟩ : ∃ W, Hid (W = (w.alloc (.cells #[.slice (some ⟨b1, o1, none⟩) N.ends.length c1, .slice A1' N.ids.length c1', .slice A1'' N.inputs.length c1''] 33))) := ⟨_, Lib.hid rfl⟩
  have hbA : Below w.heap.size w WA := by rw [HWA.out]; exact ((Below.refl _ _).alloc (Nat.le_refl _) _)
  have hsA : w.heap.size + 1 ≤ WA.heap.size := by rw [HWA.out]; simp; try omega
  have bx1 : BoxN WA (w.heap.size) #[.slice (some ⟨b1, o1, none⟩) N.ends.length c1, .slice A1' N.ids.length c1', .slice A1'' N.inputs.length c1''] 33 := by rw [HWA.out]; exact (BoxN.new' _ _ _ (by simp))
  have G1 := Lib.hid (Net.below F1.out hbA hh1); clear F1
  have G2 := Lib.hid (ISS.below F2.out hbA hh2); clear F2
  go_enter Try.func70, Try.ntmps70
  go_upto_region 1 with (fail)
  rw [← HWA.out]; clear HWA
  have kbx1_0 : WA.cell? ⟨w.heap.size, 0, none⟩ = some (.slice (some ⟨b1, o1, none⟩) N.ends.length c1) := bx1.cell 0 (by simp)
  have kbx1_1 : WA.cell? ⟨w.heap.size, 1, none⟩ = some (.slice A1' N.ids.length c1') := bx1.cell 1 (by simp)
  have kbx1_2 : WA.cell? ⟨w.heap.size, 2, none⟩ = some (.slice A1'' N.inputs.length c1'') := bx1.cell 2 (by simp)
  by_cases hl : o.length = N.ends.length
  case neg =>
    have hl' : ((o.length : Int) != (N.ends.length : Int)) = true := by simp; omega
    go_wp2_with fail
    go_ret
    exact ⟨ret_bool (by unfold portsB; rw [decide_eq_false hl]; rfl), hbA⟩
  have hl' : ((o.length : Int) != (N.ends.length : Int)) = false := by simp; omega
  have HL := Lib.hid hl
  have hle : o.length ≤ N.ends.length := by omega
  clear hl
  go_wp2_with fail
  go_loop [15] (fun i => ∃ (k : Nat), k ≤ o.length ∧ i = .int .i64 k ∧ Hid (∀ j, j < k → decide ((nthL o j).length = (nthL N.ends j).length) = true)) (fun i => o.length - (intOf i).toNat)
  case atStart => exact ⟨0, Nat.zero_le _, rfl, Lib.hid fun j hj => absurd hj (by omega)⟩
  case round =>
    obtain ⟨k, hk, rfl, HU⟩ := hrel
    by_cases hlt : k < o.length
    case neg =>
      obtain rfl : k = o.length := by omega
      go_wp2_with fail
      go_ret
      exact ⟨ret_bool (by unfold portsB; rw [decide_eq_true HL.out, rangeAll_true HU.out]; rfl), hbA⟩
    obtain ⟨Ar, cr, hbr, qr, hcr, hdr, hRr⟩ := Net.rowIn G1.out (Nat.lt_of_lt_of_le hlt hle)
    have Rr := Lib.hid hRr; clear hRr
    obtain ⟨bs, os, us, rfl, _, hbs, zs, hus⟩ := SS.opened G2.out hlt
    obtain ⟨As, cs, rfl, hcs, hds⟩ := hus.dims
    have Us := Lib.hid hus; clear hus
    have hki : (k : Int) < N.ends.length := by omega
    by_cases he : (nthL o k).length = (nthL N.ends k).length
    case neg =>
      have he' : (((nthL o k).length : Int) != ((nthL N.ends k).length : Int)) = true := by simp; omega
      have HE := Lib.hid he; clear he
      go_wp2_with fail
      go_ret
      exact ⟨ret_bool (by unfold portsB; rw [rangeAll_false hlt (decide_eq_false HE.out), Bool.and_false]), hbA⟩
    have he' : (((nthL o k).length : Int) != ((nthL N.ends k).length : Int)) = false := by simp; omega
    have HE := Lib.hid he; clear he
    go_wp2_with fail
    go_round
    case rel =>
      refine ⟨k + 1, by omega, by go_num, Lib.hid fun j hj => ?_⟩
      by_cases e : j = k
      · rw [e]; exact decide_eq_true HE.out
      · exact HU.out j (by omega)
    case measure => simp [intOf]; omega

set_option maxHeartbeats 4000000 in
set_option maxRecDepth 100000 in
theorem orPorts_any (v1 : Value) (N : NetD) (lo1 hi1 : Nat) (v2 : Value) (o : List (List Int)) (lo2 hi2 : Nat) (lo : Int) (hi : Int) (w : World) (h1 : Net w lo1 hi1 v1 N) (hh1 : hi1 ≤ w.heap.size) (h2 : IntSS w lo2 hi2 v2 o) (hh2 : hi2 ≤ w.heap.size) (hg : N.good = true) :
    Calls Try.prog 31 #[v1, v2, .int .i64 lo, .int .i64 hi] w fun e w' => e = .returned (.bool (portsIn N o lo hi)) ∧ Below w.heap.size w w' := by
  obtain ⟨n1, n40⟩ := good_n hg
  have HG := Lib.hid hg; clear hg
  have F1 := Lib.hid h1
  obtain ⟨A1, c1, A1', c1', A1'', c1'', rfl, hc1, hd1, _⟩ := h1.parts
  obtain ⟨b1, o1, _, _, rfl, _⟩ := Net.rowAt F1.out (u := 0) (by omega)
  clear h1
  have F2 := Lib.hid h2
  obtain ⟨A2, c2, rfl, hc2, hd2⟩ := h2.dims
  clear h2
  obtain ⟨WA, HWA⟩ : ∃ W, Hid (W = (w.alloc (.cells #[.slice (some ⟨b1, o1, none⟩) N.ends.length c1, .slice A1' N.ids.length c1', .slice A1'' N.inputs.length c1''] 33))) := ⟨_, Lib.hid rfl⟩
  have hbA : Below w.heap.size w WA := by rw [HWA.out]; exact ((Below.refl _ _).alloc (Nat.le_refl _) _)
  have hsA : w.heap.size + 1 ≤ WA.heap.size := by rw [HWA.out]; simp; try omega
  have bx1 : BoxN WA (w.heap.size) #[.slice (some ⟨b1, o1, none⟩) N.ends.length c1, .slice A1' N.ids.length c1', .slice A1'' N.inputs.length c1''] 33 := by rw [HWA.out]; exact (BoxN.new' _ _ _ (by simp))
  have G1 := Lib.hid (Net.below F1.out hbA hh1); clear F1
  have G2 := Lib.hid (ISS.below F2.out hbA hh2); clear F2
  go_enter Try.func31, Try.ntmps31
  go_upto_region 1 with (fail)
  rw [← HWA.out]; clear HWA
  have kbx1_0 : WA.cell? ⟨w.heap.size, 0, none⟩ = some (.slice (some ⟨b1, o1, none⟩) N.ends.length c1) := bx1.cell 0 (by simp)
  have kbx1_1 : WA.cell? ⟨w.heap.size, 1, none⟩ = some (.slice A1' N.ids.length c1') := bx1.cell 1 (by simp)
  have kbx1_2 : WA.cell? ⟨w.heap.size, 2, none⟩ = some (.slice A1'' N.inputs.length c1'') := bx1.cell 2 (by simp)
  by_cases hl : o.length = N.ends.length
  case neg =>
    have hl' : ((o.length : Int) != (N.ends.length : Int)) = true := by simp; omega
    go_wp2_with fail
    go_ret
    exact ⟨ret_bool (by unfold portsIn; rw [decide_eq_false hl]; rfl), hbA⟩
  have hl' : ((o.length : Int) != (N.ends.length : Int)) = false := by simp; omega
  have HL := Lib.hid hl
  have hle : o.length ≤ N.ends.length := by omega
  clear hl
  go_wp2_with fail
  go_loop [19] (fun i => ∃ (k : Nat), k ≤ o.length ∧ i = .int .i64 k ∧ Hid (∀ j, j < k → portIn N o lo hi j = true)) (fun i => o.length - (intOf i).toNat)
  case atStart => exact ⟨0, Nat.zero_le _, rfl, Lib.hid fun j hj => absurd hj (by omega)⟩
  case round =>
    obtain ⟨k, hk, rfl, HU⟩ := hrel
    by_cases hlt : k < o.length
    case neg =>
      obtain rfl : k = o.length := by omega
      go_wp2_with fail
      go_ret
      exact ⟨ret_bool (by unfold portsIn; rw [decide_eq_true HL.out, rangeAll_true HU.out]; rfl), hbA⟩
    obtain ⟨Ar, cr, hbr, qr, hcr, hdr, hRr⟩ := Net.rowIn G1.out (Nat.lt_of_lt_of_le hlt hle)
    have Rr := Lib.hid hRr; clear hRr
    obtain ⟨bs, os, us, rfl, _, hbs, zs, hus⟩ := SS.opened G2.out hlt
    obtain ⟨As, cs, rfl, hcs, hds⟩ := hus.dims
    have Us := Lib.hid hus; clear hus
    have hki : (k : Int) < N.ends.length := by omega
    by_cases he : (nthL o k).length = (nthL N.ends k).length
    case neg =>
      have he' : (((nthL o k).length : Int) != ((nthL N.ends k).length : Int)) = true := by simp; omega
      have HE := Lib.hid he; clear he
      go_wp2_with fail
      go_ret
      exact ⟨ret_bool (by unfold portsIn; rw [rangeAll_false hlt (by unfold portIn; rw [decide_eq_false HE.out]; rfl), Bool.and_false]), hbA⟩
    have he' : (((nthL o k).length : Int) != ((nthL N.ends k).length : Int)) = false := by simp; omega
    have HE := Lib.hid he; clear he
    cases hq : rowIn o lo hi k with
    | false =>
      have HQ := Lib.hid hq; clear hq
      go_wp2_with (go_at_call 63; refine (l1All_any _ (nthL o k) lo hi _ _ _ Us.out).mono ?_; rintro e w' ⟨rfl, rfl⟩; rw [show ((nthL o k).all fun x => inB x lo hi) = false from HQ.out])
      go_ret
      exact ⟨ret_bool (by unfold portsIn; rw [rangeAll_false hlt (by unfold portIn; rw [HQ.out, Bool.and_false]), Bool.and_false]), hbA⟩
    | true =>
      have HQ := Lib.hid hq; clear hq
      go_wp2_with (go_at_call 63; refine (l1All_any _ (nthL o k) lo hi _ _ _ Us.out).mono ?_; rintro e w' ⟨rfl, rfl⟩; rw [show ((nthL o k).all fun x => inB x lo hi) = true from HQ.out])
      go_round
      case rel =>
        refine ⟨k + 1, by omega, by go_num, Lib.hid fun j hj => ?_⟩
        by_cases e : j = k
        · rw [e]; unfold portIn; rw [decide_eq_true HE.out, HQ.out]; rfl
        · exact HU.out j (by omega)
      case measure => simp [intOf]; omega

end Go.Proofs.Ytmfjdiccohgihaa
