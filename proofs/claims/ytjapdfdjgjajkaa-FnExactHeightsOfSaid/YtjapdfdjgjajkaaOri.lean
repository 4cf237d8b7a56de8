/-
  Contracts: numbers for all ports; orientations (program and reference).
-/
import Derived.Test.YtjapdfdjgjajkaaEdge2
namespace Go.Proofs.Ytjapdfdjgjajkaa
open Go.ChangeShapes Go.WideShapes Go.ChangeAt Go.RowKit
set_option linter.unusedVariables false

def portsB (N : NetD) (o : List (List Int)) : Bool := decide (o.length = N.ends.length) && (List.range o.length).all fun v => decide ((nthL o v).length = (nthL N.ends v).length)
def rowIn (o : List (List Int)) (lo hi : Int) (v : Nat) : Bool := (nthL o v).all fun x => inB x lo hi
def rowsIn (o : List (List Int)) (lo hi : Int) : Bool := (List.range o.length).all (rowIn o lo hi)
def portIn (N : NetD) (o : List (List Int)) (lo hi : Int) (v : Nat) : Bool := decide ((nthL o v).length = (nthL N.ends v).length) && rowIn o lo hi v
def portsIn (N : NetD) (o : List (List Int)) (lo hi : Int) : Bool := decide (o.length = N.ends.length) && (List.range o.length).all (portIn N o lo hi)
theorem range_and (n : Nat) (p q : Nat → Bool) : ((List.range n).all fun k => p k && q k) = ((List.range n).all p && (List.range n).all q) := by
  rw [Bool.eq_iff_iff]; simp only [List.all_eq_true, Bool.and_eq_true]
  exact ⟨fun h => ⟨fun k hk => (h k hk).1, fun k hk => (h k hk).2⟩, fun h k hk => ⟨h.1 k hk, h.2 k hk⟩⟩
theorem portsIn_eq (N : NetD) (o : List (List Int)) (lo hi : Int) : portsIn N o lo hi = (portsB N o && rowsIn o lo hi) := by
  unfold portsIn portsB rowsIn
  rw [Bool.and_assoc, ← range_and]
  rfl
def edgeSum (o : List (List Int)) (q : Quad) : Int := nth (nthL o q.v.toNat) q.i.toNat + nth (nthL o q.w.toNat) q.j.toNat
def edgeOne (o : List (List Int)) (q : Quad) : Bool := decide (edgeSum o q = 1)
theorem edgeOne_nat (o : List (List Int)) (a b c d : Nat) : edgeOne o ⟨a, b, c, d⟩ = decide (nth (nthL o a) b + nth (nthL o c) d = 1) := rfl
def oriE (N : NetD) (o : List (List Int)) : Bool := (edges N).all (edgeOne o)
def oriB (N : NetD) (o : List (List Int)) : Bool := (portsB N o && rowsIn o 0 1) && oriE N o
def oriOk (N : NetD) (o : List (List Int)) : Bool := N.stubless && oriB N o
theorem ports_len {N : NetD} {o : List (List Int)} (h : portsB N o = true) : o.length = N.ends.length := by unfold portsB at h; rw [Bool.and_eq_true] at h; simpa using h.1
theorem ports_row {N : NetD} {o : List (List Int)} (h : portsB N o = true) {v : Nat} (hv : v < N.ends.length) : (nthL o v).length = (nthL N.ends v).length := by
  have hl := ports_len h
  unfold portsB at h; rw [Bool.and_eq_true] at h
  simpa using rangeAll_at h.2 (by omega : v < o.length)
theorem rows_val {o : List (List Int)} {lo hi : Int} (h : rowsIn o lo hi = true) {v i : Nat} (hv : v < o.length) (hi' : i < (nthL o v).length) : lo ≤ nth (nthL o v) i ∧ nth (nthL o v) i ≤ hi := by
  have := rangeAll_at h hv
  unfold rowIn at this
  exact inB_le (all_nth.1 this i hi')
theorem all_range_nthQ (l : List Quad) (p : Quad → Bool) : ((List.range l.length).all fun k => p (nthQ l k)) = l.all p := by
  rw [Bool.eq_iff_iff, List.all_eq_true, List.all_eq_true]
  constructor
  · intro h q hq
    obtain ⟨k, hk, e⟩ := List.mem_iff_getElem.1 hq
    have := h k (List.mem_range.2 hk)
    rwa [nthQ_eq hk, e] at this
  · intro h k hk; exact h _ (nthQ_mem (List.mem_range.1 hk))

set_option maxHeartbeats 4000000 in
set_option maxRecDepth 100000 in
theorem portsOk_any (v1 : Value) (N : NetD) (lo1 hi1 : Nat) (v2 : Value) (o : List (List Int)) (lo2 hi2 : Nat) (w : World) (h1 : Net w lo1 hi1 v1 N) (hh1 : hi1 ≤ w.heap.size) (h2 : IntSS w lo2 hi2 v2 o) (hh2 : hi2 ≤ w.heap.size) (hg : N.good = true) :
    Calls Try.prog 75 #[v1, v2] w fun e w' => e = .returned (.bool (portsB N o)) ∧ Below w.heap.size w w' := by
  obtain ⟨n1, n40⟩ := good_n hg
  have HG := Lib.hid hg; clear hg
  have F1 := Lib.hid h1
  obtain ⟨A1, c1, A1', c1', A1'', c1'', rfl, hc1, hd1, _⟩ := h1.parts
  obtain ⟨b1, o1, _, _, rfl, _⟩ := Net.rowAt F1.out (u := 0) (by omega)
  clear h1
  have F2 := Lib.hid h2
  obtain ⟨A2, c2, rfl, hc2, hd2⟩ := h2.dims
  clear h2
  obtain ⟨WA, HWA⟩ : ∃ W, Hid (W = (w.alloc (.cells #[.slice (some ⟨b1, o1, none⟩) N.ends.length c1, .slice A1' N.ids.length c1', .slice A1'' N.inputs.length c1''] 32))) := ⟨_, Lib.hid rfl⟩
  have hbA : Below w.heap.size w WA := by rw [HWA.out]; exact ((Below.refl _ _).alloc (Nat.le_refl _) _)
  have hsA : w.heap.size + 1 ≤ WA.heap.size := by rw [HWA.out]; simp; try omega
  have bx1 : BoxN WA (w.heap.size) #[.slice (some ⟨b1, o1, none⟩) N.ends.length c1, .slice A1' N.ids.length c1', .slice A1'' N.inputs.length c1''] 32 := by rw [HWA.out]; exact (BoxN.new' _ _ _ (by simp))
  have G1 := Lib.hid (Net.below F1.out hbA hh1); clear F1
  have G2 := Lib.hid (ISS.below F2.out hbA hh2); clear F2
  go_enter Try.func75, Try.ntmps75
  go_upto_region 1 with (fail)
  rw [← HWA.out]; clear HWA
  have kbx1_0 : WA.cell? ⟨w.heap.size, 0, none⟩ = some (.slice (some ⟨b1, o1, none⟩) N.ends.length c1) := bx1.cell 0 (by simp)
  have kbx1_1 : WA.cell? ⟨w.heap.size, 1, none⟩ = some (.slice A1' N.ids.length c1') := bx1.cell 1 (by simp)
  have kbx1_2 : WA.cell? ⟨w.heap.size, 2, none⟩ = some (.slice A1'' N.inputs.length c1'') := bx1.cell 2 (by simp)
  by_cases hl : o.length = N.ends.length
  case neg =>
    have hl' : ((o.length : Int) != (N.ends.length : Int)) = true := by simp; omega
    go_wp2_with fail
    go_ret
    exact ⟨ret_bool (by unfold portsB; rw [decide_eq_false hl]; rfl), hbA⟩
  have hl' : ((o.length : Int) != (N.ends.length : Int)) = false := by simp; omega
  have HL := Lib.hid hl
  have hle : o.length ≤ N.ends.length := by omega
  clear hl
  go_wp2_with fail
  go_loop [15] (fun i => ∃ (k : Nat), k ≤ o.length ∧ i = .int .i64 k ∧ Hid (∀ j, j < k → decide ((nthL o j).length = (nthL N.ends j).length) = true)) (fun i => o.length - (intOf i).toNat)
  case atStart => exact ⟨0, Nat.zero_le _, rfl, Lib.hid fun j hj => absurd hj (by omega)⟩
  case round =>
    obtain ⟨k, hk, rfl, HU⟩ := hrel
    by_cases hlt : k < o.length
    case neg =>
      obtain rfl : k = o.length := by omega
      go_wp2_with fail
      go_ret
      exact ⟨ret_bool (by unfold portsB; rw [decide_eq_true HL.out, rangeAll_true HU.out]; rfl), hbA⟩
    obtain ⟨Ar, cr, hbr, qr, hcr, hdr, hRr⟩ := Net.rowIn G1.out (Nat.lt_of_lt_of_le hlt hle)
    have Rr := Lib.hid hRr; clear hRr
    obtain ⟨bs, os, us, rfl, _, hbs, zs, hus⟩ := SS.opened G2.out hlt
    obtain ⟨As, cs, rfl, hcs, hds⟩ := hus.dims
    have Us := Lib.hid hus; clear hus
    have hki : (k : Int) < N.ends.length := by omega
    by_cases he : (nthL o k).length = (nthL N.ends k).length
    case neg =>
      have he' : (((nthL o k).length : Int) != ((nthL N.ends k).length : Int)) = true := by simp; omega
      have HE := Lib.hid he; clear he
      go_wp2_with fail
      go_ret
      exact ⟨ret_bool (by unfold portsB; rw [rangeAll_false hlt (decide_eq_false HE.out), Bool.and_false]), hbA⟩
    have he' : (((nthL o k).length : Int) != ((nthL N.ends k).length : Int)) = false := by simp; omega
    have HE := Lib.hid he; clear he
    go_wp2_with fail
    go_round
    case rel =>
      refine ⟨k + 1, by omega, by go_num, Lib.hid fun j hj => ?_⟩
      by_cases e : j = k
      · rw [e]; exact decide_eq_true HE.out
      · exact HU.out j (by omega)
    case measure => simp [intOf]; omega

set_option maxHeartbeats 4000000 in
set_option maxRecDepth 100000 in
theorem orPorts_any (v1 : Value) (N : NetD) (lo1 hi1 : Nat) (v2 : Value) (o : List (List Int)) (lo2 hi2 : Nat) (lo : Int) (hi : Int) (w : World) (h1 : Net w lo1 hi1 v1 N) (hh1 : hi1 ≤ w.heap.size) (h2 : IntSS w lo2 hi2 v2 o) (hh2 : hi2 ≤ w.heap.size) (hg : N.good = true) :
    Calls Try.prog 87 #[v1, v2, .int .i64 lo, .int .i64 hi] w fun e w' => e = .returned (.bool (portsIn N o lo hi)) ∧ Below w.heap.size w w' := by
  obtain ⟨n1, n40⟩ := good_n hg
  have HG := Lib.hid hg; clear hg
  have F1 := Lib.hid h1
  obtain ⟨A1, c1, A1', c1', A1'', c1'', rfl, hc1, hd1, _⟩ := h1.parts
  obtain ⟨b1, o1, _, _, rfl, _⟩ := Net.rowAt F1.out (u := 0) (by omega)
  clear h1
  have F2 := Lib.hid h2
  obtain ⟨A2, c2, rfl, hc2, hd2⟩ := h2.dims
  clear h2
  obtain ⟨WA, HWA⟩ : ∃ W, Hid (W = (w.alloc (.cells #[.slice (some ⟨b1, o1, none⟩) N.ends.length c1, .slice A1' N.ids.length c1', .slice A1'' N.inputs.length c1''] 32))) := ⟨_, Lib.hid rfl⟩
  have hbA : Below w.heap.size w WA := by rw [HWA.out]; exact ((Below.refl _ _).alloc (Nat.le_refl _) _)
  have hsA : w.heap.size + 1 ≤ WA.heap.size := by rw [HWA.out]; simp; try omega
  have bx1 : BoxN WA (w.heap.size) #[.slice (some ⟨b1, o1, none⟩) N.ends.length c1, .slice A1' N.ids.length c1', .slice A1'' N.inputs.length c1''] 32 := by rw [HWA.out]; exact (BoxN.new' _ _ _ (by simp))
  have G1 := Lib.hid (Net.below F1.out hbA hh1); clear F1
  have G2 := Lib.hid (ISS.below F2.out hbA hh2); clear F2
  go_enter Try.func87, Try.ntmps87
  go_upto_region 1 with (fail)
  rw [← HWA.out]; clear HWA
  have kbx1_0 : WA.cell? ⟨w.heap.size, 0, none⟩ = some (.slice (some ⟨b1, o1, none⟩) N.ends.length c1) := bx1.cell 0 (by simp)
  have kbx1_1 : WA.cell? ⟨w.heap.size, 1, none⟩ = some (.slice A1' N.ids.length c1') := bx1.cell 1 (by simp)
  have kbx1_2 : WA.cell? ⟨w.heap.size, 2, none⟩ = some (.slice A1'' N.inputs.length c1'') := bx1.cell 2 (by simp)
  by_cases hl : o.length = N.ends.length
  case neg =>
    have hl' : ((o.length : Int) != (N.ends.length : Int)) = true := by simp; omega
    go_wp2_with fail
    go_ret
    exact ⟨ret_bool (by unfold portsIn; rw [decide_eq_false hl]; rfl), hbA⟩
  have hl' : ((o.length : Int) != (N.ends.length : Int)) = false := by simp; omega
  have HL := Lib.hid hl
  have hle : o.length ≤ N.ends.length := by omega
  clear hl
  go_wp2_with fail
  go_loop [19] (fun i => ∃ (k : Nat), k ≤ o.length ∧ i = .int .i64 k ∧ Hid (∀ j, j < k → portIn N o lo hi j = true)) (fun i => o.length - (intOf i).toNat)
  case atStart => exact ⟨0, Nat.zero_le _, rfl, Lib.hid fun j hj => absurd hj (by omega)⟩
  case round =>
    obtain ⟨k, hk, rfl, HU⟩ := hrel
    by_cases hlt : k < o.length
    case neg =>
      obtain rfl : k = o.length := by omega
      go_wp2_with fail
      go_ret
      exact ⟨ret_bool (by unfold portsIn; rw [decide_eq_true HL.out, rangeAll_true HU.out]; rfl), hbA⟩
    obtain ⟨Ar, cr, hbr, qr, hcr, hdr, hRr⟩ := Net.rowIn G1.out (Nat.lt_of_lt_of_le hlt hle)
    have Rr := Lib.hid hRr; clear hRr
    obtain ⟨bs, os, us, rfl, _, hbs, zs, hus⟩ := SS.opened G2.out hlt
    obtain ⟨As, cs, rfl, hcs, hds⟩ := hus.dims
    have Us := Lib.hid hus; clear hus
    have hki : (k : Int) < N.ends.length := by omega
    by_cases he : (nthL o k).length = (nthL N.ends k).length
    case neg =>
      have he' : (((nthL o k).length : Int) != ((nthL N.ends k).length : Int)) = true := by simp; omega
      have HE := Lib.hid he; clear he
      go_wp2_with fail
      go_ret
      exact ⟨ret_bool (by unfold portsIn; rw [rangeAll_false hlt (by unfold portIn; rw [decide_eq_false HE.out]; rfl), Bool.and_false]), hbA⟩
    have he' : (((nthL o k).length : Int) != ((nthL N.ends k).length : Int)) = false := by simp; omega
    have HE := Lib.hid he; clear he
    cases hq : rowIn o lo hi k with
    | false =>
      have HQ := Lib.hid hq; clear hq
      go_wp2_with (go_at_call 63; refine (l1All_any _ (nthL o k) lo hi _ _ _ Us.out).mono ?_; rintro e w' ⟨rfl, rfl⟩; rw [show ((nthL o k).all fun x => inB x lo hi) = false from HQ.out])
      go_ret
      exact ⟨ret_bool (by unfold portsIn; rw [rangeAll_false hlt (by unfold portIn; rw [HQ.out, Bool.and_false]), Bool.and_false]), hbA⟩
    | true =>
      have HQ := Lib.hid hq; clear hq
      go_wp2_with (go_at_call 63; refine (l1All_any _ (nthL o k) lo hi _ _ _ Us.out).mono ?_; rintro e w' ⟨rfl, rfl⟩; rw [show ((nthL o k).all fun x => inB x lo hi) = true from HQ.out])
      go_round
      case rel =>
        refine ⟨k + 1, by omega, by go_num, Lib.hid fun j hj => ?_⟩
        by_cases e : j = k
        · rw [e]; unfold portIn; rw [decide_eq_true HE.out, HQ.out]; rfl
        · exact HU.out j (by omega)
      case measure => simp [intOf]; omega

set_option maxHeartbeats 4000000 in
set_option maxRecDepth 100000 in
theorem isOri1_any (a b c d g : Nat) (A : Option Addr) (cp : Nat) (o : List (List Int)) (lo hi : Nat) (w : World) (hbx : BoxN w g #[.slice A o.length cp] 27) (hO : IntSS w lo hi (.slice A o.length cp) o) (hhi : hi ≤ w.heap.size)
    (ha : a < o.length) (hb : b < (nthL o a).length) (hc : c < o.length) (hd : d < (nthL o c).length) (hr : rowsIn o 0 1 = true) :
    Calls Try.prog 78 #[.agg #[.int .i64 a, .int .i64 b, .int .i64 c, .int .i64 d], .pointer (some ⟨g, 0, none⟩)] w fun e w' => e = .returned (.bool (!edgeOne o ⟨a, b, c, d⟩)) ∧ Below w.heap.size w w' := by
  obtain ⟨x1, x2⟩ := rows_val hr ha hb
  obtain ⟨x3, x4⟩ := rows_val hr hc hd
  clear hr
  have gl := hbx.lt
  obtain ⟨WA, HWA⟩ : ∃ W, Hid (W = w.alloc (.cells #[.int .i64 a, .int .i64 b, .int .i64 c, .int .i64 d] 95)) := ⟨_, Lib.hid rfl⟩
  have hbA : Below w.heap.size w WA := by rw [HWA.out]; exact below_a1 _ _
  have bxe : BoxN WA w.heap.size #[.int .i64 a, .int .i64 b, .int .i64 c, .int .i64 d] 95 := by rw [HWA.out]; exact BoxN.new _ _ _
  have k0 : WA.cell? ⟨w.heap.size, 0, none⟩ = some (.int .i64 a) := bxe.cell 0 (by simp)
  have k1 : WA.cell? ⟨w.heap.size, 1, none⟩ = some (.int .i64 b) := bxe.cell 1 (by simp)
  have k2 : WA.cell? ⟨w.heap.size, 2, none⟩ = some (.int .i64 c) := bxe.cell 2 (by simp)
  have k3 : WA.cell? ⟨w.heap.size, 3, none⟩ = some (.int .i64 d) := bxe.cell 3 (by simp)
  have kg : WA.cell? ⟨g, 0, none⟩ = some (.slice A o.length cp) := (hbx.below hbA gl).cell 0 (by simp)
  have hO' := ISS.below hO hbA hhi
  obtain ⟨bo, oo, u1, rfl, _, hbo, z1, hu1⟩ := SS.opened hO' ha
  obtain ⟨u2, _, z2, hu2⟩ := SS.openedIn hO' hc
  obtain ⟨A1, c1, rfl, _, _⟩ := hu1.dims
  obtain ⟨A2, c2, rfl, _, _⟩ := hu2.dims
  obtain ⟨b1, o1, rfl, _, _, y1, _⟩ := hu1.opened hb
  obtain ⟨b2, o2, rfl, _, _, y2, _⟩ := hu2.opened hd
  have i1 : (a : Int) < o.length := by omega
  have i2 : (c : Int) < o.length := by omega
  have i3 : (b : Int) < (nthL o a).length := by omega
  have i4 : (d : Int) < (nthL o c).length := by omega
  obtain ⟨s1, H1⟩ : ∃ s, Hid (nth (nthL o a) b = s) := ⟨_, Lib.hid rfl⟩
  obtain ⟨s2, H2⟩ : ∃ s, Hid (nth (nthL o c) d = s) := ⟨_, Lib.hid rfl⟩
  rw [H1.out] at y1 x1 x2
  rw [H2.out] at y2 x3 x4
  have hsum : IntKind.i64.wrap (s1 + s2) = s1 + s2 := IntWalk.i64_in _ (by omega)
  clear hO hO' hu1 hu2 hbx bxe
  by_cases he : s1 + s2 = 1
  · have he' : ((s1 + s2 : Int) != 1) = false := by simp [he]
    have HE := Lib.hid he; clear he
    go_enter Try.func78, Try.ntmps78
    go_upto_region 1 with (fail)
    rw [← HWA.out]; clear HWA
    go_quiet (fail)
    go_wp2_with fail
    go_ret
    exact ⟨ret_bool (by rw [edgeOne_nat, H1.out, H2.out, decide_eq_true HE.out]; rfl), below_drewN hbA _⟩
  · have he' : ((s1 + s2 : Int) != 1) = true := by simpa using he
    have HE := Lib.hid he; clear he
    go_enter Try.func78, Try.ntmps78
    go_upto_region 1 with (fail)
    rw [← HWA.out]; clear HWA
    go_quiet (fail)
    go_wp2_with fail
    go_ret
    exact ⟨ret_bool (by rw [edgeOne_nat, H1.out, H2.out, decide_eq_false HE.out]; rfl), below_drewN hbA _⟩

set_option maxHeartbeats 4000000 in
set_option maxRecDepth 100000 in
theorem isOrientation_any (v1 : Value) (N : NetD) (lo1 hi1 : Nat) (v2 : Value) (o : List (List Int)) (lo2 hi2 : Nat) (w : World) (h1 : Net w lo1 hi1 v1 N) (hh1 : hi1 ≤ w.heap.size) (h2 : IntSS w lo2 hi2 v2 o) (hh2 : hi2 ≤ w.heap.size) (hsz : N.sz ≤ 1048576) :
    Calls Try.prog 59 #[v1, v2] w fun e w' => e = .returned (.bool (oriOk N o)) ∧ Below w.heap.size w w' := by
  have F1 := Lib.hid h1
  obtain ⟨A1, c1, A1', c1', A1'', c1'', rfl, hc1, hd1, _⟩ := h1.parts
  clear h1
  have F2 := Lib.hid h2
  obtain ⟨A2, c2, rfl, hc2, hd2⟩ := h2.dims
  clear h2
  obtain ⟨WA, HWA⟩ : ∃ W, Hid (W = ((w.alloc (.cells #[.slice A1 N.ends.length c1, .slice A1' N.ids.length c1', .slice A1'' N.inputs.length c1''] 32)).alloc (.cells #[.slice A2 o.length c2] 27))) := ⟨_, Lib.hid rfl⟩
  have hbA : Below w.heap.size w WA := by rw [HWA.out]; exact (((Below.refl _ _).alloc (Nat.le_refl _) _).alloc (by simp; try omega) _)
  have hsA : w.heap.size + 2 ≤ WA.heap.size := by rw [HWA.out]; simp; try omega
  have bx1 : BoxN WA (w.heap.size) #[.slice A1 N.ends.length c1, .slice A1' N.ids.length c1', .slice A1'' N.inputs.length c1''] 32 := by rw [HWA.out]; exact (BoxN.new' _ _ _ (by simp)).still (grown_alloc _ _)
  have bx2 : BoxN WA (w.heap.size + 1) #[.slice A2 o.length c2] 27 := by rw [HWA.out]; exact (BoxN.new' _ _ _ (by simp))
  have G1 := Lib.hid (Net.below F1.out hbA hh1); clear F1
  have G2 := Lib.hid (ISS.below F2.out hbA hh2); clear F2
  go_enter Try.func59, Try.ntmps59
  go_upto_region 1 with (fail)
  rw [← HWA.out]; clear HWA
  have kbx1_0 : WA.cell? ⟨w.heap.size, 0, none⟩ = some (.slice A1 N.ends.length c1) := bx1.cell 0 (by simp)
  have kbx1_1 : WA.cell? ⟨w.heap.size, 1, none⟩ = some (.slice A1' N.ids.length c1') := bx1.cell 1 (by simp)
  have kbx1_2 : WA.cell? ⟨w.heap.size, 2, none⟩ = some (.slice A1'' N.inputs.length c1'') := bx1.cell 2 (by simp)
  have kbx2_0 : WA.cell? ⟨w.heap.size + 1, 0, none⟩ = some (.slice A2 o.length c2) := bx2.cell 0 (by simp)
  go_wp2_with fail
  clear kbx1_0 kbx1_1 kbx1_2 kbx2_0
  refine (stubless_any _ N lo1 hi1 _ G1.out (by omega) hsz).mono ?_
  rintro e W1 ⟨rfl, hb1⟩
  have hg1 := grown_below hb1; clear hb1
  have hs1 := hg1.size
  have HF1 := Lib.hid ((Turned.refl WA.heap.size WA.heap.size WA).still hg1)
  by_cases hst : N.stubless = true
  case neg =>
    have hst' : N.stubless = false := by simpa using hst
    rw [hst']
    go_wp2_with fail
    go_ret
    exact ⟨ret_bool (by unfold oriOk; rw [hst']; rfl), (HF1.out.below_of hbA (by omega) (by omega))⟩
  rw [hst]
  have HST := Lib.hid hst
  have HG := Lib.hid (stubless_good hst); clear hst
  have kbx1_0 : W1.cell? ⟨w.heap.size, 0, none⟩ = some (.slice A1 N.ends.length c1) := (HF1.out.boxN bx1 (by omega)).cell 0 (by simp)
  have kbx1_1 : W1.cell? ⟨w.heap.size, 1, none⟩ = some (.slice A1' N.ids.length c1') := (HF1.out.boxN bx1 (by omega)).cell 1 (by simp)
  have kbx1_2 : W1.cell? ⟨w.heap.size, 2, none⟩ = some (.slice A1'' N.inputs.length c1'') := (HF1.out.boxN bx1 (by omega)).cell 2 (by simp)
  have kbx2_0 : W1.cell? ⟨w.heap.size + 1, 0, none⟩ = some (.slice A2 o.length c2) := (HF1.out.boxN bx2 (by omega)).cell 0 (by simp)
  go_wp2_with fail
  clear kbx1_0 kbx1_1 kbx1_2 kbx2_0
  refine (portsOk_any _ N lo1 hi1 _ o lo2 hi2 _ (Net.turned G1.out HF1.out (by omega) (by omega)) (by omega) (ISS.turned G2.out HF1.out (by omega) (by omega)) (by omega) HG.out).mono ?_
  rintro e W2 ⟨rfl, hb2⟩
  have hg2 := grown_below hb2; clear hb2
  have hs2 := hg2.size
  have HF2 := Lib.hid (HF1.out.still hg2); clear HF1
  by_cases hpb : portsB N o = true
  case neg =>
    have hpb' : portsB N o = false := by simpa using hpb
    rw [hpb']
    go_wp2_with fail
    go_ret
    exact ⟨ret_bool (by unfold oriOk oriB; rw [hpb']; simp), (HF2.out.below_of hbA (by omega) (by omega))⟩
  rw [hpb]
  have HPB := Lib.hid hpb; clear hpb
  have hle : o.length ≤ N.ends.length := by have := ports_len HPB.out; omega
  obtain ⟨n1, n40⟩ := good_n HG.out
  have N_2 := Lib.hid (Net.turned G1.out HF2.out (by omega) (by omega)); clear G1
  have o_2 := Lib.hid (ISS.turned G2.out HF2.out (by omega) (by omega)); clear G2
  have bx1_2 := HF2.out.boxN bx1 (by omega); clear bx1
  have bx2_2 := HF2.out.boxN bx2 (by omega); clear bx2
  have hbA2 := (HF2.out.below_of hbA (by omega) (by omega)); clear hbA HF2
  have kbx1_0 : W2.cell? ⟨w.heap.size, 0, none⟩ = some (.slice A1 N.ends.length c1) := bx1_2.cell 0 (by simp)
  have kbx1_1 : W2.cell? ⟨w.heap.size, 1, none⟩ = some (.slice A1' N.ids.length c1') := bx1_2.cell 1 (by simp)
  have kbx1_2 : W2.cell? ⟨w.heap.size, 2, none⟩ = some (.slice A1'' N.inputs.length c1'') := bx1_2.cell 2 (by simp)
  have kbx2_0 : W2.cell? ⟨w.heap.size + 1, 0, none⟩ = some (.slice A2 o.length c2) := bx2_2.cell 0 (by simp)
  go_wp2_with fail
  clear kbx1_0 kbx1_1 kbx1_2 kbx2_0
  go_loopw [18] (fun i wr => ∃ (k : Nat), k ≤ o.length ∧ i = .int .i64 k ∧ Hid (∀ j, j < k → rowIn o 0 1 j = true) ∧ Hid (Turned W2.heap.size W2.heap.size W2 wr)) (fun i _ => o.length - (intOf i).toNat)
  case atStart => exact ⟨0, Nat.zero_le _, rfl, Lib.hid fun j hj => absurd hj (by omega), Lib.hid (Turned.refl W2.heap.size W2.heap.size W2)⟩
  case round =>
    obtain ⟨k, hk, rfl, HU, HF3⟩ := hrel
    have hs3 := HF3.out.size
    by_cases hlt : k < o.length
    case pos =>
      obtain ⟨bs, os, us, rfl, _, hbs, zs, hus⟩ := SS.opened o_2.out hlt
      replace zs := (HF3.out.cell (by omega) (by omega)).trans zs
      obtain ⟨As, cs, rfl, hcs, hds⟩ := hus.dims
      have Us := Lib.hid hus; clear hus
      cases hq : rowIn o 0 1 k with
      | false =>
        have HQ := Lib.hid hq; clear hq
        go_wp2_with fail
        refine (allWithin_any _ (nthL o k) 0 1 _ _ _ (IntS.turned Us.out HF3.out (by omega) (by omega)) (by omega)).mono ?_
        rintro e W4 ⟨rfl, hb4⟩
        have hg4 := grown_below hb4; clear hb4
        have hs4 := hg4.size
        have HF4 := Lib.hid (HF3.out.still hg4); clear HF3
        rw [show ((nthL o k).all fun x => inB x 0 1) = false from HQ.out]
        go_wp2_with fail
        go_ret
        exact ⟨ret_bool (by unfold oriOk oriB rowsIn; rw [rangeAll_false hlt HQ.out]; simp), (HF4.out.below_of hbA2 (by omega) (by omega))⟩
      | true =>
        have HQ := Lib.hid hq; clear hq
        go_wp2_with fail
        refine (allWithin_any _ (nthL o k) 0 1 _ _ _ (IntS.turned Us.out HF3.out (by omega) (by omega)) (by omega)).mono ?_
        rintro e W5 ⟨rfl, hb5⟩
        have hg5 := grown_below hb5; clear hb5
        have hs5 := hg5.size
        have HF5 := Lib.hid (HF3.out.still hg5); clear HF3
        rw [show ((nthL o k).all fun x => inB x 0 1) = true from HQ.out]
        go_wp2_with fail
        go_roundw
        case rel =>
          refine ⟨k + 1, by omega, by go_num, Lib.hid fun j hj => ?_, HF5⟩
          by_cases e : j = k
          · rw [e]; exact HQ.out
          · exact HU.out j (by omega)
        case measure => simp [intOf]; omega
    obtain rfl : k = o.length := by omega
    have HRI := Lib.hid (show rowsIn o 0 1 = true from rangeAll_true HU.out)
    clear hlt HU hk
    have kbx1_0 : wr.cell? ⟨w.heap.size, 0, none⟩ = some (.slice A1 N.ends.length c1) := (HF3.out.boxN bx1_2 (by omega)).cell 0 (by simp)
    have kbx1_1 : wr.cell? ⟨w.heap.size, 1, none⟩ = some (.slice A1' N.ids.length c1') := (HF3.out.boxN bx1_2 (by omega)).cell 1 (by simp)
    have kbx1_2 : wr.cell? ⟨w.heap.size, 2, none⟩ = some (.slice A1'' N.inputs.length c1'') := (HF3.out.boxN bx1_2 (by omega)).cell 2 (by simp)
    have hmf : ∀ (fn : Fn) (first cap : Array Value) (w : World), (Instr.makeFunc fn first cap).run Try.prog w = .ok (.func fn first cap) w := fun _ _ _ _ => rfl
    go_wp2_with fail
    clear kbx1_0 kbx1_1 kbx1_2
    refine (edges_any _ N lo1 hi1 _ (Net.turned N_2.out HF3.out (by omega) (by omega)) (by omega) HG.out).mono ?_
    rintro e W6 ⟨r, rfl, hr, hb6⟩
    have hg6 := grown_below hb6; clear hb6
    have hs6 := hg6.size
    have HF6 := Lib.hid (HF3.out.still hg6); clear HF3
    have R6 := Lib.hid hr; clear hr
    obtain ⟨Ar, cr, rfl, hcr, hdr⟩ := R6.out.dims
    have b2x := HF6.out.boxN bx2_2 (by omega)
    have o2x := Lib.hid (ISS.turned o_2.out HF6.out (by omega) (by omega))
    have HCF := Lib.hid (ContainsFunc_edge 78 #[.pointer (some ⟨w.heap.size + 1, 0, none⟩)] (enters_of Try.func78 (by kernel_rfl) rfl) (fun k => !edgeOne o (nthQ (edges N) k)) _ (edges N) _ _ _ R6.out (Nat.le_refl _) (fun k hk W hW => by
      obtain ⟨a, b, c, d, eq, q1, q2, q3, q4, _⟩ := edge_nat HG.out (nthQ_mem hk)
      rw [eq]
      have hl := ports_len HPB.out
      have r1 := ports_row HPB.out q1
      have r2 := ports_row HPB.out q3
      have hws := hW.size
      exact isOri1_any a b c d (w.heap.size + 1) _ _ o lo2 hi2 W (b2x.below hW b2x.lt) (ISS.below o2x.out hW (by omega)) (by omega) (by omega) (by omega) (by omega) (by omega) HRI.out))
    clear b2x o2x
    go_wp2_with fail
    refine (HCF.out).mono ?_
    rintro e W7 ⟨rfl, hb7⟩
    have hg7 := grown_below hb7; clear hb7
    have hs7 := hg7.size
    have HF7 := Lib.hid (HF6.out.still hg7); clear HF6
    have R7 := Lib.hid (QuadS.still R6.out hg7 (by omega)); clear R6
    go_wp2_with fail
    go_ret
    exact ⟨ret_bool (by unfold oriOk oriB oriE; rw [HST.out, HPB.out, HRI.out, any_range_nthQ (edges N) (fun q => !edgeOne o q), not_any_not]; rfl), (HF7.out.below_of hbA2 (by omega) (by omega))⟩

end Go.Proofs.Ytjapdfdjgjajkaa
