/-
  Several texts in one: Nss, MrkS, OwnN, WkP, CoP, CoM. No condition on any program.
-/
import Derived.Test.YtmdlginjblnfoaaGreatCzF
import Derived.Test.YtmdlginjblnfoaaGreatCzE
import Derived.Test.YtmdlginjblnfoaaGreatCzD
import Derived.Test.YtmdlginjblnfoaaGreatCzA
import Derived.Test.YtmdlginjblnfoaaGreatCzB

/- Slices of networks; contracts of the law's eqNetworkS and heldNetworkS. -/
namespace Go.Proofs.YtmdlginjblnfoaaGreat
open Go.ChangeShapes Go.WideShapes Go.ChangeAt Go.RowKit
set_option linter.unusedVariables false

/-- the cells of a slice of networks -/
def netCell (fE fD fI : Nat → Value) (i : Nat) : Value := if i % 3 = 0 then fE (i / 3) else if i % 3 = 1 then fD (i / 3) else fI (i / 3)
theorem netCell_0 (fE fD fI : Nat → Value) (j : Nat) : netCell fE fD fI (j * 3) = fE j := by unfold netCell; rw [if_pos (by omega), show j * 3 / 3 = j by omega]
theorem netCell_1 (fE fD fI : Nat → Value) (j : Nat) : netCell fE fD fI (j * 3 + 1) = fD j := by unfold netCell; rw [if_neg (by omega), if_pos (by omega), show (j * 3 + 1) / 3 = j by omega]
theorem netCell_2 (fE fD fI : Nat → Value) (j : Nat) : netCell fE fD fI (j * 3 + 2) = fI j := by unfold netCell; rw [if_neg (by omega), if_neg (by omega), show (j * 3 + 2) / 3 = j by omega]
def nthN (Ns : List NetD) (i : Nat) : NetD := Ns.getD i ⟨[], [], []⟩
/-- a slice of networks, read -/
def NetS (w : World) (lo hi : Nat) (v : Value) (Ns : List NetD) : Prop :=
  ∃ fE fD fI, Sl w lo hi 3 v Ns.length (netCell fE fD fI) ∧ ∀ i, i < Ns.length → Net w lo hi (.agg #[fE i, fD i, fI i]) (nthN Ns i)
section
variable {w w' : World} {lo hi lo' hi' B l2 h2 : Nat} {v : Value} {Ns : List NetD}
theorem NetS.below (h : NetS w lo hi v Ns) (hb : Below B w w') (hB : hi ≤ B) : NetS w' lo hi v Ns := by
  obtain ⟨fE, fD, fI, h1, h3⟩ := h
  exact ⟨fE, fD, fI, Sl.below h1 hb hB, fun i hi => (h3 i hi).below hb hB⟩
theorem NetS.turned (h : NetS w lo hi v Ns) (hb : Turned l2 h2 w w') (hB : hi ≤ w.heap.size) (hd : hi ≤ l2 ∨ h2 ≤ lo) : NetS w' lo hi v Ns := by
  obtain ⟨fE, fD, fI, h1, h3⟩ := h
  exact ⟨fE, fD, fI, Sl.turned h1 hb hB hd, fun i hi => (h3 i hi).turned hb hB hd⟩
theorem NetS.mono (h : NetS w lo hi v Ns) (h1 : lo' ≤ lo) (h2 : hi ≤ hi') : NetS w lo' hi' v Ns := by
  obtain ⟨fE, fD, fI, k1, k3⟩ := h
  exact ⟨fE, fD, fI, Sl.mono k1 h1 h2, fun i hi => (k3 i hi).mono h1 h2⟩
theorem NetS.nil (w : World) (lo hi : Nat) : NetS w lo hi (.slice none 0 0) [] := ⟨fun _ => undef, fun _ => undef, fun _ => undef, Sl.nil _ _ _ _ _, fun i hi => absurd hi (by simp)⟩
theorem NetS.form (h : NetS w lo hi v Ns) : ∃ A c, v = .slice A Ns.length c ∧ Ns.length ≤ c ∧ c ≤ maxLen ∧
    (0 < Ns.length → ∃ b off, A = some ⟨b, off, none⟩ ∧ lo ≤ b ∧ b < hi ∧ ∀ j, j < Ns.length → ∃ vE vD vI, w.cell? ⟨b, off + j * 3, none⟩ = some vE ∧ w.cell? ⟨b, off + j * 3 + 1, none⟩ = some vD ∧ w.cell? ⟨b, off + j * 3 + 2, none⟩ = some vI ∧ Net w lo hi (.agg #[vE, vD, vI]) (nthN Ns j)) := by
  obtain ⟨fE, fD, fI, ⟨A, c, e, h1, h2, h3⟩, h4⟩ := h
  refine ⟨A, c, e, h1, h2, fun hn => ?_⟩
  obtain ⟨b, off, e2, h5, h6, h7⟩ := h3 hn
  refine ⟨b, off, e2, h5, h6, fun j hj => ⟨fE j, fD j, fI j, ?_, ?_, ?_, h4 j hj⟩⟩
  · have := (h7 (j * 3) (by omega)).1; rw [netCell_0] at this; exact this
  · have := (h7 (j * 3 + 1) (by omega)).1; rw [netCell_1, ← Nat.add_assoc] at this; exact this
  · have := (h7 (j * 3 + 2) (by omega)).1; rw [netCell_2, ← Nat.add_assoc] at this; exact this
end
/-- marks that the first m networks take -/
def sumN (Ns : List NetD) (m : Nat) : Nat := ((Ns.take m).map NetD.cnt).sum
theorem sumN_zero (Ns : List NetD) : sumN Ns 0 = 0 := by simp [sumN]
theorem nthN_eq {Ns : List NetD} {k : Nat} (h : k < Ns.length) : nthN Ns k = Ns[k] := by simp [nthN, h]
theorem sumN_succ (Ns : List NetD) (k : Nat) (h : k < Ns.length) : sumN Ns (k + 1) = sumN Ns k + (nthN Ns k).cnt := by
  unfold sumN
  rw [List.take_succ_eq_append_getElem h, List.map_append, List.sum_append, nthN_eq h]
  simp
theorem sumN_mono (Ns : List NetD) (k : Nat) (h : k ≤ Ns.length) : sumN Ns k ≤ sumN Ns Ns.length := by
  have : ∀ d, k + d ≤ Ns.length → sumN Ns k ≤ sumN Ns (k + d) := by
    intro d
    induction d with
    | zero => intro _; exact Nat.le_refl _
    | succ d ih => intro hd; have := ih (by omega); rw [← Nat.add_assoc, sumN_succ Ns (k + d) (by omega)]; omega
  have := this (Ns.length - k) (by omega)
  rwa [show k + (Ns.length - k) = Ns.length by omega] at this
/-- what mark leaves -/
def mkNS (k : Int) (Ns : List NetD) : List NetD := (List.range Ns.length).map fun i => (nthN Ns i).mk_ (k + sumN Ns i)
theorem mkNS_length (k : Int) (Ns : List NetD) : (mkNS k Ns).length = Ns.length := by simp [mkNS]
theorem nthN_mkNS (k : Int) (Ns : List NetD) (i : Nat) (h : i < Ns.length) : nthN (mkNS k Ns) i = (nthN Ns i).mk_ (k + sumN Ns i) := by
  rw [nthN_eq (by rw [mkNS_length]; exact h)]
  simp [mkNS]

set_option maxHeartbeats 2000000 in
theorem eqNetworkS_same (v1 v2 : Value) (Ns : List NetD) (lo1 hi1 lo2 hi2 : Nat) (w : World) (h1 : NetS w lo1 hi1 v1 Ns) (h2 : NetS w lo2 hi2 v2 Ns) (hh1 : hi1 ≤ w.heap.size) (hh2 : hi2 ≤ w.heap.size) :
    Calls Tryz.prog 8 #[v1, v2] w fun e w' => e = .returned (.bool true) ∧ Below w.heap.size w w' := by
  obtain ⟨A, c, rfl, hc1, hc2, hcell⟩ := h1.form
  obtain ⟨A2, c2, rfl, hd1, hd2, hcell2⟩ := h2.form
  unfold maxLen at hc2 hd2
  go_enter Tryz.func8, Tryz.ntmps8
  go_wp2
  go_loopw [5] (fun i wr => ∃ k : Nat, k ≤ Ns.length ∧ i = .int .i64 k ∧ Below w.heap.size w wr) (fun i _ => Ns.length - (intOf i).toNat)
  case atStart => exact ⟨0, Nat.zero_le _, rfl, Below.refl _ _⟩
  case round =>
    obtain ⟨k, hk, rfl, hb⟩ := hrel
    have hs0 := hb.size
    by_cases hlt : k < Ns.length
    · obtain ⟨b, off, rfl, hb1, hb2, hcs⟩ := hcell (by omega)
      obtain ⟨b', off', rfl, hb1', hb2', hcs'⟩ := hcell2 (by omega)
      obtain ⟨uE, uD, uI, x1, x2, x3, r1⟩ := hcs k hlt
      obtain ⟨yE, yD, yI, y1, y2, y3, r2⟩ := hcs' k hlt
      have p1 := (hb.cell (p := ⟨b, off + k * 3, none⟩) (by show b < _; omega)).trans x1
      have p2 := (hb.cell (p := ⟨b, off + k * 3 + 1, none⟩) (by show b < _; omega)).trans x2
      have p3 := (hb.cell (p := ⟨b, off + k * 3 + 2, none⟩) (by show b < _; omega)).trans x3
      have q1 := (hb.cell (p := ⟨b', off' + k * 3, none⟩) (by show b' < _; omega)).trans y1
      have q2 := (hb.cell (p := ⟨b', off' + k * 3 + 1, none⟩) (by show b' < _; omega)).trans y2
      have q3 := (hb.cell (p := ⟨b', off' + k * 3 + 2, none⟩) (by show b' < _; omega)).trans y3
      have R1 := Lib.hid (r1.below hb (by omega))
      have R2 := Lib.hid (r2.below hb (by omega))
      obtain ⟨vE, vD, vI, hq, he, hd, hn0⟩ := r1
      simp only [Value.agg.injEq, Array.mk.injEq, List.cons.injEq, and_true] at hq
      obtain ⟨rfl, rfl, rfl⟩ := hq
      obtain ⟨B1, e1, rfl⟩ := he.shape
      obtain ⟨B2, e2, rfl⟩ := hd.shape
      obtain ⟨B3, e3, rfl⟩ := hn0.shape
      obtain ⟨vE, vD, vI, hq, he', hd', hn0'⟩ := r2
      simp only [Value.agg.injEq, Array.mk.injEq, List.cons.injEq, and_true] at hq
      obtain ⟨rfl, rfl, rfl⟩ := hq
      obtain ⟨B4, e4, rfl⟩ := he'.shape
      obtain ⟨B5, e5, rfl⟩ := hd'.shape
      obtain ⟨B6, e6, rfl⟩ := hn0'.shape
      clear he hd hn0 he' hd' hn0'
      clear hcs hcs' hcell hcell2 x1 x2 x3 y1 y2 y3
      have g1 : hi1 ≤ wr.heap.size := by omega
      have g2 : hi2 ≤ wr.heap.size := by omega
      go_wp2
      go_region_with (go_at_call 9; refine (eqNetwork_same _ _ (nthN Ns k) lo1 hi1 lo2 hi2 _ (by exact R1.out) (by exact R2.out) (by exact g1) (by exact g2)).mono ?_; rintro e w1 ⟨rfl, hbq⟩)
      all_goals (try go_wp2)
      all_goals go_roundw
      all_goals first
        | exact ⟨k + 1, by omega, by go_num, hb.drew.trans (hbq.mono hb.size)⟩
        | (simp [intOf]; omega)
    · obtain rfl : k = Ns.length := by omega
      go_wp2
      go_ret
      exact ⟨rfl, hb⟩

set_option maxHeartbeats 2000000 in
theorem heldNetworkS_yes (v : Value) (Ns : List NetD) (k : Int) (lo hi : Nat) (w : World) (h : NetS w lo hi v (mkNS k Ns)) (hhi : hi ≤ w.heap.size) (hk0 : 0 ≤ k) (hk1 : k ≤ 1073741824) (hn : sumN Ns Ns.length ≤ 1073741824) :
    Calls Tryz.prog 12 #[v, .int .i64 k] w fun e w' => e = .returned (.int .i64 (k + sumN Ns Ns.length)) ∧ Below w.heap.size w w' := by
  obtain ⟨A, c, rfl, hc1, hc2, hcell⟩ := h.form
  clear h
  rw [mkNS_length] at *
  unfold maxLen at hc2
  go_enter Tryz.func12, Tryz.ntmps12
  go_wp2
  go_loopw [5, 1] (fun i kv wr => ∃ m : Nat, m ≤ Ns.length ∧ i = .int .i64 m ∧ kv = .int .i64 (k + sumN Ns m) ∧ Below w.heap.size w wr) (fun i _ _ => Ns.length - (intOf i).toNat)
  case atStart => exact ⟨0, Nat.zero_le _, rfl, by rw [sumN_zero]; simp, Below.refl _ _⟩
  case round =>
    obtain ⟨m, hm, rfl, rfl, hb⟩ := hrel
    have hmo := sumN_mono Ns m hm
    have hs0 := hb.size
    by_cases hlt : m < Ns.length
    · obtain ⟨b, off, rfl, hb1, hb2, hcs2⟩ := hcell (by omega)
      obtain ⟨uE, uD, uI, x1, x2, x3, r1⟩ := hcs2 m hlt
      rw [nthN_mkNS _ _ _ hlt] at r1
      have HSU := Lib.hid (sumN_succ Ns m hlt)
      have hmo2 := sumN_mono Ns (m + 1) (by omega)
      obtain ⟨Q, HQ⟩ : ∃ Q, Hid (nthN Ns m = Q) := ⟨_, Lib.hid rfl⟩
      rw [HQ.out] at r1 HSU
      have hz : Q.cnt = 2 * cntSS Q.ends + Q.ids.length + Q.inputs.length := rfl
      have hsu := HSU.out
      rw [hz] at hsu
      have HSV := Lib.hid hsu
      have hsm : 2 * cntSS Q.ends + Q.ids.length + Q.inputs.length ≤ 1073741824 := by omega
      have hsk : sumN Ns m ≤ 1073741824 := by omega
      clear hz hsu HSU
      have p1 := (hb.cell (p := ⟨b, off + m * 3, none⟩) (by show b < _; omega)).trans x1
      have R1 := Lib.hid r1
      have P2 := Lib.hid x2
      have P3 := Lib.hid x3
      obtain ⟨vE, vD, vI, e9, he, hd, hn0⟩ := r1
      simp only [Value.agg.injEq, Array.mk.injEq, List.cons.injEq, and_true] at e9
      obtain ⟨rfl, rfl, rfl⟩ := e9
      unfold NetD.mk_ at he hd hn0
      dsimp only at he hd hn0
      have HE := Lib.hid he; have HI := Lib.hid hd; have HN := Lib.hid hn0
      obtain ⟨A1, c1, rfl⟩ := he.shape
      obtain ⟨A2, c2, rfl⟩ := hd.shape
      obtain ⟨A3, c3, rfl⟩ := hn0.shape
      rw [mkEndSS_length] at HE p1
      rw [run_length] at HI P2
      rw [run_length] at HN P3
      clear hcs2 x1 x2 x3 hcell he hd hn0 R1
      have hmi : (m : Int) < Ns.length := by omega
      go_wp2_with fail
      clear p1
      refine (heldEndSS_yes _ Q.ends _ lo hi _ (ESS.below HE.out hb (by omega)) (by omega) (by omega) (by omega) (by omega)).mono ?_
      rintro e w1 ⟨rfl, hb1'⟩
      have hs1 := hb1'.size
      have hb2' := hb.trans (hb1'.mono hs0)
      have p2 := (hb2'.cell (p := ⟨b, off + m * 3 + 1, none⟩) (by show b < _; omega)).trans P2.out
      go_wp2_with fail
      clear p2
      refine (heldIntS_yes _ Q.ids _ lo hi _ (by simpa using HI.out.below hb2' (by omega)) (by omega) (by omega) (by omega)).mono ?_
      rintro e w2 ⟨rfl, hb3'⟩
      have hs2 := hb3'.size
      have hb4' := hb2'.trans (hb3'.mono (by omega))
      have p3 := (hb4'.cell (p := ⟨b, off + m * 3 + 2, none⟩) (by show b < _; omega)).trans P3.out
      go_wp2_with fail
      clear p3
      refine (heldIntS_yes _ Q.inputs _ lo hi _ (by simpa using HN.out.below hb4' (by omega)) (by omega) (by omega) (by omega)).mono ?_
      rintro e w3 ⟨rfl, hb5'⟩
      have hb6' := hb4'.trans (hb5'.mono (by omega))
      go_wp2_with fail
      go_roundw
      case rel => exact ⟨m + 1, by omega, by go_num, by rw [HSV.out]; go_num, hb6'⟩
      case measure => simp [intOf]; omega
    · obtain rfl : m = Ns.length := by omega
      go_wp2
      go_ret
      exact ⟨rfl, hb⟩
end Go.Proofs.YtmdlginjblnfoaaGreat

/- Slices of networks that can be marked; the law's markNetworkS. -/
namespace Go.Proofs.YtmdlginjblnfoaaGreat
open Go.ChangeShapes Go.WideShapes Go.ChangeAt Go.RowKit
set_option linter.unusedVariables false

theorem Sl.keep1 {w w' : World} {lo hi sz n : Nat} {v : Value} {f : Nat → Value} (h : Sl w lo hi sz v n f) (hk : ∀ b, rowOf n v = some b → lo ≤ b → b < hi → w'.heap[b]? = w.heap[b]?) : Sl w' lo hi sz v n f := by
  obtain ⟨A, c, rfl, h1, h2, h3⟩ := h
  refine ⟨A, c, rfl, h1, h2, fun hn => ?_⟩
  obtain ⟨b, off, rfl, h4, h5, h6⟩ := h3 hn
  have hb := hk b (by unfold rowOf; rw [if_neg (by omega)]; rfl) h4 h5
  refine ⟨b, off, rfl, h4, h5, fun j hj => ?_⟩
  rw [World.cell?_of_block (w := w) (w' := w') (a := ⟨b, off + j, none⟩) hb, World.frozen?_of_block (w := w) (w' := w') (a := ⟨b, off + j, none⟩) hb]
  exact h6 j hj
/-- a slice of networks: each in an interval of its own, its slices in blocks of their own; the slice's block in none of the intervals -/
def NetSX (w : World) (lo hi : Nat) (v : Value) (Ns : List NetD) : Prop :=
  ∃ (fE fD fI : Nat → Value) (los his : Nat → Nat), Sl w lo hi 3 v Ns.length (netCell fE fD fI) ∧
    (∀ i, i < Ns.length → lo ≤ los i ∧ his i ≤ hi ∧ NetB w (los i) (his i) (.agg #[fE i, fD i, fI i]) (nthN Ns i) ∧ ∀ g, rowOf Ns.length v = some g → g < los i ∨ his i ≤ g) ∧
    ∀ i j, i < j → j < Ns.length → his i ≤ los j
section
variable {w w' : World} {lo hi lo' hi' B l2 h2 : Nat} {v : Value} {Ns : List NetD}
theorem NetSX.netS (h : NetSX w lo hi v Ns) : NetS w lo hi v Ns := by
  obtain ⟨fE, fD, fI, los, his, h1, h2, _⟩ := h
  refine ⟨fE, fD, fI, h1, fun i hi => ?_⟩
  obtain ⟨a1, a2, a3, _⟩ := h2 i hi
  exact a3.net.mono a1 a2
theorem NetSX.below (h : NetSX w lo hi v Ns) (hb : Below B w w') (hB : hi ≤ B) : NetSX w' lo hi v Ns := by
  obtain ⟨fE, fD, fI, los, his, h1, h2, h3⟩ := h
  refine ⟨fE, fD, fI, los, his, Sl.below h1 hb hB, fun i hi => ?_, h3⟩
  obtain ⟨a1, a2, a3, a4⟩ := h2 i hi
  exact ⟨a1, a2, a3.below hb (by omega), a4⟩
theorem NetSX.turned (h : NetSX w lo hi v Ns) (hb : Turned l2 h2 w w') (hB : hi ≤ w.heap.size) (hd : hi ≤ l2 ∨ h2 ≤ lo) : NetSX w' lo hi v Ns := by
  obtain ⟨fE, fD, fI, los, his, h1, k2, h3⟩ := h
  refine ⟨fE, fD, fI, los, his, Sl.turned h1 hb hB hd, fun i hi => ?_, h3⟩
  obtain ⟨a1, a2, a3, a4⟩ := k2 i hi
  exact ⟨a1, a2, a3.turned hb (by omega) (by omega), a4⟩
theorem NetSX.mono (h : NetSX w lo hi v Ns) (k1 : lo' ≤ lo) (k2 : hi ≤ hi') : NetSX w lo' hi' v Ns := by
  obtain ⟨fE, fD, fI, los, his, h1, h2, h3⟩ := h
  refine ⟨fE, fD, fI, los, his, Sl.mono h1 k1 k2, fun i hi => ?_, h3⟩
  obtain ⟨a1, a2, a3, a4⟩ := h2 i hi
  exact ⟨by omega, by omega, a3, a4⟩
theorem NetSX.nil (w : World) (lo hi : Nat) : NetSX w lo hi (.slice none 0 0) [] :=
  ⟨fun _ => undef, fun _ => undef, fun _ => undef, fun _ => 0, fun _ => 0, Sl.nil _ _ _ _ _, fun i hi => absurd hi (by simp), fun i j _ hj => absurd hj (by simp)⟩
end

set_option maxHeartbeats 4000000 in
theorem markNetworkS_any (v : Value) (Ns : List NetD) (k : Int) (lo hi : Nat) (w : World) (h : NetSX w lo hi v Ns) (hhi : hi ≤ w.heap.size) (hk0 : 0 ≤ k) (hk1 : k ≤ 1073741824) (hn : sumN Ns Ns.length ≤ 1073741824) :
    Calls Tryz.prog 11 #[v, .int .i64 k] w fun e w' => e = .returned (.int .i64 (k + sumN Ns Ns.length)) ∧ NetSX w' lo hi v (mkNS k Ns) ∧ Turned lo hi w w' := by
  obtain ⟨fE, fD, fI, los, his, hsl, hall, hdis⟩ := h
  have hsl' := hsl
  obtain ⟨A, c, rfl, hc1, hc2, hcell⟩ := hsl'
  unfold maxLen at hc2
  have HI := Lib.hid (fun i hi => ⟨(hall i hi).1, (hall i hi).2.1, (hall i hi).2.2.2⟩ : ∀ i, i < Ns.length → lo ≤ los i ∧ his i ≤ hi ∧ ∀ g, rowOf Ns.length (.slice A Ns.length c) = some g → g < los i ∨ his i ≤ g)
  have HN := Lib.hid (fun i hi => (hall i hi).2.2.1 : ∀ i, i < Ns.length → NetB w (los i) (his i) (.agg #[fE i, fD i, fI i]) (nthN Ns i))
  have HD := Lib.hid hdis
  clear hall hdis
  go_enter Tryz.func11, Tryz.ntmps11
  go_wp2
  go_loopw [5, 1] (fun i kv wr => ∃ m : Nat, m ≤ Ns.length ∧ i = .int .i64 m ∧ kv = .int .i64 (k + sumN Ns m) ∧ Sl wr lo hi 3 (.slice A Ns.length c) Ns.length (netCell fE fD fI) ∧
      Hid (∀ j, j < m → NetB wr (los j) (his j) (.agg #[fE j, fD j, fI j]) ((nthN Ns j).mk_ (k + sumN Ns j))) ∧ Hid (∀ j, m ≤ j → j < Ns.length → NetB wr (los j) (his j) (.agg #[fE j, fD j, fI j]) (nthN Ns j)) ∧ Turned lo hi w wr) (fun i _ _ => Ns.length - (intOf i).toNat)
  case atStart => exact ⟨0, Nat.zero_le _, rfl, by rw [sumN_zero]; simp, hsl, Lib.hid (fun j hj => absurd hj (by omega)), Lib.hid (fun j _ hj => HN.out j hj), Turned.refl _ _ _⟩
  case round =>
    obtain ⟨m, hm, rfl, rfl, hs, HL, HR, ht⟩ := hrel
    have hmo := sumN_mono Ns m hm
    have hsz := ht.size
    by_cases hlt : m < Ns.length
    · obtain ⟨b, off, rfl, hb1, hb2, _⟩ := hcell (by omega)
      clear hcell
      obtain ⟨i1, i2, i3⟩ := HI.out m hlt
      have hbo := i3 b (by unfold rowOf; rw [if_neg (by omega)]; rfl)
      have HSU := Lib.hid (sumN_succ Ns m hlt)
      have hmo2 := sumN_mono Ns (m + 1) (by omega)
      have hnb := HR.out m (Nat.le_refl _) hlt
      obtain ⟨Q, HQ⟩ : ∃ Q, Hid (nthN Ns m = Q) := ⟨_, Lib.hid rfl⟩
      rw [HQ.out] at hnb HSU
      have hz : Q.cnt = 2 * cntSS Q.ends + Q.ids.length + Q.inputs.length := rfl
      have hsu := HSU.out
      rw [hz] at hsu
      have HSV := Lib.hid hsu
      have hsm : 2 * cntSS Q.ends + Q.ids.length + Q.inputs.length ≤ 1073741824 := by omega
      have hsk : sumN Ns m ≤ 1073741824 := by omega
      clear hz hsu HSU
      have x1 := (hs.at_ (j := m * 3) (by omega)).1
      have x2 := (hs.at_ (j := m * 3 + 1) (by omega)).1
      have x3 := (hs.at_ (j := m * 3 + 2) (by omega)).1
      rw [netCell_0] at x1
      rw [netCell_1, ← Nat.add_assoc] at x2
      rw [netCell_2, ← Nat.add_assoc] at x3
      obtain ⟨vE, vD, vI, vs, e9, k1, k2, k3, k4, k5, k6, k7, k8, k9⟩ := hnb
      simp only [Value.agg.injEq, Array.mk.injEq, List.cons.injEq, and_true] at e9
      obtain ⟨eE, eD, eI⟩ := e9
      have HEE := Lib.hid (And.intro eE (And.intro eD eI))
      rw [eE] at x1
      rw [eD] at x2
      rw [eI] at x3
      clear eE eD eI
      have k1' := k1
      obtain ⟨A1, c1, rfl, _, _, _⟩ := k1'
      obtain ⟨A2, c2, rfl⟩ := k3.shape
      obtain ⟨A3, c3, rfl⟩ := k4.shape
      have K1 := Lib.hid k1; have K2 := Lib.hid k2; have K3 := Lib.hid k3; have K4 := Lib.hid k4
      have K5 := Lib.hid k5; have K6 := Lib.hid k6; have K7 := Lib.hid k7; have K8 := Lib.hid k8; have K9 := Lib.hid k9
      have X2 := Lib.hid x2; have X3 := Lib.hid x3
      have HS := Lib.hid hs
      clear k1 k2 k3 k4 k5 k6 k7 k8 k9 x2 x3 i3 hs
      have hmi : (m : Int) < Ns.length := by omega
      go_wp2_with fail
      clear x1
      refine (markEndSSb_any _ Q.ends vs _ (los m) (his m) _ K1.out K2.out K5.out (fun i hi => (K6.out i hi).1) (by omega) (by omega) (by omega) (by omega)).mono ?_
      rintro e w1 ⟨rfl, hr1, ht1, hk1'⟩
      have hs1 := ht1.size
      have R1 := Lib.hid hr1; have HK1 := Lib.hid hk1'
      clear hr1 hk1'
      have y2 : w1.cell? ⟨b, off + m * 3 + 1, none⟩ = _ := (World.cell?_of_block (a := ⟨b, off + m * 3 + 1, none⟩) (ht1.block b (by omega) (by omega))).trans X2.out
      have D1 : Hid (IntS w1 (los m) (his m) (.slice A2 Q.ids.length c2) Q.ids) := Lib.hid (Sl.keep1 K3.out fun q hq h1 h2 => HK1.out q (by omega) fun i hi e => (K6.out i hi).2.1 q e hq)
      have I1 : Hid (IntS w1 (los m) (his m) (.slice A3 Q.inputs.length c3) Q.inputs) := Lib.hid (Sl.keep1 K4.out fun q hq h1 h2 => HK1.out q (by omega) fun i hi e => (K6.out i hi).2.2 q e hq)
      have E1 : Hid (Sl w1 (los m) (his m) 1 (.slice A1 Q.ends.length c1) Q.ends.length vs) := Lib.hid (Sl.keep1 K1.out fun q hq h1 h2 => HK1.out q (by omega) fun i hi e => (K6.out i hi).1 q e hq)
      go_wp2_with fail
      clear y2
      refine (markIntS_any _ Q.ids _ (los m) (his m) _ D1.out (by omega) (by omega) (by omega) (by omega)).mono ?_
      rintro e w2 ⟨rfl, hr2, hg2, hz2⟩
      have ht2 : Turned (los m) (his m) w1 w2 := Turned.of_row D1.out hg2
      have hs2 := ht2.size
      have D2 := Lib.hid hr2
      have R2 := Lib.hid (fun i hi => Sl.grown (R1.out i hi) hg2 (by omega) (by rw [runE_length]; exact ((K6.out i hi).2.1).or) : ∀ i, i < Q.ends.length → EndS w2 (los m) (his m) (vs i) _)
      have E2 := Lib.hid (Sl.grown E1.out hg2 (by omega) K7.out.or)
      have I2 : Hid (IntS w2 (los m) (his m) (.slice A3 Q.inputs.length c3) Q.inputs) := Lib.hid (Sl.grown I1.out hg2 (by omega) K9.out.symm.or)
      clear hr2 hg2 hz2
      have y3 : w2.cell? ⟨b, off + m * 3 + 2, none⟩ = _ := (World.cell?_of_block (a := ⟨b, off + m * 3 + 2, none⟩) (ht2.block b (by omega) (by omega))).trans ((World.cell?_of_block (a := ⟨b, off + m * 3 + 2, none⟩) (ht1.block b (by omega) (by omega))).trans X3.out)
      go_wp2_with fail
      clear y3
      refine (markIntS_any _ Q.inputs _ (los m) (his m) _ I2.out (by omega) (by omega) (by omega) (by omega)).mono ?_
      rintro e w3 ⟨rfl, hr3, hg3, hz3⟩
      have ht3 : Turned (los m) (his m) w2 w3 := Turned.of_row I2.out hg3
      have hs3 := ht3.size
      have I3 := Lib.hid hr3
      have R3 := Lib.hid (fun i hi => Sl.grown (R2.out i hi) hg3 (by omega) (by rw [runE_length]; exact ((K6.out i hi).2.2).or) : ∀ i, i < Q.ends.length → EndS w3 (los m) (his m) (vs i) _)
      have E3 := Lib.hid (Sl.grown E2.out hg3 (by omega) K8.out.or)
      have D3 := Lib.hid (Sl.grown D2.out hg3 (by omega) (by rw [run_length]; exact K9.out.or))
      clear hr3 hg3 hz3
      have HT := Lib.hid ((ht1.trans ht2).trans ht3)
      clear ht1 ht2 ht3
      go_wp2_with fail
      go_roundw
      case rel =>
        refine ⟨m + 1, by omega, by go_num, by rw [HSV.out]; go_num, Sl.keep1 HS.out (fun q hq h1 h2 => HT.out.block q (by omega) ((HI.out m hlt).2.2 q hq)), Lib.hid (fun j hj => ?_), Lib.hid (fun j hj hjl => ?_), ht.trans (HT.out.mono i1 i2)⟩
        · by_cases e : j = m
          · subst e
            obtain ⟨eE, eD, eI⟩ := HEE.out
            rw [eE, eD, eI, HQ.out]
            refine ⟨_, _, _, vs, rfl, ?_, fun i hi => ?_, D3.out, I3.out, fun i j hij hj => ?_, fun i hi => ?_, ?_⟩
            · simp only [NetD.mk_, mkEndSS_length]; exact E3.out
            · simp only [NetD.mk_, mkEndSS_length] at hi
              simp only [NetD.mk_]
              rw [nthL_mkEndSS _ _ _ hi]
              exact R3.out i hi
            · simp only [NetD.mk_, mkEndSS_length] at hj
              simp only [NetD.mk_]
              rw [nthL_mkEndSS _ _ _ hj, nthL_mkEndSS _ _ _ (by omega), runE_length, runE_length]
              exact K5.out i j hij hj
            · simp only [NetD.mk_, mkEndSS_length] at hi
              simp only [NetD.mk_]
              rw [nthL_mkEndSS _ _ _ hi, runE_length, mkEndSS_length, run_length, run_length]
              exact K6.out i hi
            · simp only [NetD.mk_, mkEndSS_length, run_length]
              exact ⟨K7.out, K8.out, K9.out⟩
          · have hj2 := HD.out j m (by omega) hlt
            have := (HI.out j (by omega)).2.1
            exact NetB.turned (HL.out j (by omega)) HT.out (by omega) (.inl hj2)
        · have hj2 := HD.out m j (by omega) hjl
          have := (HI.out j (by omega)).2.1
          exact NetB.turned (HR.out j (by omega) hjl) HT.out (by omega) (.inr hj2)
      case measure => simp [intOf]; omega
    · obtain rfl : m = Ns.length := by omega
      go_wp2
      go_ret
      refine ⟨rfl, ⟨fE, fD, fI, los, his, by rw [mkNS_length]; exact hs, fun i hi => ?_, fun i j hij hj => ?_⟩, ht⟩
      · rw [mkNS_length] at hi
        obtain ⟨i1, i2, i3⟩ := HI.out i hi
        refine ⟨i1, i2, ?_, by rw [mkNS_length]; exact i3⟩
        rw [nthN_mkNS _ _ _ hi]
        exact HL.out i hi
      · rw [mkNS_length] at hj
        exact HD.out i j hij hj
end Go.Proofs.YtmdlginjblnfoaaGreat

/- A slice of networks that a call owns and lets grow: each network in an interval of its own. -/
namespace Go.Proofs.YtmdlginjblnfoaaGreat
open Go.ChangeShapes Go.WideShapes Go.ChangeAt Go.RowKit
set_option linter.unusedVariables false

theorem NetB.far {w w' : World} {lo hi : Nat} {v : Value} {N : NetD} {row : Option Nat} (h : NetB w lo hi v N) (hg : w.grownBy w' row) (hB : hi ≤ w.heap.size) (hr : ∀ g, row = some g → g < lo ∨ hi ≤ g) : NetB w' lo hi v N := by
  obtain ⟨vE, vD, vI, vs, e, h1, h2, h3, h4, h5⟩ := h
  exact ⟨vE, vD, vI, vs, e, Sl.keep h1 fun k k1 k2 => hg.block k (by omega) (fun e => by have := hr k e.symm; omega), fun i hi => (h2 i hi).far hg hB hr, h3.far hg hB hr, h4.far hg hB hr, h5⟩
/-- three values each, one behind the other -/
def flat3 (ts : List (Value × Value × Value)) : List Value := ts.flatMap fun t => [t.1, t.2.1, t.2.2]
theorem flat3_snoc (ts : List (Value × Value × Value)) (t : Value × Value × Value) : flat3 (ts ++ [t]) = flat3 ts ++ [t.1, t.2.1, t.2.2] := by simp [flat3]
theorem flat3_get (ts : List (Value × Value × Value)) : ∀ j, j < ts.length * 3 → (flat3 ts)[j]? = some (netCell (fun i => (ts.getD i (undef, undef, undef)).1) (fun i => (ts.getD i (undef, undef, undef)).2.1) (fun i => (ts.getD i (undef, undef, undef)).2.2) j) := by
  induction ts with
  | nil => intro j hj; simp at hj
  | cons t ts ih =>
    intro j hj
    match j with
    | 0 => rfl
    | 1 => rfl
    | 2 => rfl
    | j + 3 =>
      have := ih j (by simp at hj; omega)
      show (flat3 ts)[j]? = _
      rw [this]
      unfold netCell
      rw [show (j + 3) % 3 = j % 3 by omega, show (j + 3) / 3 = j / 3 + 1 by omega]
      rfl
def OwnNS (w : World) (base top : Nat) (e : TypeId) (v : Value) (Ns : List NetD) : Prop :=
  ∃ (ts : List (Value × Value × Value)) (lo hi : Nat → Nat), ts.length = Ns.length ∧ w.ownsRow base e 3 v ts.length (flat3 ts) ∧ base ≤ top ∧ top ≤ w.heap.size ∧
    (∀ j, j < Ns.length → ∃ t, ts[j]? = some t ∧ base ≤ lo j ∧ hi j ≤ top ∧ NetB w (lo j) (hi j) (.agg #[t.1, t.2.1, t.2.2]) (nthN Ns j) ∧ ∀ g, v.ownBlock = some g → g < lo j ∨ hi j ≤ g) ∧
    ∀ i j, i < j → j < Ns.length → hi i ≤ lo j
theorem nthN_append_left {a b : List NetD} {j : Nat} (h : j < a.length) : nthN (a ++ b) j = nthN a j := by simp [nthN, List.getElem?_append_left h]
theorem nthN_append_at (a : List NetD) (x : NetD) : nthN (a ++ [x]) a.length = x := by simp [nthN]
section
variable {w w' : World} {base top : Nat} {e : TypeId} {v : Value} {Ns : List NetD}
theorem OwnNS.open_ (h : OwnNS w base top e v Ns) : ∃ ts : List (Value × Value × Value), ts.length = Ns.length ∧ w.ownsRow base e 3 v ts.length (flat3 ts) ∧
    ∀ (w' : World) (v' a b c : Value) (x : NetD) (lo hi : Nat), NetB w lo hi (.agg #[a, b, c]) x → top ≤ lo → hi ≤ w.heap.size → lo ≤ hi → (∀ g, v.ownBlock = some g → g < lo ∨ hi ≤ g) → w'.ownsRow base e 3 v' (ts.length + 1) (flat3 ts ++ [a, b, c]) → w.grownBy w' v.ownBlock → (v'.ownBlock = v.ownBlock ∨ ∃ g, v'.ownBlock = some g ∧ w.heap.size ≤ g) → OwnNS w' base hi e v' (Ns ++ [x]) := by
  obtain ⟨ts, los, his, h1, h2, h3, h4, h5, h6⟩ := h
  refine ⟨ts, h1, h2, fun w' v' a b c x lo hi hu hlo hhi hlh hfar ho' hg' hat' => ?_⟩
  have hgs := hg'.size
  have hnew : ∀ a b : Nat, b ≤ w.heap.size → (∀ g, v.ownBlock = some g → g < a ∨ b ≤ g) → ∀ g, v'.ownBlock = some g → g < a ∨ b ≤ g := fun a b hb hv g hg => by
    rcases hat' with e1 | ⟨g', e1, h1⟩
    · exact hv g (by rw [← e1]; exact hg)
    · rw [e1] at hg; injection hg with hg; omega
  refine ⟨ts ++ [(a, b, c)], fun j => if j < Ns.length then los j else lo, fun j => if j < Ns.length then his j else hi, by simp [h1], (by rw [flat3_snoc]; simpa using ho'), by omega, by omega, fun j hj => ?_, fun i j hij hj => ?_⟩
  · dsimp only
    by_cases e1 : j < Ns.length
    · obtain ⟨t, a1, a2, a3, a4, a5⟩ := h5 j e1
      rw [if_pos e1, if_pos e1, nthN_append_left e1]
      exact ⟨t, by rw [List.getElem?_append_left (by omega)]; exact a1, a2, by omega, a4.far hg' (by omega) a5, hnew _ _ (by omega) a5⟩
    · obtain rfl : j = Ns.length := by simp at hj; omega
      rw [if_neg e1, if_neg e1, nthN_append_at]
      exact ⟨(a, b, c), by rw [← h1]; simp, by omega, Nat.le_refl _, hu.far hg' hhi hfar, hnew _ _ hhi hfar⟩
  · dsimp only
    rw [if_pos (by simp at hj; omega)]
    by_cases e1 : j < Ns.length
    · rw [if_pos e1]; exact h6 i j hij e1
    · rw [if_neg e1]
      obtain ⟨u, _, _, a3, _⟩ := h5 i (by simp at hj; omega)
      omega
theorem OwnNS.far {row : Option Nat} (h : OwnNS w base top e v Ns) (hg : w.grownBy w' row) (hr : ∀ g, row = some g → g < base) : OwnNS w' base top e v Ns := by
  obtain ⟨ts, los, his, h1, h2, h3, h4, h5, h6⟩ := h
  refine ⟨ts, los, his, h1, World.ownsRow.kept h2 hg ?_, h3, Nat.le_trans h4 hg.size, fun j hj => ?_, h6⟩
  · cases hv : v.ownBlock with
    | none => exact .inl rfl
    | some g => right; intro e; have := (World.ownsRow.lt h2 g hv).1; have := hr g e.symm; omega
  · obtain ⟨t, a1, a2, a3, a4, a5⟩ := h5 j hj
    exact ⟨t, a1, a2, a3, a4.far hg (by omega) (fun g e => .inl (by have := hr g e; omega)), a5⟩
theorem OwnNS.still (h : OwnNS w base top e v Ns) (hg : w.grownBy w' none) : OwnNS w' base top e v Ns := h.far hg (fun g e => by cases e)
theorem OwnNS.ltB (h : OwnNS w base top e v Ns) : ∀ g, v.ownBlock = some g → base ≤ g ∧ g < w.heap.size := by
  obtain ⟨ts, los, his, h1, h2, _⟩ := h
  exact World.ownsRow.lt h2
theorem OwnNS.weak {top' : Nat} (h : OwnNS w base top e v Ns) (h1 : top ≤ top') (h2 : top' ≤ w.heap.size) : OwnNS w base top' e v Ns := by
  obtain ⟨ts, los, his, k1, k2, k3, k4, k5, k6⟩ := h
  refine ⟨ts, los, his, k1, k2, by omega, h2, fun j hj => ?_, k6⟩
  obtain ⟨t, a1, a2, a3, a4, a5⟩ := k5 j hj
  exact ⟨t, a1, a2, by omega, a4, a5⟩
theorem OwnNS.nil (h1 : base ≤ top) (h2 : top ≤ w.heap.size) : OwnNS w base top e (.slice none 0 0) [] :=
  ⟨[], fun _ => 0, fun _ => 0, rfl, ⟨by simp [flat3], .inl ⟨rfl, rfl⟩⟩, h1, h2, fun j hj => absurd hj (by simp), fun i j _ hj => absurd hj (by simp)⟩
theorem OwnNS.netSX (h : OwnNS w base top e v Ns) : NetSX w base w.heap.size v Ns := by
  obtain ⟨ts, los, his, h1, h2, h3, h4, h5, h6⟩ := h
  refine ⟨fun i => (ts.getD i (undef, undef, undef)).1, fun i => (ts.getD i (undef, undef, undef)).2.1, fun i => (ts.getD i (undef, undef, undef)).2.2, los, his, ?_, fun i hi => ?_, h6⟩
  · have := Sl.of_own h2 (flat3_get ts)
    rw [h1] at this
    exact this
  · obtain ⟨t, a1, a2, a3, a4, a5⟩ := h5 i hi
    refine ⟨a2, by omega, ?_, fun g hg => a5 g ?_⟩
    · have e : ts.getD i (undef, undef, undef) = t := by simp [a1]
      dsimp only
      rw [e]
      exact a4
    · unfold rowOf at hg
      split at hg
      · cases hg
      · exact hg
end
end Go.Proofs.YtmdlginjblnfoaaGreat

/- Plain: the walk from a node, in the order in which nodes are found, and its code; a map that numbers the nodes of a list. No condition on any program. -/
namespace Go.Proofs.YtmdlginjblnfoaaGreat
open Go.ChangeShapes Go.WideShapes Go.ChangeAt Go.RowKit
set_option linter.unusedVariables false

def wkStep (L : List Int) (x : Int) : List Int := if x ∈ L then L else L ++ [x]
def wkRow (N : NetD) (L : List Int) (u m : Nat) : List Int := ((nbs N u).take m).foldl wkStep L
def wkGo (N : NetD) : Nat → Nat → List Int → List Int
  | 0, _, L => L
  | f + 1, a, L => if a < L.length then wkGo N f (a + 1) (wkRow N L (nth L a).toNat (nbs N (nth L a).toNat).length) else L
def walkN (N : NetD) (v : Nat) : List Int := wkGo N (N.ends.length + 1) 0 [(v : Int)]
theorem wkRow_zero (N : NetD) (L : List Int) (u : Nat) : wkRow N L u 0 = L := rfl
theorem wkRow_succ (N : NetD) (L : List Int) (u : Nat) {m : Nat} (h : m < (nbs N u).length) : wkRow N L u (m + 1) = wkStep (wkRow N L u m) (nth (nbs N u) m) := by
  unfold wkRow; rw [List.take_succ_eq_append_getElem h, List.foldl_append, nth_eq h]; rfl
/-- the nodes found so far: each once -/
structure WkOk (N : NetD) (L : List Int) : Prop where
  nodup : L.Nodup
  node : ∀ x ∈ L, ∃ t : Nat, x = t ∧ t < N.ends.length
theorem WkOk.step {N : NetD} {L : List Int} (h : WkOk N L) {t : Nat} (ht : t < N.ends.length) : WkOk N (wkStep L (t : Int)) := by
  unfold wkStep
  split
  · exact h
  · rename_i hm
    refine ⟨?_, fun x hx => ?_⟩
    · rw [List.nodup_append]
      exact ⟨h.nodup, by simp, fun a ha b hb => by simp at hb; subst hb; rintro rfl; exact hm ha⟩
    · rw [List.mem_append, List.mem_singleton] at hx
      rcases hx with hx | rfl
      · exact h.node x hx
      · exact ⟨t, rfl, ht⟩
theorem nodupI_len : ∀ (l : List Int) (m : List Int), l.Nodup → (∀ x ∈ l, x ∈ m) → l.length ≤ m.length
  | [], m, _, _ => Nat.zero_le _
  | a :: l, m, hn, h => by
    rw [List.nodup_cons] at hn
    have ha : a ∈ m := h a (by simp)
    have hle := nodupI_len l (m.erase a) hn.2 fun x hx => (List.mem_erase_of_ne (fun e => hn.1 (by rw [← e]; exact hx))).2 (h x (List.mem_cons_of_mem _ hx))
    rw [List.length_erase_of_mem ha] at hle
    have := List.length_pos_of_mem ha
    simp only [List.length_cons]; omega
theorem WkOk.len {N : NetD} {L : List Int} (h : WkOk N L) : L.length ≤ N.ends.length := by
  have := nodupI_len L ((List.range N.ends.length).map fun (k : Nat) => (k : Int)) h.nodup (fun x hx => by
    obtain ⟨t, rfl, ht⟩ := h.node x hx
    exact List.mem_map.2 ⟨t, List.mem_range.2 ht, rfl⟩)
  simpa using this
theorem WkOk.at_ {N : NetD} {L : List Int} (h : WkOk N L) {k : Nat} (hk : k < L.length) : ∃ t : Nat, nth L k = t ∧ t < N.ends.length := h.node _ (nth_mem hk)
theorem WkOk.row {N : NetD} (hN : N.nodes) {L : List Int} (h : WkOk N L) {u : Nat} (hu : u < N.ends.length) : ∀ m, m ≤ (nbs N u).length → WkOk N (wkRow N L u m)
  | 0, _ => h
  | m + 1, hm => by
    rw [wkRow_succ _ _ _ (by omega)]
    obtain ⟨t, et, ht⟩ := hN u hu m (by rw [nbs_length] at hm; omega)
    rw [nth_nbs N u (by rw [nbs_length] at hm; omega), et]
    exact (WkOk.row hN h hu m (by omega)).step ht
theorem wkStep_pre (L : List Int) (x : Int) : L <+: wkStep L x := by
  unfold wkStep; split
  · exact List.prefix_refl _
  · exact List.prefix_append _ _
theorem wkRow_pre (N : NetD) (L : List Int) (u : Nat) : ∀ m, m ≤ (nbs N u).length → L <+: wkRow N L u m
  | 0, _ => List.prefix_refl _
  | m + 1, h => by rw [wkRow_succ _ _ _ (by omega)]; exact (wkRow_pre N L u m (by omega)).trans (wkStep_pre _ _)
theorem nth_pre {a b : List Int} (h : a <+: b) {k : Nat} (hk : k < a.length) : nth b k = nth a k := by
  obtain ⟨r, rfl⟩ := h
  unfold nth
  simp [List.getElem?_append_left hk]
/-- where the walk stands -/
structure WkTop (N : NetD) (v a : Nat) (L : List Int) : Prop where
  ok : WkOk N L
  le : a ≤ L.length
  eq : walkN N v = wkGo N (N.ends.length + 1 - a) a L
theorem WkTop.start {N : NetD} {v : Nat} (hv : v < N.ends.length) : WkTop N v 0 [(v : Int)] :=
  ⟨⟨by simp, fun x hx => ⟨v, by simpa using hx, hv⟩⟩, Nat.zero_le _, rfl⟩
theorem WkTop.next {N : NetD} (hN : N.nodes) {v a : Nat} {L : List Int} (h : WkTop N v a L) (ha : a < L.length) {u : Nat} (hu : nth L a = u) (hun : u < N.ends.length) : WkTop N v (a + 1) (wkRow N L u (nbs N u).length) := by
  have hl := h.ok.len
  have hp := (wkRow_pre N L u _ (Nat.le_refl _)).length_le
  refine ⟨h.ok.row hN hun _ (Nat.le_refl _), by omega, ?_⟩
  rw [h.eq, show N.ends.length + 1 - a = (N.ends.length + 1 - (a + 1)) + 1 by omega]
  show (if a < L.length then _ else _) = _
  rw [if_pos ha, hu, Int.toNat_natCast]
theorem WkTop.stop {N : NetD} {v : Nat} {L : List Int} (h : WkTop N v L.length L) : walkN N v = L := by
  rw [h.eq]
  have hl := h.ok.len
  rw [show N.ends.length + 1 - L.length = (N.ends.length - L.length) + 1 by omega]
  show (if L.length < L.length then _ else _) = _
  rw [if_neg (by omega)]
theorem walk_top {N : NetD} (hN : N.nodes) {v : Nat} (hv : v < N.ends.length) : WkTop N v (walkN N v).length (walkN N v) := by
  have key : ∀ f a L, WkTop N v a L → N.ends.length - a = f → ∃ L', WkTop N v L'.length L' := by
    intro f
    induction f with
    | zero =>
      intro a L h e
      have := h.ok.len; have := h.le
      exact ⟨L, by rw [show L.length = a by omega]; exact h⟩
    | succ f ih =>
      intro a L h e
      by_cases ha : a < L.length
      · obtain ⟨u, hu, hun⟩ := h.ok.at_ ha
        exact ih (a + 1) _ (h.next hN ha hu hun) (by omega)
      · exact ⟨L, by rw [show L.length = a by have := h.le; omega]; exact h⟩
  obtain ⟨L, h⟩ := key _ 0 _ (WkTop.start hv) rfl
  rw [h.stop]; exact h
theorem walk_ok {N : NetD} (hN : N.nodes) {v : Nat} (hv : v < N.ends.length) : WkOk N (walkN N v) := (walk_top hN hv).ok
theorem walk_pos {N : NetD} (hN : N.nodes) {v : Nat} (hv : v < N.ends.length) : (v : Int) ∈ walkN N v := by
  have key : ∀ f a L, (v : Int) ∈ L → (v : Int) ∈ wkGo N f a L := by
    intro f
    induction f with
    | zero => intro a L h; exact h
    | succ f ih =>
      intro a L h
      show (v : Int) ∈ (if a < L.length then _ else _)
      split
      · exact ih _ _ ((wkRow_pre N L _ _ (Nat.le_refl _)).subset h)
      · exact h
  exact key _ _ _ (by simp)

/-- the index of a node in a list; 0 where it is not -/
def numV (L : List Int) (x : Int) : Int := if x ∈ L then (L.idxOf x : Int) else 0
def codeRow (N : NetD) (L : List Int) (u m : Nat) : List Int := ((nthL N.ends u).take m).flatMap fun e => [numV L e.1, e.2]
def codeHead (N : NetD) (u : Nat) : List Int := [((nthL N.ends u).length : Int), nth N.inputs u, if 0 < N.ids.length then nth N.ids u else 0]
def codeTo (N : NetD) (L : List Int) (k : Nat) : List Int := (L.take k).flatMap fun x => codeHead N x.toNat ++ codeRow N L x.toNat (nthL N.ends x.toNat).length
def codeN (N : NetD) (L : List Int) : List Int := codeTo N L L.length
theorem codeRow_succ (N : NetD) (L : List Int) (u : Nat) {m : Nat} (h : m < (nthL N.ends u).length) : codeRow N L u (m + 1) = codeRow N L u m ++ [numV L (nthE (nthL N.ends u) m).1, (nthE (nthL N.ends u) m).2] := by
  unfold codeRow; rw [List.take_succ_eq_append_getElem h, List.flatMap_append, nthE_eq h]; simp
theorem codeTo_succ (N : NetD) (L : List Int) {k u : Nat} (h : k < L.length) (hu : nth L k = (u : Int)) : codeTo N L (k + 1) = codeTo N L k ++ (codeHead N u ++ codeRow N L u (nthL N.ends u).length) := by
  unfold codeTo; rw [List.take_succ_eq_append_getElem h, List.flatMap_append, ← nth_eq h, hu]; simp
theorem codeRow_len (N : NetD) (L : List Int) (u m : Nat) : (codeRow N L u m).length ≤ 2 * m := by
  unfold codeRow
  have h2 : ∀ l : List (Int × Int), (l.flatMap fun e => [numV L e.1, e.2]).length = 2 * l.length := by
    intro l
    induction l with
    | nil => rfl
    | cons a l ih => rw [List.flatMap_cons, List.length_append, ih, List.length_cons]; simp only [List.length_cons, List.length_nil]; omega
  rw [h2, List.length_take]; omega
theorem codeTo_len {N : NetD} (hg : N.good = true) {L : List Int} (hL : WkOk N L) : ∀ k, k ≤ L.length → (codeTo N L k).length ≤ 15 * k
  | 0, _ => by simp [codeTo]
  | k + 1, h => by
    obtain ⟨u, hu, hun⟩ := hL.at_ (show k < L.length by omega)
    have ih := codeTo_len hg hL k (by omega)
    have h1 := codeRow_len N L u (nthL N.ends u).length
    have h2 := good_deg hg hun
    rw [codeTo_succ N L (by omega) hu, List.length_append, List.length_append]
    have h3 : (codeHead N u).length = 3 := rfl
    omega

/-! a map that numbers nodes -/
def rdN (v : Value) : Option (DataW Value × List MemPlace) := some (.held v, [])
theorem keyedN : Maps.Keyed Tryz.prog 3 := Maps.int_keyed Tryz.underlying3
theorem keyN {x : Int} (h : I64 x) : keyOf Tryz.prog 3 (.int .i64 x) = some (.int .i64 x) := Maps.keyOf_int_mk Tryz.underlying3 (WalkArith.wf_i64 h)
/-- block b is a map that numbers the nodes of L -/
def MpN (w : World) (b : Nat) (L : List Int) (m : Nat) : Prop :=
  ∃ (n : Nat) (D : DataW Value), n ≤ m ∧ w.ownsMap Tryz.prog 3 rdN b n D ∧ Maps.IsMap D ∧ (∀ x, I64 x → D.atKey (.int .i64 x) (.held (.int .i64 0)) = .held (.int .i64 (numV L x))) ∧ ∀ x, I64 x → Maps.has D (.int .i64 x) = decide (x ∈ L)
section
variable {w w' : World} {b m : Nat} {L : List Int}
theorem MpN.new (w : World) : MpN (w.alloc (.map #[] 0)) w.heap.size [] 0 :=
  ⟨0, .map [], Nat.le_refl _, World.ownsMap_made _ _ _ _, Maps.isMap_empty, fun x _ => rfl, fun x _ => rfl⟩
theorem MpN.lt (h : MpN w b L m) : b < w.heap.size := let ⟨_, _, _, h, _⟩ := h; h.lt
theorem MpN.mono (h : MpN w b L m) {m' : Nat} (hm : m ≤ m') : MpN w b L m' := let ⟨n, D, h1, h2⟩ := h; ⟨n, D, by omega, h2⟩
theorem MpN.kept {row : Option Nat} (h : MpN w b L m) (hg : w.grownBy w' row) (hr : some b ≠ row) : MpN w' b L m := let ⟨n, D, h1, h2, h3⟩ := h; ⟨n, D, h1, h2.kept hg hr, h3⟩
theorem MpN.far {row : Option Nat} (h : MpN w b L m) (hg : w.grownBy w' row) (hr : ∀ g, row = some g → g ≠ b) : MpN w' b L m := h.kept hg (fun e => hr b e.symm rfl)
theorem MpN.still (h : MpN w b L m) (hg : w.grownBy w' none) : MpN w' b L m := h.kept hg (by simp)
theorem zeroN (w : World) : (zeroValue 3).run Tryz.prog w = .ok (.int .i64 0) w := by kernel_rfl
theorem MpN.look (h : MpN w b L m) {x : Int} (hx : I64 x) : (Instr.lookup 91 (.map (some b)) (.int .i64 x) false).run Tryz.prog w = .ok (.int .i64 (numV L x)) w := by
  obtain ⟨n, D, _, h2, h3, h4, _⟩ := h
  obtain ⟨v, ps, hrun, hv⟩ := h2.lookup (R := rdN) keyedN Tryz.underlying91 (zeroN w) rfl (keyN hx)
  rw [h4 x hx] at hv
  have hv1 : some ((DataW.held v : DataW Value), ([] : List MemPlace)) = some (DataW.held (.int .i64 (numV L x)), ps) := hv
  have : v = .int .i64 (numV L x) := DataW.held.inj (Prod.mk.inj (Option.some.inj hv1)).1
  rw [hrun, this]
theorem MpN.look_ok (h : MpN w b L m) {x : Int} (hx : I64 x) : (Instr.lookup 91 (.map (some b)) (.int .i64 x) true).run Tryz.prog w = .ok (.tuple #[.int .i64 (numV L x), .bool (decide (x ∈ L))]) w := by
  obtain ⟨n, D, _, h2, h3, h4, h5⟩ := h
  obtain ⟨v, ps, hrun, hv⟩ := h2.look_ok (R := rdN) keyedN Tryz.underlying91 (zeroN w) rfl (keyN hx)
  rw [h4 x hx] at hv
  have hv1 : some ((DataW.held v : DataW Value), ([] : List MemPlace)) = some (DataW.held (.int .i64 (numV L x)), ps) := hv
  have : v = .int .i64 (numV L x) := DataW.held.inj (Prod.mk.inj (Option.some.inj hv1)).1
  rw [hrun, this, h5 x hx]
set_option maxRecDepth 100000 in
theorem MpN.put (h : MpN w b L m) (hm : m < 1099511627776) {x : Int} (hx : I64 x) (hn : x ∉ L) :
    ∃ w', (Instr.mapUpdate 91 (.map (some b)) (.int .i64 x) (.int .i64 (L.length : Nat))).run Tryz.prog w = .ok () w' ∧ w.grownBy w' (some b) ∧ MpN w' b (L ++ [x]) (m + 1) := by
  obtain ⟨n, D, h1, h2, h3, h4, h5⟩ := h
  obtain ⟨w', hU, hown, hg⟩ := h2.update (R := rdN) keyedN Tryz.underlying91 (show n < maxLen by unfold maxLen; omega) (keyN hx) (show rdN (.int .i64 (L.length : Nat)) = some (.held (.int .i64 (L.length : Nat)), []) from rfl)
  have hK : WideAt.IsKeyLit (.int .i64 x) := by simp [WideAt.IsKeyLit]
  refine ⟨w', hU, hg, n + 1, D.put (.int .i64 x) (.held (.int .i64 (L.length : Nat))), by omega, hown, h3.put _ _, fun a ha => ?_, fun a ha => ?_⟩
  · by_cases e : a = x
    · subst e
      rw [Maps.atKey_put_same h3 hK]
      congr 2
      unfold numV
      rw [if_pos (by simp), List.idxOf_append, if_neg hn]
      simp
    · rw [Maps.atKey_put_other (fun e2 => e (by injection e2)), h4 a ha]
      have e2 : numV L a = numV (L ++ [x]) a := by
        unfold numV
        by_cases hm : a ∈ L
        · rw [if_pos hm, if_pos (by simp [hm]), List.idxOf_append, if_pos hm]
        · rw [if_neg hm, if_neg (by simp [hm, e])]
      exact congrArg (fun z => (DataW.held (Value.int .i64 z) : DataW Value)) e2
  · by_cases e : a = x
    · subst e
      rw [Maps.has_put_same h3 hK]; simp
    · rw [Maps.has_put_other (fun e2 => e (by injection e2)), h5 a ha]
      simp [e]
end
end Go.Proofs.YtmdlginjblnfoaaGreat

/- Plain: the components of a network with their least codes, and their order. No condition on any program. -/
namespace Go.Proofs.YtmdlginjblnfoaaGreat
set_option linter.unusedVariables false

/-- lexicographic order -/
def ltL : List Int → List Int → Bool
  | [], [] => false
  | [], _ :: _ => true
  | _ :: _, [] => false
  | a :: l, b :: m => if a = b then ltL l m else decide (a < b)
theorem ltL_irr : ∀ l, ltL l l = false
  | [] => rfl
  | a :: l => by simp only [ltL, if_pos]; exact ltL_irr l
theorem ltL_trans : ∀ {a b c : List Int}, ltL a b = true → ltL b c = true → ltL a c = true
  | [], [], _, h, _ => by cases h
  | [], _ :: _, [], _, h => by cases h
  | [], _ :: _, _ :: _, _, _ => rfl
  | _ :: _, [], _, h, _ => by cases h
  | _ :: _, _ :: _, [], _, h => by cases h
  | x :: l, y :: m, z :: n, h, k => by
    simp only [ltL] at h k ⊢
    by_cases e1 : x = y
    · rw [if_pos e1] at h
      by_cases e2 : y = z
      · rw [if_pos e2] at k
        rw [if_pos (e1.trans e2)]; exact ltL_trans h k
      · rw [if_neg e2, decide_eq_true_eq] at k
        rw [if_neg (by omega), decide_eq_true_eq]; omega
    · rw [if_neg e1, decide_eq_true_eq] at h
      by_cases e2 : y = z
      · rw [if_neg (by omega), decide_eq_true_eq]; omega
      · rw [if_neg e2, decide_eq_true_eq] at k
        rw [if_neg (by omega), decide_eq_true_eq]; omega
theorem ltL_tot : ∀ {a b : List Int}, ltL a b = false → ltL b a = false → a = b
  | [], [], _, _ => rfl
  | [], _ :: _, h, _ => by cases h
  | _ :: _, [], _, h => by cases h
  | x :: l, y :: m, h, k => by
    simp only [ltL] at h k
    by_cases e : x = y
    · rw [if_pos e] at h
      rw [if_pos e.symm] at k
      rw [e, ltL_tot h k]
    · rw [if_neg e, decide_eq_false_iff_not] at h
      rw [if_neg (fun e2 => e e2.symm), decide_eq_false_iff_not] at k
      omega
/-- a component: its least code, the walk that has it, its least node, and how many of its nodes have the code -/
structure CmpD where
  code : List Int
  walk : List Int
  least : Nat
  cnt : Nat
def cmpStep (N : NetD) (c : CmpD) (x : Int) : CmpD :=
  if c.cnt = 0 ∨ ltL (codeN N (walkN N x.toNat)) c.code = true then ⟨codeN N (walkN N x.toNat), walkN N x.toNat, c.least, 1⟩
  else if codeN N (walkN N x.toNat) = c.code then ⟨c.code, c.walk, c.least, c.cnt + 1⟩ else c
def nodesOf (N : NetD) (v : Nat) : List Int := sortI (walkN N v)
def cmp0 (v : Nat) : CmpD := ⟨[], [], v, 0⟩
def compTo (N : NetD) (v k : Nat) : CmpD := ((nodesOf N v).take k).foldl (cmpStep N) (cmp0 v)
def compD (N : NetD) (v : Nat) : CmpD := compTo N v (nodesOf N v).length
theorem cmpStep_least (N : NetD) (c : CmpD) (x : Int) : (cmpStep N c x).least = c.least := by
  unfold cmpStep; split
  · rfl
  · split <;> rfl
theorem compTo_succ (N : NetD) (v : Nat) {k : Nat} (h : k < (nodesOf N v).length) : compTo N v (k + 1) = cmpStep N (compTo N v k) (nth (nodesOf N v) k) := by
  unfold compTo; rw [List.take_succ_eq_append_getElem h, List.foldl_append, nth_eq h]; rfl
theorem compTo_least (N : NetD) (v : Nat) : ∀ k, k ≤ (nodesOf N v).length → (compTo N v k).least = v
  | 0, _ => rfl
  | k + 1, h => by rw [compTo_succ N v (by omega), cmpStep_least, compTo_least N v k (by omega)]
/-- the components of the nodes below k, and the nodes that they have -/
def stC (N : NetD) : Nat → List CmpD × List Int
  | 0 => ([], [])
  | k + 1 => if (k : Int) ∈ (stC N k).2 then stC N k else ((stC N k).1 ++ [compD N k], (stC N k).2 ++ nodesOf N k)
def compsN (N : NetD) : List CmpD := (stC N N.ends.length).1
theorem stC_least (N : NetD) : ∀ k, (∀ c ∈ (stC N k).1, c.least < k) ∧ (stC N k).1.Pairwise (fun a b => a.least < b.least)
  | 0 => ⟨(fun c h => by cases h), List.Pairwise.nil⟩
  | k + 1 => by
    obtain ⟨h1, h2⟩ := stC_least N k
    simp only [stC]
    split
    · exact ⟨fun c hc => by have := h1 c hc; omega, h2⟩
    · have hl : (compD N k).least = k := compTo_least N k _ (Nat.le_refl _)
      refine ⟨fun c hc => ?_, ?_⟩
      · rw [List.mem_append, List.mem_singleton] at hc
        rcases hc with hc | rfl
        · have := h1 c hc; omega
        · omega
      · rw [List.pairwise_append]
        exact ⟨h2, List.pairwise_singleton _ _, fun a ha b hb => by rw [List.mem_singleton] at hb; rw [hb, hl]; exact h1 a ha⟩
/-- the canonical order of components -/
def ltC (a b : CmpD) : Prop := ltL a.code b.code = true ∨ (a.code = b.code ∧ a.least < b.least)
theorem ltC_irr (a : CmpD) : ¬ ltC a a := by
  rintro (h | ⟨_, h⟩)
  · rw [ltL_irr] at h; cases h
  · omega
theorem ltC_trans {a b c : CmpD} (h : ltC a b) (k : ltC b c) : ltC a c := by
  rcases h with h | ⟨e, h⟩ <;> rcases k with k | ⟨e2, k⟩
  · exact .inl (ltL_trans h k)
  · exact .inl (by rw [← e2]; exact h)
  · exact .inl (by rw [e]; exact k)
  · exact .inr ⟨e.trans e2, by omega⟩
/-- the reference's insertion -/
def insC (x : CmpD) : List CmpD → List CmpD
  | [] => [x]
  | y :: l => if ltL x.code y.code = true then x :: y :: l else y :: insC x l
def insAll (cs : List CmpD) : List CmpD := cs.foldl (fun acc x => insC x acc) []
theorem insC_perm (x : CmpD) : ∀ l, (insC x l).Perm (l ++ [x])
  | [] => .refl _
  | y :: l => by
    simp only [insC]
    split
    · exact (List.perm_append_comm (l₁ := [x]) (l₂ := y :: l))
    · exact (insC_perm x l).cons y
theorem insC_mem {x y : CmpD} {l : List CmpD} : y ∈ insC x l ↔ y ∈ l ∨ y = x := by
  rw [(insC_perm x l).mem_iff, List.mem_append, List.mem_singleton]
theorem insC_sorted {x : CmpD} : ∀ {l : List CmpD}, l.Pairwise ltC → (∀ y ∈ l, y.least < x.least) → (insC x l).Pairwise ltC
  | [], _, _ => List.pairwise_singleton _ _
  | y :: l, h, hl => by
    obtain ⟨h1, h2⟩ := List.pairwise_cons.1 h
    simp only [insC]
    by_cases e : ltL x.code y.code = true
    · rw [if_pos e]
      refine List.pairwise_cons.2 ⟨fun z hz => ?_, h⟩
      rcases List.mem_cons.1 hz with rfl | hz
      · exact .inl e
      · rcases h1 z hz with k | ⟨k, _⟩
        · exact .inl (ltL_trans e k)
        · exact .inl (by rw [← k]; exact e)
    · rw [if_neg e]
      refine List.pairwise_cons.2 ⟨fun z hz => ?_, insC_sorted h2 fun z hz => hl z (List.mem_cons_of_mem _ hz)⟩
      rcases insC_mem.1 hz with hz | rfl
      · exact h1 z hz
      · by_cases e2 : ltL y.code z.code = true
        · exact .inl e2
        · exact .inr ⟨ltL_tot (by simpa using e2) (by simpa using e), hl y (by simp)⟩
theorem insAll_spec : ∀ (cs acc : List CmpD), acc.Pairwise ltC → (∀ y ∈ acc, ∀ x ∈ cs, y.least < x.least) → cs.Pairwise (fun a b => a.least < b.least) → (cs.foldl (fun acc x => insC x acc) acc).Pairwise ltC ∧ (cs.foldl (fun acc x => insC x acc) acc).Perm (acc ++ cs)
  | [], acc, h, _, _ => ⟨h, by simp⟩
  | x :: cs, acc, h, hl, hc => by
    obtain ⟨c1, c2⟩ := List.pairwise_cons.1 hc
    obtain ⟨k1, k2⟩ := insAll_spec cs (insC x acc) (insC_sorted h fun y hy => hl y hy x (by simp)) (fun y hy z hz => by
      rcases insC_mem.1 hy with hy | rfl
      · exact hl y hy z (List.mem_cons_of_mem _ hz)
      · exact c1 z hz) c2
    refine ⟨k1, k2.trans ?_⟩
    refine ((insC_perm x acc).append_right cs).trans ?_
    rw [List.append_assoc]; exact .refl _
/-- THE COMPONENTS IN ORDER -/
def sortedC (N : NetD) : List CmpD := insAll (compsN N)
theorem sortedC_spec (N : NetD) : (sortedC N).Pairwise ltC ∧ (sortedC N).Perm (compsN N) := by
  have := insAll_spec (compsN N) [] List.Pairwise.nil (fun y hy => by cases hy) (stC_least N _).2
  simpa [sortedC, insAll] using this
/-- the index of each node in the canonical order -/
def ordTo (l : List CmpD) (n : Nat) : List Int := (l.flatMap CmpD.walk).zipIdx.foldl (fun o p => o.set p.1.toNat (p.2 : Int)) (List.replicate n 0)
def canonL (N : NetD) : List Int := ordTo (sortedC N) N.ends.length
end Go.Proofs.YtmdlginjblnfoaaGreat

/- Memory of lists of components: rows of structs that hold two slices each. No condition on any program. -/
namespace Go.Proofs.YtmdlginjblnfoaaGreat
open Go.ChangeShapes Go.WideShapes Go.ChangeAt Go.RowKit
set_option linter.unusedVariables false

/-- a component with the slices that hold its code and its walk -/
structure CmpV where
  vc : Value
  vw : Value
  c : CmpD
/-- its cells in the program and in the reference -/
def encI (x : CmpV) : List Value := [x.vc, x.vw, .int .i64 (x.c.least : Nat), .int .i64 (x.c.cnt : Nat)]
def encS (x : CmpV) : List Value := [x.vc, x.vw, .int .i64 (x.c.cnt : Nat)]
/-- its two slices lie in blocks from lo on and below hi -/
structure ElOk (w : World) (lo hi : Nat) (x : CmpV) : Prop where
  code : IntS w lo hi x.vc x.c.code
  walk : IntS w lo hi x.vw x.c.walk
theorem ElOk.far {w w' : World} {lo hi : Nat} {x : CmpV} {row : Option Nat} (h : ElOk w lo hi x) (hg : w.grownBy w' row) (hB : hi ≤ w.heap.size) (hr : ∀ g, row = some g → g < lo ∨ hi ≤ g) : ElOk w' lo hi x := ⟨IntS.far h.code hg hB hr, IntS.far h.walk hg hB hr⟩
/-- v is a row of components of the call's own: its block lies from base on and below top, and so do the blocks of the slices, which are others -/
structure CoS (enc : CmpV → List Value) (k : Nat) (w : World) (base top : Nat) (e : TypeId) (v : Value) (xs : List CmpV) : Prop where
  row : w.ownsRow base e k v xs.length (xs.flatMap enc)
  low : base ≤ top
  high : top ≤ w.heap.size
  own : ∀ g, v.ownBlock = some g → g < top
  el : ∀ x ∈ xs, ∃ lo hi, base ≤ lo ∧ hi ≤ top ∧ ElOk w lo hi x ∧ ∀ g, v.ownBlock = some g → g < lo ∨ hi ≤ g
section
variable {enc : CmpV → List Value} {k : Nat} {w w' : World} {base top : Nat} {e : TypeId} {v : Value} {xs : List CmpV}
theorem CoS.nil (enc : CmpV → List Value) (k : Nat) (w : World) (base : Nat) (e : TypeId) (h : base ≤ w.heap.size) : CoS enc k w base base e (.slice none 0 0) [] :=
  ⟨World.ownsRow_nil w base e k, Nat.le_refl _, h, (fun g h => by cases h), (fun x h => by cases h)⟩
theorem CoS.lt (h : CoS enc k w base top e v xs) : ∀ g, v.ownBlock = some g → base ≤ g ∧ g < top := fun g hg => ⟨(World.ownsRow.lt h.row g hg).1, h.own g hg⟩
theorem CoS.far {row : Option Nat} (h : CoS enc k w base top e v xs) (hg : w.grownBy w' row) (hr : ∀ g, row = some g → g < base ∨ top ≤ g) : CoS enc k w' base top e v xs := by
  refine ⟨World.ownsRow.kept h.row hg ?_, h.low, Nat.le_trans h.high hg.size, h.own, fun x hx => ?_⟩
  · cases hv : v.ownBlock with
    | none => exact .inl rfl
    | some g => right; intro e2; have := hr g e2.symm; have := h.lt g hv; omega
  · obtain ⟨lo, hi, a1, a2, a3, a4⟩ := h.el x hx
    exact ⟨lo, hi, a1, a2, a3.far hg (by have := h.high; omega) (fun g hg2 => by have := hr g hg2; omega), a4⟩
theorem CoS.still (h : CoS enc k w base top e v xs) (hg : w.grownBy w' none) : CoS enc k w' base top e v xs := h.far hg (fun g e => by cases e)
theorem CoS.mono (h : CoS enc k w base top e v xs) {top' : Nat} (h1 : top ≤ top') (h2 : top' ≤ w.heap.size) : CoS enc k w base top' e v xs :=
  ⟨h.row, Nat.le_trans h.low h1, h2, fun g hg => Nat.lt_of_lt_of_le (h.own g hg) h1, fun x hx => let ⟨lo, hi, a1, a2, a3⟩ := h.el x hx; ⟨lo, hi, a1, Nat.le_trans a2 h1, a3⟩⟩
theorem flat_len (hk : ∀ x, (enc x).length = k) : ∀ xs : List CmpV, (xs.flatMap enc).length = xs.length * k
  | [] => by simp
  | x :: xs => by rw [List.flatMap_cons, List.length_append, hk, flat_len hk xs, List.length_cons, Nat.succ_mul]; omega
theorem flat_get (hk : ∀ x, (enc x).length = k) : ∀ (xs : List CmpV) (j i : Nat) (hj : j < xs.length), i < k → (xs.flatMap enc)[j * k + i]? = (enc xs[j])[i]?
  | x :: xs, 0, i, _, hi => by
    rw [List.flatMap_cons, Nat.zero_mul, Nat.zero_add, List.getElem?_append_left (by rw [hk]; exact hi)]; rfl
  | x :: xs, j + 1, i, hj, hi => by
    rw [List.flatMap_cons, List.getElem?_append_right (by rw [hk, Nat.succ_mul]; omega), hk, show (j + 1) * k + i - k = j * k + i by rw [Nat.succ_mul]; omega]
    exact flat_get hk xs j i (by simpa using hj) hi
/-- what a cell holds -/
theorem CoS.cells (h : CoS enc k w base top e v xs) (hk : ∀ x, (enc x).length = k) (h0 : 0 < xs.length) (hk0 : 0 < k) : ∃ b c, v = .slice (some ⟨b, 0, none⟩) xs.length c ∧ xs.length ≤ c ∧ c ≤ 9223372036854775807 ∧ base ≤ b ∧ b < top ∧ ∀ j (hj : j < xs.length) i (u : Value), i < k → (enc xs[j])[i]? = some u → w.cell? ⟨b, j * k + i, none⟩ = some u ∧ w.frozen? ⟨b, j * k + i, none⟩ = false := by
  have hsl := Sl.of_own (f := fun j => (xs.flatMap enc).getD j undef) h.row (fun j hj => by
    rw [← flat_len hk] at hj; simp [List.getElem?_eq_getElem hj])
  obtain ⟨h1, h2⟩ := h.row
  rcases h2 with ⟨e1, e2⟩ | ⟨g, cap, cur, e1, hg, hh, hn, hm, hs, ht⟩
  · rw [e2] at h0; exact absurd h0 (Nat.lt_irrefl 0)
  · refine ⟨g, cap, e1, hn, hm, hg, h.own g (by rw [e1]; rfl), fun j hj i u hi hu => ?_⟩
    obtain ⟨A, c, e3, _, _, h3⟩ := hsl
    obtain ⟨b, off, e4, _, _, h4⟩ := h3 h0
    rw [e1] at e3
    injection e3 with e3 _ _
    rw [e4] at e3
    injection e3 with e3
    injection e3 with e3 e5 _
    subst e3 e5
    have hlt : j * k + i < xs.length * k := by
      have : (j + 1) * k ≤ xs.length * k := Nat.mul_le_mul_right k hj
      rw [Nat.succ_mul] at this; omega
    obtain ⟨a1, a2⟩ := h4 (j * k + i) hlt
    rw [Nat.zero_add] at a1 a2
    refine ⟨?_, a2⟩
    rw [a1]
    show some ((xs.flatMap enc).getD (j * k + i) undef) = _
    rw [List.getD_eq_getElem?_getD, flat_get hk xs j i hj hi, hu]; rfl
theorem CoS.len (h : CoS enc k w base top e v xs) : ∃ A c, v = .slice A xs.length c ∧ xs.length ≤ c ∧ c ≤ 9223372036854775807 := by
  obtain ⟨h1, h2⟩ := h.row
  rcases h2 with ⟨e1, e2⟩ | ⟨g, cap, cur, e1, hg, hh, hn, hm, hs, ht⟩
  · exact ⟨none, 0, by rw [e1, e2], by rw [e2]; exact Nat.le_refl 0, by omega⟩
  · exact ⟨_, _, e1, hn, hm⟩
/-- one more component -/
theorem CoS.push (h : CoS enc k w base top e v xs) {x : CmpV} {v' : Value} (hg : w.grownBy w' v.ownBlock) (hr : w'.ownsRow base e k v' (xs.length + 1) (xs.flatMap enc ++ enc x)) (hv : v'.ownBlock = v.ownBlock ∨ ∃ g, v'.ownBlock = some g ∧ w.heap.size ≤ g)
    {lo hi : Nat} (hx : ElOk w lo hi x) (h1 : top ≤ lo) (h2 : hi ≤ w.heap.size) (hlh : lo ≤ hi) : CoS enc k w' base w'.heap.size e v' (xs ++ [x]) := by
  have hs := hg.size
  have hlow := h.low
  have hhigh := h.high
  have hap : ∀ lo hi : Nat, hi ≤ w.heap.size → (∀ g, v.ownBlock = some g → g < lo ∨ hi ≤ g) → ∀ g, v'.ownBlock = some g → g < lo ∨ hi ≤ g := fun lo hi h1 h2 g hg2 => by
    rcases hv with e1 | ⟨g', e1, hg'⟩
    · exact h2 g (by rw [← e1]; exact hg2)
    · rw [e1] at hg2; injection hg2 with hg2; omega
  refine ⟨?_, by omega, Nat.le_refl _, fun g hg2 => (World.ownsRow.lt hr g hg2).2, fun y hy => ?_⟩
  · rw [List.length_append, List.flatMap_append]
    simpa using hr
  · rw [List.mem_append, List.mem_singleton] at hy
    rcases hy with hy | rfl
    · obtain ⟨lo', hi', a1, a2, a3, a4⟩ := h.el y hy
      exact ⟨lo', hi', a1, by omega, a3.far hg (by omega) a4, hap lo' hi' (by omega) a4⟩
    · have hold : ∀ g, v.ownBlock = some g → g < lo ∨ hi ≤ g := fun g hg2 => .inl (by have := h.own g hg2; omega)
      exact ⟨lo, hi, by omega, by omega, hx.far hg h2 hold, hap lo hi h2 hold⟩
end
end Go.Proofs.YtmdlginjblnfoaaGreat
