/-
  Contract: FromDigits at the digits of a number (program).
-/
import Derived.Test.YtbbdhcfbdndhlaaDoorDg
import Derived.Test.YtbbdhcfbdndhlaaDoorBack
namespace Go.Proofs.YtbbdhcfbdndhlaaDoor
open Go.ChangeShapes Go.WideShapes Go.ChangeAt Go.RowKit
set_option linter.unusedVariables false

attribute [local go_sem] Oper.semAt_some
theorem results_cells2 {fn : Func} {t u : Tmp} {ty tz : TypeId} (h : fn.results = #[.cell t ty, .cell u tz]) (tmps : Array Value) (P : Program) (w : World) {p q : Addr} {v b : Value} (ha : tmps.getD t undef = .pointer (some p)) (hl : (loadVar ty p).run P w = .ok v w) (hb : tmps.getD u undef = .pointer (some q)) (hm : (loadVar tz q).run P w = .ok b w) :
    (results fn tmps).run P w = .ok (.tuple #[v, b]) w := by
  have ha' : tmps[t]?.getD undef = .pointer (some p) := by simpa using ha
  have hb' : tmps[u]?.getD undef = .pointer (some q) := by simpa using hb
  simp [results, h, ha', hb', asAddr, hl, hm]
theorem load_oneI {w : World} {g : Nat} {a : Int} (h : BoxN w g #[.int .i64 a] 3) : (loadVar 3 ⟨g, 0, none⟩).run Tryd.prog w = .ok (.int .i64 a) w := by
  have k0 : w.cell? ⟨g, 0, none⟩ = some (.int .i64 a) := h.cell 0 (by simp)
  unfold loadVar
  simp [go_sem, k0]
theorem load_oneB {w : World} {g : Nat} {a : Bool} (h : BoxN w g #[.bool a] 4) : (loadVar 4 ⟨g, 0, none⟩).run Tryd.prog w = .ok (.bool a) w := by
  have k0 : w.cell? ⟨g, 0, none⟩ = some (.bool a) := h.cell 0 (by simp)
  unfold loadVar
  simp [go_sem, k0]
/-- what a round of FromDigits carries: the number made so far; it is right if the digits came in order -/
structure FdIn (n b c : Nat) (Z : List Int) (pre : List (Ix Z.length)) (v : Int) : Prop where
  low : 0 ≤ v
  high : v ≤ 1000000000000
  is : ∀ k, k ≤ c → pre = downs Z.length k → v = ((n / b ^ (c - k) : Nat) : Int)
/-- the next digit -/
theorem FdIn.next {n b c : Nat} {Z : List Int} (hZ : Z = digs n b c) (hb : 0 < b) {pre : List (Ix Z.length)} {v : Int} (h : FdIn n b c Z pre v) (x : Ix Z.length) : ∀ k, k ≤ c → pre ++ [x] = downs Z.length k → v * b + nth Z x.1 = ((n / b ^ (c - k) : Nat) : Int)
  | 0, _, e => by simp [downs] at e
  | k + 1, hk, e => by
    have hl : Z.length = c := by rw [hZ]; exact digs_len n b c
    rw [downs_succ (by omega)] at e
    have h1 : pre = downs Z.length k := List.append_inj_left' e rfl
    have h2 := List.append_inj_right' e rfl
    simp only [List.cons.injEq, and_true] at h2
    have hv := h.is k (by omega) h1
    have hx : x.1 = c - 1 - k := by rw [h2]; show Z.length - 1 - k = _; rw [hl]
    have hn : nth Z x.1 = ((n / b ^ x.1 % b : Nat) : Int) := by
      obtain ⟨i, hi⟩ := x
      show nth Z i = ((n / b ^ i % b : Nat) : Int)
      rw [hZ]; exact nth_digs (by omega)
    rw [hv, hn, hx]
    have hd := congrArg (fun x : Nat => (x : Int)) (div_back (n := n) (b := b) (i := c - (k + 1)) hb)
    simp only [Int.natCast_add, Int.natCast_mul] at hd
    rw [show c - k = c - (k + 1) + 1 by omega, show c - 1 - k = c - (k + 1) by omega]
    exact hd

set_option maxHeartbeats 4000000 in
set_option maxRecDepth 100000 in
theorem FromDigits_any (b : Nat) (v2 : Value) (Z : List Int) (lo2 hi2 : Nat) (w : World) (h2 : IntS w lo2 hi2 v2 Z) (hh2 : hi2 ≤ w.heap.size) (n c : Nat) (hZ : Z = digs n b c) (hn : n ≤ 1000000000000) (hb2 : 2 ≤ b) (hb3 : b ≤ 1000) (hc : c ≤ 60) (hq : n / b ^ c = 0) :
    Calls Tryd.prog 9 #[.int .i64 (b : Nat), v2] w fun e w' => e = .returned (.tuple #[.int .i64 n, .bool true]) ∧ Below w.heap.size w w' := by
  have HQ := Lib.hid hq; clear hq
  have HL := Lib.hid (show Z.length = c by rw [hZ]; exact digs_len n b c)
  have HALL := Lib.hid (show Z.all (fun x => inB x 0 ((b : Int) - 1)) = true from List.all_eq_true.2 fun x hx => by rw [hZ] at hx; have := mem_digs (by omega) hx; exact inB_true this.1 this.2)
  have HMD := Lib.hid (show ∀ x ∈ Z, 0 ≤ x ∧ x ≤ (b : Int) - 1 from fun x hx => by rw [hZ] at hx; exact mem_digs (by omega) hx)
  have HNX := Lib.hid (show ∀ (pre : List (Ix Z.length)) (v : Int) (h : FdIn n b c Z pre v) (x : Ix Z.length) k, k ≤ c → pre ++ [x] = downs Z.length k → v * b + nth Z x.1 = ((n / b ^ (c - k) : Nat) : Int) from fun pre v h x => FdIn.next hZ (by omega) h x)
  have HIN : Hid (inB (b : Int) 2 1000 = true) := Lib.hid (inB_true (by omega) (by omega))
  have hz60 : Z.length ≤ 60 := by rw [HL.out]; exact hc
  have hz60i : ¬ (60 : Int) < Z.length := by omega
  clear hZ
  have F2 := Lib.hid h2
  obtain ⟨A2, c2, rfl, hc2, hd2⟩ := h2.dims
  clear h2
  obtain ⟨WA, HWA⟩ : ∃ W, Hid (W = (((w.alloc (.cells #[.int .i64 b] 3)).alloc (.cells #[.int .i64 0] 3)).alloc (.cells #[.bool false] 4))) := ⟨_, Lib.hid rfl⟩
  have hbA : Below w.heap.size w WA := by rw [HWA.out]; exact ((((Below.refl _ _).alloc (Nat.le_refl _) _).alloc (by simp; try omega) _).alloc (by simp; try omega) _)
  have hsA : w.heap.size + 3 ≤ WA.heap.size := by rw [HWA.out]; simp; try omega
  have bx1 : BoxN WA (w.heap.size) #[.int .i64 b] 3 := by rw [HWA.out]; exact (((BoxN.new' _ _ _ (by simp)).still (grown_alloc _ _)).still (grown_alloc _ _))
  have bxx0 : BoxN WA (w.heap.size + 1) #[.int .i64 0] 3 := by rw [HWA.out]; exact ((BoxN.new' _ _ _ (by simp)).still (grown_alloc _ _))
  have bxx1 : BoxN WA (w.heap.size + 2) #[.bool false] 4 := by rw [HWA.out]; exact (BoxN.new' _ _ _ (by simp))
  have G2 := Lib.hid (IntS.below F2.out hbA hh2); clear F2
  refine (callsIn_wide (n := 3)).1 ?_
  refine callsIn_of_wp_marks Tryd.func9 rfl trivial ?_
  simp only [Tryd.ntmps9, List.size_toArray, List.length_cons, List.length_nil, Nat.reduceAdd, Nat.reduceSub, Array.replicate_succ, Array.replicate_zero, List.push_toArray, List.append_toArray, List.nil_append, List.cons_append]
  refine wpIn_wide.2 ?_
  go_upto_region 1 with (fail)
  rw [← HWA.out]; clear HWA
  have kbx1_0 : WA.cell? ⟨w.heap.size, 0, none⟩ = some (.int .i64 b) := bx1.cell 0 (by simp)
  go_wp2_with (go_at_call 24; refine (within_any _ _ _ _).mono ?_; rintro e w' ⟨rfl, rfl⟩; rw [HIN.out])
  clear kbx1_0
  refine (allWithin_any _ Z 0 ((b : Int) - 1) lo2 hi2 _ G2.out (by omega)).mono ?_
  rintro e W1 ⟨rfl, hb1⟩
  have hg1 := grown_below hb1; clear hb1
  have hs1 := hg1.size
  have HF1 := Lib.hid ((Turned.refl WA.heap.size WA.heap.size WA).still hg1)
  rw [HALL.out]
  go_upto_region 4 with (fail)
  refine nameC ?_
  intro W2 HW2
  have hg2 : W1.grownBy W2 none := by rw [HW2.out]; exact grown_alloc _ _
  have hs2 := hg2.size
  have HF2 := Lib.hid (HF1.out.still hg2); clear HF1
  have HN := Lib.hid (show BoxN W2 W1.heap.size #[.int .i64 0] 3 by rw [HW2.out]; first | exact BoxN.new _ _ _ | exact (BoxN.new _ _ _).set 0 _)
  have hz : W1.heap.size + 1 ≤ W2.heap.size := by rw [HW2.out]; simp
  clear HW2
  go_wp2_with fail
  refine (back_any A2 Z.length c2 _).mono ?_
  rintro e W3 ⟨rfl, hw3⟩
  have hg3 : W2.grownBy W3 none := by rw [hw3]; exact grown_alloc _ _
  have HBS := Lib.hid (show BoxN W3 W2.heap.size #[.slice A2 Z.length c2] 26 by rw [hw3]; exact BoxN.new _ _ _)
  have hzb : W2.heap.size + 1 ≤ W3.heap.size := by rw [hw3]; simp
  clear hw3
  have hs3 := hg3.size
  have HF3 := Lib.hid (HF2.out.still hg3); clear HF2
  have N93 := Lib.hid (BoxN.still HN.out hg3); clear HN
  have Z_3 := Lib.hid (IntS.turned G2.out HF3.out (by omega) (by omega)); clear G2
  have bx1_3 := HF3.out.boxN bx1 (by omega); clear bx1
  have bxx0_3 := HF3.out.boxN bxx0 (by omega); clear bxx0
  have bxx1_3 := HF3.out.boxN bxx1 (by omega); clear bxx1
  have hbA3 : Below w.heap.size w W3 := (HF3.out.below_of hbA (by omega) (by omega)); clear hbA HF3
  go_wp2_with fail
  refine (wpIn_wide (n := 3)).1 ?_
  have hLL : W1.heap.size + 1 ≤ W3.heap.size := by omega
  have hI : OwnFrom W3.heap.size (fun (pre : List (Ix Z.length)) W => ∃ v : Int, FdIn n b c Z pre v ∧ BoxN W (W1.heap.size) #[.int .i64 v] 3 ∧ Turned (W1.heap.size) (W1.heap.size + 1) W3 W) := fun s A B row ⟨v, h1, h2, h3⟩ hg hr =>
    ⟨v, h1, h2.far hg (fun g e => by have := (hr g e).1; omega), h3.grown hg (fun g e => .inr (hr g e).1)⟩
  have HH0 := Lib.hid (show ∃ v : Int, FdIn n b c Z [] v ∧ BoxN W3 (W1.heap.size) #[.int .i64 v] 3 ∧ Turned (W1.heap.size) (W1.heap.size + 1) W3 W3 from ⟨0, ⟨by omega, by omega, fun k hk e => by
    have hk0 : k = 0 := by
      have := congrArg List.length e
      rw [downs_length (by rw [HL.out]; exact hk)] at this
      simpa using this.symm
    rw [hk0, Nat.sub_zero, HQ.out]; rfl⟩, N93.out, Turned.refl _ _ _⟩)
  have HSEQ := Lib.hid (back_stops 2 (by decide) (W2.heap.size) lo2 hi2 (.slice A2 Z.length c2) Z (by omega) W3 (by omega) (by omega) HBS.out Z_3.out)
  have hKb := Kp2.put (lo := lo2) (hi := hi2) (Bs := W2.heap.size) (w := W3) (by omega) (by omega)
  apply wpIn_rangeFunc_ownG (F := Fence.wide) (encs := fun x : Ix Z.length => #[Value.int .i64 (x.1 : Nat), Value.int .i64 (nth Z x.1)]) (Kp := Kp2 lo2 hi2 (W2.heap.size)) (S := fun ys => ys = downs Z.length Z.length) (Sp := fun pre => ∃ k, k ≤ Z.length ∧ pre = downs Z.length k) (N := Z.length) (w0 := W3) rfl (by decide) (gf := 40) (lb := #[.pointer (some ⟨W2.heap.size, 0, none⟩)]) rfl trivial (enters_of Tryd.func40 (by kernel_rfl) rfl)
    HSEQ.out Kp2.trans (fun W l o1 o2 hl ho _ _ => hKb W l o1 o2 hl ho) (Below.refl _ _) (fun _ => rfl) _ (fun _ pre _ => ∀ k, k ≤ c → pre ≠ downs Z.length k) hI (fun _ _ _ _ _ hs _ _ => hs) HH0.out _
  case hassign =>
    intro l x W K hK
    gi_wp2
    exact hK
  case hstop =>
    rintro D cc pre W _ ⟨k, hk, hp⟩ h _
    exact absurd hp (h k (by rw [← HL.out]; exact hk))
  case hdone =>
    rintro D ys wd hD rfl ⟨v, hF, hB2, hT2⟩ hK
    have HT := Lib.hid hT2; clear hT2
    have hsd := HT.out.size
    have hv : v = (n : Int) := by have := hF.is c (Nat.le_refl _) (by rw [HL.out]); rw [this, Nat.sub_self, Nat.pow_zero, Nat.div_one]
    subst hv
    have HB2 := Lib.hid hB2; clear hB2 hF
    have k9 : wd.cell? ⟨W1.heap.size, 0, none⟩ = some (.int .i64 (n : Nat)) := HB2.out.cell 0 (by simp)
    have kr0 := (HT.out.boxN bxx0_3 (by omega)).cell 0 (by simp)
    have kf0 := (HT.out.boxN bxx0_3 (by omega)).frozen 0
    have kr1 := (HT.out.boxN bxx1_3 (by omega)).cell 0 (by simp)
    have kf1 := (HT.out.boxN bxx1_3 (by omega)).frozen 0
    go_wp2_with fail
    clear k9 kr0 kf0 kr1 kf1
    have hDs : D < wd.heap.size := (Array.getElem?_eq_some_iff.1 hK).1
    have hga := grown_set wd ⟨w.heap.size + 1, 0, none⟩ (.int .i64 (n : Nat))
    have hgb := grown_set (wd.setCell ⟨w.heap.size + 1, 0, none⟩ (.int .i64 (n : Nat))) ⟨w.heap.size + 1 + 1, 0, none⟩ (.bool true)
    have HX0 := Lib.hid (BoxN.far (((HT.out.boxN bxx0_3 (by omega))).set 0 (.int .i64 (n : Nat))) hgb (fun g e => by cases e; show w.heap.size + 1 + 1 ≠ w.heap.size + 1; omega))
    have HX1 := Lib.hid ((BoxN.far ((HT.out.boxN bxx1_3 (by omega))) hga (fun g e => by cases e; show w.heap.size + 1 ≠ w.heap.size + 2; omega)).set 0 (.bool true))
    have hK2 := (hgb.block D (by rw [size_setCell]; exact hDs) (fun e => by injection e with e; have e : D = w.heap.size + 1 + 1 := e; omega)).trans ((hga.block D hDs (fun e => by injection e with e; have e : D = w.heap.size + 1 := e; omega)).trans hK)
    have HB9 := Lib.hid (((HT.out.below_of hbA3 (by omega) (by omega)).grown hga (by omega) (fun g e => by cases e; show w.heap.size ≤ w.heap.size + 1; omega)).grown hgb (by rw [size_setCell]; omega) (fun g e => by cases e; show w.heap.size ≤ w.heap.size + 1 + 1; omega))
    generalize hW9 : ((wd.setCell ⟨w.heap.size + 1, 0, none⟩ (.int .i64 (n : Nat))).setCell ⟨w.heap.size + 1 + 1, 0, none⟩ (.bool true)) = W9 at *
    have hgp := grownBy_putObj' W9 D (.deferred none)
    refine ⟨by simp, .inl ⟨_, _, rfl, run_takeDeferred hK2, ?_⟩⟩
    have HX0' := BoxN.far HX0.out hgp (fun g e => by cases e; omega)
    have HX1' := BoxN.far HX1.out hgp (fun g e => by cases e; omega)
    refine ⟨_, results_cells2 rfl _ _ _ rfl (load_oneI HX0') rfl (load_oneB HX1'), ?_⟩
    exact ⟨rfl, HB9.out.grown hgp (by have := HB9.out.size; omega) (fun g e => by cases e; omega)⟩
  case hbody =>
    rintro l pre x wq ⟨v, hF, hB2, hT2⟩ hlen
    have HT := Lib.hid hT2; clear hT2
    have HB2 := Lib.hid hB2; clear hB2
    have HF := Lib.hid hF; clear hF
    have hsq := HT.out.size
    have hv0 := HF.out.low
    have hv1 := HF.out.high
    have hxd := HMD.out _ (nth_mem x.2)
    have HNV := Lib.hid (HNX.out pre v HF.out x)
    obtain ⟨dg, HDG⟩ : ∃ y, Hid (nth Z x.1 = y) := ⟨_, Lib.hid rfl⟩
    rw [HDG.out] at hxd HNV
    rw [HDG.out]
    obtain ⟨V, rfl⟩ : ∃ m : Nat, v = m := ⟨v.toNat, by omega⟩
    obtain ⟨p, HPP⟩ : ∃ y : Nat, Hid (V * b = y) := ⟨_, Lib.hid rfl⟩
    have hp : p ≤ 1000000000000000 := by rw [← HPP.out]; exact Nat.mul_le_mul (show V ≤ 1000000000000 by omega) hb3
    have hmb : (V : Int) * (b : Int) = (p : Int) := by rw [← HPP.out]; rfl
    rw [hmb] at HNV
    have kbx := (HT.out.boxN bx1_3 (by omega)).cell 0 (by simp)
    have k9 : wq.cell? ⟨W1.heap.size, 0, none⟩ = some (.int .i64 (V : Nat)) := HB2.out.cell 0 (by simp)
    have kf9 := HB2.out.frozen 0
    gi_wp2_with fail
    clear kbx k9 kf9
    obtain ⟨W5, HW5⟩ : ∃ W, Hid (W = wq.setCell ⟨W1.heap.size, 0, none⟩ (.int .i64 ((p : Int) + dg))) := ⟨_, Lib.hid rfl⟩
    rw [← HW5.out]
    have hg5 : wq.grownBy W5 (some (W1.heap.size)) := by rw [HW5.out]; exact grown_set _ _ _
    have HB5 := Lib.hid (show BoxN W5 (W1.heap.size) #[.int .i64 ((p : Int) + dg)] 3 by rw [HW5.out]; exact HB2.out.set 0 _)
    have hs5 := hg5.size
    have HF5 := Lib.hid (HT.out.grown hg5 (fun g e => .inl (by cases e; omega)))
    have HE5 := Lib.hid ((Turned.refl (W1.heap.size) (W1.heap.size + 1) wq).grown hg5 (fun g e => .inl (by cases e; omega)))
    clear HW5
    refine ⟨trivial, CallsIn.mono (CallsIn.inRound l ((callsIn_wide (n := 0)).2 (isWhole_any ((p : Int) + dg) W5))) ?_⟩
    rintro e w' ⟨rfl, rfl⟩
    cases hwh : inB ((p : Int) + dg) 0 1000000000000 with
    | true =>
      obtain ⟨hw1, hw2⟩ := inB_le hwh
      gi_wp2
      refine ⟨⟨by omega, fun k o2 hB hk _ => (HE5.out.block k (Array.getElem?_eq_some_iff.1 hk).1 (by omega)).trans hk⟩, ⟨fun k h1 h2 => HE5.out.block k (by omega) (by omega), HE5.out.block _ (by omega) (by omega)⟩, (p : Int) + dg, ⟨hw1, hw2, fun k hk e => HNV.out k hk e⟩, HB5.out, HF5.out⟩
    | false =>
      have HNO := Lib.hid (show ∀ k, k ≤ c → pre ++ [x] ≠ downs Z.length k from fun k hk e => by
        have h1 := HNV.out k hk e
        have h2 := div_le' n b (c - k)
        have h3 := inB_not hwh
        omega)
      have kr0 := (HF5.out.boxN bxx0_3 (by omega)).cell 0 (by simp)
      have kf0 := (HF5.out.boxN bxx0_3 (by omega)).frozen 0
      have kr1 := (HF5.out.boxN bxx1_3 (by omega)).cell 0 (by simp)
      have kf1 := (HF5.out.boxN bxx1_3 (by omega)).frozen 0
      gi_wp2
      have hga := grown_set W5 ⟨w.heap.size + 1, 0, none⟩ (.int .i64 0)
      have hgb := grown_set (W5.setCell ⟨w.heap.size + 1, 0, none⟩ (.int .i64 0)) ⟨w.heap.size + 1 + 1, 0, none⟩ (.bool false)
      exact ⟨⟨by simp only [size_setCell]; omega, fun k o2 hB hk _ => by
        have hkl := (Array.getElem?_eq_some_iff.1 hk).1
        exact ((hgb.block k (by rw [size_setCell]; omega) (fun e => by injection e with e; have e : k = w.heap.size + 1 + 1 := e; omega)).trans ((hga.block k (by omega) (fun e => by injection e with e; have e : k = w.heap.size + 1 := e; omega)).trans (HE5.out.block k hkl (by omega)))).trans hk⟩, HNO.out⟩

end Go.Proofs.YtbbdhcfbdndhlaaDoor
