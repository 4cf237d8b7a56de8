/-
  Contracts of small functions: numbers in order, lists of -1, the numbers of neighbours, ports with a number.
-/
import Derived.Test.YtakcjdlliejldaaGreatBoolS
import Derived.Test.YtakcjdlliejldaaGreatOri2
namespace Go.Proofs.YtakcjdlliejldaaGreat
open Go.ChangeShapes Go.WideShapes Go.ChangeAt Go.RowKit
set_option linter.unusedVariables false

def upTo (n : Nat) : List Int := (List.range n).map fun (k : Nat) => (k : Int)
theorem upTo_length (n : Nat) : (upTo n).length = n := by simp [upTo]
theorem nth_upTo {n k : Nat} (h : k < n) : nth (upTo n) k = k := by simp [nth, upTo, h]
theorem set_fold {n k : Nat} {f : Nat → Int} {zs : List Int} (hl : zs.length = n) (hk : k < n) (h : ∀ j, j < n → nth zs j = if j < k then f j else 0) : ∀ j, j < n → nth (zs.set k (f k)) j = if j < k + 1 then f j else 0 := fun j hj => by
  rw [nth_set _ _ _ _ (by omega)]
  by_cases e : j = k
  · rw [if_pos e, if_pos (by omega), e]
  · rw [if_neg e, h j hj]
    by_cases e2 : j < k
    · rw [if_pos e2, if_pos (by omega)]
    · rw [if_neg e2, if_neg (by omega)]
/-- the numbers that a list gives to the neighbours -/
def nears (N : NetD) (v : Nat) (l : List Int) : List Int := (nbs N v).map fun x => nth l x.toNat
theorem nears_length (N : NetD) (v : Nat) (l : List Int) : (nears N v l).length = (nthL N.ends v).length := by simp [nears, nbs_length]
theorem nth_nears {N : NetD} {v i : Nat} (l : List Int) (h : i < (nthL N.ends v).length) : nth (nears N v l) i = nth l (nthE (nthL N.ends v) i).1.toNat := by
  rw [← nth_nbs N v h]
  simp [nth, nears, nbs_length, h]
def cntI (c : Int) (zs : List Int) : Nat := (zs.filter fun x => x == c).length
theorem cntI_le (c : Int) (zs : List Int) : cntI c zs ≤ zs.length := List.length_filter_le _ _
theorem cntI_take {c : Int} {zs : List Int} {k : Nat} (h : k < zs.length) : cntI c (zs.take (k + 1)) = cntI c (zs.take k) + if nth zs k = c then 1 else 0 := by
  unfold cntI
  rw [List.take_succ_eq_append_getElem h, List.filter_append, List.length_append, nth_eq h]
  by_cases e : zs[k] = c <;> simp [e]
def portsC (N : NetD) (v : Nat) (l : List Int) (c : Int) : Nat := cntI c (nears N v l)
theorem portsC_le (N : NetD) (v : Nat) (l : List Int) (c : Int) : portsC N v l c ≤ (nthL N.ends v).length := by have := cntI_le c (nears N v l); rw [nears_length] at this; exact this

set_option maxHeartbeats 4000000 in
set_option maxRecDepth 100000 in
theorem numbersTo_any (n : Nat) (w : World)  (hn : n ≤ 1048576) :
    Calls Tryz.prog 49 #[.int .i64 (n : Nat)] w fun e w' => ∃ r, e = .returned (r) ∧ IntS w' w.heap.size w'.heap.size r (upTo n) ∧ Below w.heap.size w w' := by
  have hmk := fun W => run_make_row' (P := Tryz.prog) 23 3 (.int .i64 0) 8 Tryz.underlying23 Tryz.info3 rfl .i64 .i64 n (by omega) (by omega) W
  go_enter Tryz.func49, Tryz.ntmps49
  go_wp2_with fail
  refine nameC ?_
  intro W1 HW1
  have hg1 : w.grownBy W1 none := by rw [HW1.out]; exact grown_alloc _ _
  have hs1 := hg1.size
  have HF1 := Lib.hid ((Turned.refl w.heap.size w.heap.size w).still hg1)
  have HO := Lib.hid (show IntS W1 w.heap.size (w.heap.size + 1) (.slice (some ⟨w.heap.size, 0, none⟩) n n) (List.replicate n 0) by rw [HW1.out]; exact made_ints _ _ _ rfl (by omega))
  have hz : w.heap.size + 1 ≤ W1.heap.size := by rw [HW1.out]; simp
  clear HW1 hmk
  go_loopw [9] (fun i wr => ∃ (k : Nat) (zs : List Int), k ≤ n ∧ i = .int .i64 k ∧ Hid (IntS wr w.heap.size (w.heap.size + 1) (.slice (some ⟨w.heap.size, 0, none⟩) n n) zs) ∧ Hid (zs.length = n) ∧ Hid (∀ j, j < n → nth zs j = if j < k then (fun j => (j : Int)) j else 0) ∧ w.heap.size + 1 ≤ wr.heap.size ∧ Hid (Turned w.heap.size w.heap.size w wr)) (fun i _ => n - (intOf i).toNat)
  case atStart => exact ⟨0, List.replicate n 0, Nat.zero_le _, rfl, HO, Lib.hid (by simp), Lib.hid fun j hj => by rw [nth_replicate _ _ hj]; simp, hz, HF1⟩
  case round =>
    clear HF1
    obtain ⟨k, zs, hk, rfl, HO, HL, HZ, hz, HF2⟩ := hrel
    have hs2 := HF2.out.size
    by_cases hlt : k < n
    case neg =>
      obtain rfl : k = n := by omega
      go_wp2_with fail
      go_ret
      refine ⟨_, rfl, ?_, (HF2.out.below_of (Below.refl _ _) (by omega) (by omega))⟩
      have e : upTo k = zs := ext_nth (by rw [HL.out]; simp [upTo]) fun j hj => by
        have hj' : j < k := by simpa [upTo] using hj
        rw [HZ.out j hj', if_pos hj']
        first | exact nth_upTo hj' | exact nth_replicate _ _ hj'
      rw [e]
      exact HO.out.mono (Nat.le_refl _) hz
    obtain ⟨x1, x2⟩ := HO.out.at0 (j := k) (by rw [HL.out]; exact hlt)
    have hs := HO.out.set0 (j := k) (by rw [HL.out]; exact hlt) ((fun j => (j : Int)) k)
    have HS := Lib.hid hs; clear hs
    obtain ⟨y, HY⟩ : ∃ y, Hid (nth zs k = y) := ⟨_, Lib.hid rfl⟩
    rw [HY.out] at x1
    go_wp2_with fail
    go_roundw
    case rel => exact ⟨k + 1, _, by omega, by go_num, HS, Lib.hid (by rw [List.length_set]; exact HL.out), Lib.hid (set_fold HL.out hlt HZ.out), by rw [size_setCell]; exact hz, Lib.hid (HF2.out.grown (grown_set _ ⟨w.heap.size, k, none⟩ _) fun g hg => .inr (by cases hg; exact Nat.le_refl _))⟩
    case measure => simp [intOf]; omega

set_option maxHeartbeats 4000000 in
set_option maxRecDepth 100000 in
theorem near_any (v1 : Value) (N : NetD) (lo1 hi1 : Nat) (v : Nat) (v3 : Value) (l : List Int) (lo3 hi3 : Nat) (w : World) (h1 : Net w lo1 hi1 v1 N) (hh1 : hi1 ≤ w.heap.size) (h3 : IntS w lo3 hi3 v3 l) (hh3 : hi3 ≤ w.heap.size) (hg : N.good = true) (hv : v < N.ends.length) (hl : l.length = N.ends.length) :
    Calls Tryz.prog 58 #[v1, .int .i64 (v : Nat), v3] w fun e w' => ∃ r, e = .returned (r) ∧ IntS w' w.heap.size w'.heap.size r (nears N v l) ∧ Below w.heap.size w w' := by
  obtain ⟨n1, n40⟩ := good_n hg
  have HG := Lib.hid hg; clear hg
  have hd6 := good_deg HG.out hv
  have hvi : (v : Int) < N.ends.length := by omega
  have hle : N.ends.length ≤ l.length := by omega
  have HL := Lib.hid hl; clear hl
  have F1 := Lib.hid h1
  obtain ⟨A1, c1, A1', c1', A1'', c1'', rfl, hc1, hd1, _⟩ := h1.parts
  obtain ⟨b1, o1, _, _, rfl, _⟩ := Net.rowAt F1.out (u := 0) (by omega)
  clear h1
  have F3 := Lib.hid h3
  obtain ⟨A3, c3, rfl, hc3, hd3⟩ := h3.dims
  clear h3
  obtain ⟨WA, HWA⟩ : ∃ W, Hid (W = (w.alloc (.cells #[.slice (some ⟨b1, o1, none⟩) N.ends.length c1, .slice A1' N.ids.length c1', .slice A1'' N.inputs.length c1''] 34))) := ⟨_, Lib.hid rfl⟩
  have hbA : Below w.heap.size w WA := by rw [HWA.out]; exact ((Below.refl _ _).alloc (Nat.le_refl _) _)
  have hsA : w.heap.size + 1 ≤ WA.heap.size := by rw [HWA.out]; simp; try omega
  have bx1 : BoxN WA (w.heap.size) #[.slice (some ⟨b1, o1, none⟩) N.ends.length c1, .slice A1' N.ids.length c1', .slice A1'' N.inputs.length c1''] 34 := by rw [HWA.out]; exact (BoxN.new' _ _ _ (by simp))
  have G1 := Lib.hid (Net.below F1.out hbA hh1); clear F1
  have G3 := Lib.hid (IntS.below F3.out hbA hh3); clear F3
  go_enter Tryz.func58, Tryz.ntmps58
  go_upto_region 1 with (fail)
  rw [← HWA.out]; clear HWA
  have kbx1_0 : WA.cell? ⟨w.heap.size, 0, none⟩ = some (.slice (some ⟨b1, o1, none⟩) N.ends.length c1) := bx1.cell 0 (by simp)
  have kbx1_1 : WA.cell? ⟨w.heap.size, 1, none⟩ = some (.slice A1' N.ids.length c1') := bx1.cell 1 (by simp)
  have kbx1_2 : WA.cell? ⟨w.heap.size, 2, none⟩ = some (.slice A1'' N.inputs.length c1'') := bx1.cell 2 (by simp)
  obtain ⟨Ar, cr, hbr, qr, hcr, hdr, hRr⟩ := Net.rowIn G1.out hv
  have Rr := Lib.hid hRr; clear hRr
  go_wp2_with fail
  clear kbx1_0 kbx1_1 kbx1_2 qr
  go_loopw [16, 7] (fun i ov wr => ∃ (m : Nat) (zs : List Int), m ≤ (nthL N.ends v).length ∧ i = .int .i64 m ∧ Hid (OwnI wr WA.heap.size 3 ov zs) ∧ Hid (zs = (nears N v l).take m) ∧ zs.length ≤ m ∧ Hid (Turned WA.heap.size WA.heap.size WA wr)) (fun i ov _ => (nthL N.ends v).length - (intOf i).toNat)
  case atStart => exact ⟨0, [], Nat.zero_le _, rfl, Lib.hid (OwnI.nil _ _ _), Lib.hid (by simp), Nat.zero_le _, Lib.hid (Turned.refl WA.heap.size WA.heap.size WA)⟩
  case round =>
    obtain ⟨m, zs, hm, rfl, HO, HD, hl, HF1⟩ := hrel
    have hs1 := HF1.out.size
    by_cases hml : m < (nthL N.ends v).length
    case neg =>
      obtain rfl : m = (nthL N.ends v).length := by omega
      go_wp2_with fail
      go_ret
      refine ⟨_, rfl, ?_, (HF1.out.below_of hbA (by omega) (by omega))⟩
      have e : nears N v l = zs := by rw [HD.out, ← nears_length N v l, List.take_length]
      rw [e]
      exact HO.out.ints.mono (by omega) (Nat.le_refl _)
    obtain ⟨br, or, rfl, _, hbr', er, er'⟩ := (EndS.turned Rr.out HF1.out (by omega) (by omega)).opened hml
    obtain ⟨t, r, etr, ht, hr, eur⟩ := good_end HG.out hv hml
    rw [etr] at er er'
    dsimp only at er er'
    have ETr := Lib.hid etr
    have EUr := Lib.hid eur
    clear etr eur
    go_upto_region 5 with (fail)
    refine nameC ?_
    intro W2 HW2
    have hg2 : wr.grownBy W2 none := by rw [HW2.out]; exact grown_alloc _ _
    have hs2 := hg2.size
    have HF2 := Lib.hid (HF1.out.still hg2); clear HF1
    have HO2 := Lib.hid (OwnI.still HO.out hg2); clear HO
    have bxe2 := Lib.hid (show BoxN W2 wr.heap.size #[.int .i64 t, .int .i64 r] 78 by rw [HW2.out]; exact BoxN.new _ _ _)
    clear HW2
    clear er er'
    have kbxe_0 : W2.cell? ⟨wr.heap.size, 0, none⟩ = some (.int .i64 t) := bxe2.out.cell 0 (by simp)
    have kbxe_1 : W2.cell? ⟨wr.heap.size, 1, none⟩ = some (.int .i64 r) := bxe2.out.cell 1 (by simp)
    obtain ⟨b3, o3, rfl, _, hb3, x3, _⟩ := IntS.opened (IntS.turned G3.out HF2.out (by omega) (by omega)) (j := t) (by omega)
    obtain ⟨y, HY⟩ : ∃ y, Hid (nth l t = y) := ⟨_, Lib.hid rfl⟩
    rw [HY.out] at x3
    have hti : (t : Int) < l.length := by omega
    have hlv := HO2.out.lt
    go_wp2_with (at_builtin; refine append_int (s := .tmp 20) Tryz.underlying23 Tryz.info3 (by decide) W2 rfl _ rfl HO2.out y _ rfl (by simp [Act.eval, go_sem]) (by omega) (by omega) ?_; intro v' w' ho' hg' hat')
    go_roundw
    case rel =>
      refine ⟨m + 1, _, by omega, by go_num, Lib.hid ho', Lib.hid ?_, by simp; omega, Lib.hid (HF2.out.grown hg' fun g hg => .inr (hlv g hg).1)⟩
      rw [List.take_succ_eq_append_getElem (by rw [nears_length]; exact hml), ← nth_eq, nth_nears l hml, ETr.out, ← HD.out, Int.toNat_natCast, HY.out]
    case measure => simp [intOf]; omega

end Go.Proofs.YtakcjdlliejldaaGreat
