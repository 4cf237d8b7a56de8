/-
  TokenWalk and IsTokenWalk: the program's and the reference's side.
-/
import Derived.Test.YtjapdfdjgjajkaaTok5
import Derived.Test.YtjapdfdjgjajkaaTokE
import Derived.Test.YtjapdfdjgjajkaaIsNet
namespace Go.Proofs.Ytjapdfdjgjajkaa
open Go.ChangeShapes Go.WideShapes Go.ChangeAt Go.RowKit
set_option linter.unusedVariables false

def tokOk (N : NetD) (x : Int) : Bool := N.good && inB x 0 ((N.ends.length : Int) - 1)
def tokOut (N : NetD) (x : Int) : List (List Int) := if tokOk N x = true then walkOf N x.toNat else []
def istOk (N : NetD) (x : Int) (M : List (List Int)) : Bool := tokOk N x && decide (M.length ≤ 960)
def istB (N : NetD) (x : Int) (M : List (List Int)) : Bool := istOk N x M && decide (M = walkOf N x.toNat)
theorem tokNo {N : NetD} {x : Int} (h : tokOk N x = false) : tokOut N x = [] := by unfold tokOut; rw [h]; rfl
theorem tokYes {N : NetD} {r : Nat} (h : tokOk N r = true) : tokOut N r = walkOf N r := by unfold tokOut; rw [if_pos h, Int.toNat_natCast]
theorem istNo {N : NetD} {x : Int} {M : List (List Int)} (h : istOk N x M = false) : istB N x M = false := by unfold istB; rw [h]; rfl
theorem istYes {N : NetD} {r : Nat} {M : List (List Int)} (h : istOk N r M = true) : istB N r M = decide (M = walkOf N r) := by unfold istB; rw [h, Int.toNat_natCast]; rfl
/-- all moves are pairs -/
def Pairs (σ : Tk) : Prop := ∀ l ∈ σ.moves, l.length = 2
def KeepsPairs (rec : Nat → Tk → Tk) : Prop := ∀ v σ, Pairs σ → Pairs (rec v σ)
theorem pairs_pre {N : NetD} {v i : Nat} {σ : Tk} (h : Pairs σ) : Pairs (tpre N v i σ) := fun l hl => by
  unfold tpre at hl
  simp only [List.mem_append, List.mem_singleton] at hl
  rcases hl with hl | rfl
  · exact h l hl
  · rfl
theorem pairs_post {e : Int × Int} {σ : Tk} (h : Pairs σ) : Pairs (tpost e σ) := fun l hl => by
  unfold tpost at hl
  simp only [List.mem_append, List.mem_singleton] at hl
  rcases hl with hl | rfl
  · exact h l hl
  · rfl
theorem tstep_pairs {N : NetD} {rec : Nat → Tk → Tk} (hr : KeepsPairs rec) (v i : Nat) {σ : Tk} (h : Pairs σ) : Pairs (tstep N rec v i σ) := by
  cases h1 : σ.used v i with
  | true => rw [tstep_used h1]; exact h
  | false =>
    cases h2 : σ.met (endAt N v i).1.toNat with
    | true => rw [tstep_met h1 h2]; exact pairs_post (pairs_pre h)
    | false => rw [tstep_new h1 h2]; exact pairs_post (hr _ _ (pairs_pre h))
theorem tloop_pairs {N : NetD} {rec : Nat → Tk → Tk} (hr : KeepsPairs rec) (v : Nat) : ∀ (k : Nat) {σ : Tk}, Pairs σ → Pairs (tloop N rec v k σ)
  | 0, _, h => h
  | k + 1, _, h => tstep_pairs hr v k (tloop_pairs hr v k h)
theorem tvisit_pairs (N : NetD) : ∀ f, KeepsPairs (tvisit N f)
  | 0 => fun _ _ h => h
  | f + 1 => fun v σ h => tloop_pairs (tvisit_pairs N f) v _ h
theorem sumL_pairs {xss : List (List Int)} (h : ∀ l ∈ xss, l.length = 2) : ∀ k, k ≤ xss.length → sumL xss k = 2 * k
  | 0, _ => sumL_zero xss
  | k + 1, hk => by rw [sumL_succ xss k (by omega), sumL_pairs h k (by omega), h _ (nthL_mem (by omega))]; omega
theorem walkOf_cnt {N : NetD} (hg : N.good = true) (r : Nat) : cntSS (walkOf N r) ≤ 960 := by
  have h1 : Pairs (tvisit N N.ends.length r tk0) := tvisit_pairs N _ r _ (fun l hl => by cases hl)
  have h2 := walkOf_len (good_n hg).2 (fun v => by
    by_cases hv : v < N.ends.length
    · exact good_deg hg hv
    · unfold degAt nthL; rw [List.getD_eq_getElem?_getD, List.getElem?_eq_none (by omega)]; exact Nat.zero_le _) r
  unfold cntSS
  rw [sumL_pairs (xss := walkOf N r) h1 _ (Nat.le_refl _)]
  omega
theorem tokOut_cnt (N : NetD) (x : Int) : cntSS (tokOut N x) ≤ 960 := by
  unfold tokOut
  split
  · rename_i h
    unfold tokOk at h
    rw [Bool.and_eq_true] at h
    exact walkOf_cnt h.1 _
  · show 0 ≤ _; omega

set_option maxHeartbeats 1000000 in
set_option maxRecDepth 100000 in
theorem neNode_any (v1 : Value) (N : NetD) (lo1 hi1 : Nat) (x : Int) (w : World) (h1 : Net w lo1 hi1 v1 N) (hh1 : hi1 ≤ w.heap.size) (hz1 : N.sz ≤ 1048576) :
    Calls Try.prog 26 #[v1, .int .i64 x] w fun e w' => e = .returned (.bool (tokOk N x)) ∧ Below w.heap.size w w' := by
  have F1 := Lib.hid h1
  obtain ⟨A1, c1, A1', c1', A1'', c1'', rfl, hc1, hd1, _⟩ := h1.parts
  clear h1
  obtain ⟨WA, HWA⟩ : ∃ W, Hid (W = (w.alloc (.cells #[.slice A1 N.ends.length c1, .slice A1' N.ids.length c1', .slice A1'' N.inputs.length c1''] 32))) := ⟨_, Lib.hid rfl⟩
  have hbA : Below w.heap.size w WA := by rw [HWA.out]; exact ((Below.refl _ _).alloc (Nat.le_refl _) _)
  have hsA : w.heap.size + 1 ≤ WA.heap.size := by rw [HWA.out]; simp; try omega
  have bx1 : BoxN WA (w.heap.size) #[.slice A1 N.ends.length c1, .slice A1' N.ids.length c1', .slice A1'' N.inputs.length c1''] 32 := by rw [HWA.out]; exact (BoxN.new' _ _ _ (by simp))
  have G1 := Lib.hid (Net.below F1.out hbA hh1); clear F1
  go_enter Try.func26, Try.ntmps26
  go_upto_region 1 with (fail)
  rw [← HWA.out]; clear HWA
  have kbx1_0 : WA.cell? ⟨w.heap.size, 0, none⟩ = some (.slice A1 N.ends.length c1) := bx1.cell 0 (by simp)
  have kbx1_1 : WA.cell? ⟨w.heap.size, 1, none⟩ = some (.slice A1' N.ids.length c1') := bx1.cell 1 (by simp)
  have kbx1_2 : WA.cell? ⟨w.heap.size, 2, none⟩ = some (.slice A1'' N.inputs.length c1'') := bx1.cell 2 (by simp)
  go_wp2_with fail
  clear kbx1_0 kbx1_1 kbx1_2
  refine (neGood_any _ N lo1 hi1 _ G1.out (by omega) hz1).mono ?_
  rintro e W1 ⟨rfl, hb1⟩
  have hg1 := grown_below hb1; clear hb1
  have hs1 := hg1.size
  have HF1 := Lib.hid ((Turned.refl WA.heap.size WA.heap.size WA).still hg1)
  by_cases hg : N.good = true
  case neg =>
    have hg' : N.good = false := by simpa using hg
    rw [hg']
    have HG := Lib.hid hg'; clear hg hg'
    go_wp2_with fail
    go_ret
    exact ⟨ret_bool (by unfold tokOk; rw [HG.out]; rfl), (HF1.out.below_of hbA (by omega) (by omega))⟩
  rw [hg]
  have HG := Lib.hid hg; clear hg
  obtain ⟨n1, n40⟩ := good_n HG.out
  have kbx1_0 : W1.cell? ⟨w.heap.size, 0, none⟩ = some (.slice A1 N.ends.length c1) := (HF1.out.boxN bx1 (by omega)).cell 0 (by simp)
  have kbx1_1 : W1.cell? ⟨w.heap.size, 1, none⟩ = some (.slice A1' N.ids.length c1') := (HF1.out.boxN bx1 (by omega)).cell 1 (by simp)
  have kbx1_2 : W1.cell? ⟨w.heap.size, 2, none⟩ = some (.slice A1'' N.inputs.length c1'') := (HF1.out.boxN bx1 (by omega)).cell 2 (by simp)
  go_wp2_with (go_at_call 44; refine (l1In_any _ _ _ _).mono ?_; rintro e w' ⟨rfl, rfl⟩)
  go_ret
  exact ⟨ret_bool (by unfold tokOk; rw [HG.out]; rfl), (HF1.out.below_of hbA (by omega) (by omega))⟩

set_option maxHeartbeats 1000000 in
set_option maxRecDepth 100000 in
theorem TokenWalk_impl (v1 : Value) (N : NetD) (lo1 hi1 : Nat) (x : Int) (w : World) (h1 : Net w lo1 hi1 v1 N) (hh1 : hi1 ≤ w.heap.size) (hz1 : N.sz ≤ 1048576) (ok1 : N.Ok) (ok2 : I64 x) :
    Calls Try.prog 9 #[v1, .int .i64 x] w fun e w' => ∃ r, e = .returned (.tuple #[r, .bool (tokOk N x)]) ∧ IntSSx w' w.heap.size w'.heap.size r (tokOut N x) ∧ Below w.heap.size w w' := by
  clear ok1 ok2
  have F1 := Lib.hid h1
  obtain ⟨A1, c1, A1', c1', A1'', c1'', rfl, hc1, hd1, _⟩ := h1.parts
  clear h1
  obtain ⟨WA, HWA⟩ : ∃ W, Hid (W = (w.alloc (.cells #[.slice A1 N.ends.length c1, .slice A1' N.ids.length c1', .slice A1'' N.inputs.length c1''] 32))) := ⟨_, Lib.hid rfl⟩
  have hbA : Below w.heap.size w WA := by rw [HWA.out]; exact ((Below.refl _ _).alloc (Nat.le_refl _) _)
  have hsA : w.heap.size + 1 ≤ WA.heap.size := by rw [HWA.out]; simp; try omega
  have bx1 : BoxN WA (w.heap.size) #[.slice A1 N.ends.length c1, .slice A1' N.ids.length c1', .slice A1'' N.inputs.length c1''] 32 := by rw [HWA.out]; exact (BoxN.new' _ _ _ (by simp))
  have G1 := Lib.hid (Net.below F1.out hbA hh1); clear F1
  go_enter Try.func9, Try.ntmps9
  go_upto_region 1 with (fail)
  rw [← HWA.out]; clear HWA
  have kbx1_0 : WA.cell? ⟨w.heap.size, 0, none⟩ = some (.slice A1 N.ends.length c1) := bx1.cell 0 (by simp)
  have kbx1_1 : WA.cell? ⟨w.heap.size, 1, none⟩ = some (.slice A1' N.ids.length c1') := bx1.cell 1 (by simp)
  have kbx1_2 : WA.cell? ⟨w.heap.size, 2, none⟩ = some (.slice A1'' N.inputs.length c1'') := bx1.cell 2 (by simp)
  go_wp2_with fail
  clear kbx1_0 kbx1_1 kbx1_2
  refine (IsNetwork_any _ N lo1 hi1 _ G1.out (by omega) hz1).mono ?_
  rintro e W1 ⟨rfl, hb1⟩
  have hg1 := grown_below hb1; clear hb1
  have hs1 := hg1.size
  have HF1 := Lib.hid ((Turned.refl WA.heap.size WA.heap.size WA).still hg1)
  by_cases hg : N.good = true
  case neg =>
    have hg' : N.good = false := by simpa using hg
    rw [hg']
    have HG := Lib.hid hg'; clear hg hg'
    go_wp2_with fail
    go_ret2
    exact ⟨_, ret_vb (show tokOk N x = false by unfold tokOk; rw [HG.out]; rfl).symm, by rw [tokNo (show tokOk N x = false by unfold tokOk; rw [HG.out]; rfl)]; exact SSx.nil _ _ _, (HF1.out.below_of hbA (by omega) (by omega))⟩
  rw [hg]
  have HG := Lib.hid hg; clear hg
  obtain ⟨n1, n40⟩ := good_n HG.out
  have kbx1_0 : W1.cell? ⟨w.heap.size, 0, none⟩ = some (.slice A1 N.ends.length c1) := (HF1.out.boxN bx1 (by omega)).cell 0 (by simp)
  have kbx1_1 : W1.cell? ⟨w.heap.size, 1, none⟩ = some (.slice A1' N.ids.length c1') := (HF1.out.boxN bx1 (by omega)).cell 1 (by simp)
  have kbx1_2 : W1.cell? ⟨w.heap.size, 2, none⟩ = some (.slice A1'' N.inputs.length c1'') := (HF1.out.boxN bx1 (by omega)).cell 2 (by simp)
  go_wp2_with fail
  clear kbx1_0 kbx1_1 kbx1_2
  refine (hasNode_any _ N x lo1 hi1 _ (Net.turned G1.out HF1.out (by omega) (by omega)) (by omega)).mono ?_
  rintro e W2 ⟨rfl, hb2⟩
  have hg2 := grown_below hb2; clear hb2
  have hs2 := hg2.size
  have HF2 := Lib.hid (HF1.out.still hg2); clear HF1
  by_cases hx : inB x 0 ((N.ends.length : Int) - 1) = true
  case neg =>
    have hx' : inB x 0 ((N.ends.length : Int) - 1) = false := by simpa using hx
    rw [hx']
    have HX := Lib.hid hx'; clear hx hx'
    go_wp2_with fail
    go_ret2
    exact ⟨_, ret_vb (show tokOk N x = false by unfold tokOk; rw [HX.out]; simp).symm, by rw [tokNo (show tokOk N x = false by unfold tokOk; rw [HX.out]; simp)]; exact SSx.nil _ _ _, (HF2.out.below_of hbA (by omega) (by omega))⟩
  rw [hx]
  have HX := Lib.hid hx; clear hx
  have HOK := Lib.hid (show tokOk N x = true by unfold tokOk; rw [HG.out, HX.out]; rfl)
  have hxx := inB_le HX.out
  obtain ⟨root, rfl⟩ : ∃ m : Nat, x = m := ⟨x.toNat, by omega⟩
  have hroot : root < N.ends.length := by omega
  clear hxx
  have kbx1_0 : W2.cell? ⟨w.heap.size, 0, none⟩ = some (.slice A1 N.ends.length c1) := (HF2.out.boxN bx1 (by omega)).cell 0 (by simp)
  have kbx1_1 : W2.cell? ⟨w.heap.size, 1, none⟩ = some (.slice A1' N.ids.length c1') := (HF2.out.boxN bx1 (by omega)).cell 1 (by simp)
  have kbx1_2 : W2.cell? ⟨w.heap.size, 2, none⟩ = some (.slice A1'' N.inputs.length c1'') := (HF2.out.boxN bx1 (by omega)).cell 2 (by simp)
  go_wp2_with fail
  clear kbx1_0 kbx1_1 kbx1_2
  refine (tokenWalk_any _ N lo1 hi1 root _ (Net.turned G1.out HF2.out (by omega) (by omega)) (by omega) HG.out hroot).mono ?_
  rintro e W3 ⟨rv, rfl, hrv, hb3⟩
  have HRV := Lib.hid hrv; clear hrv
  have hg3 := grown_below hb3; clear hb3
  have hrs : W2.heap.size ≤ W3.heap.size := hg3.size
  have hs3 := hg3.size
  have HF3 := Lib.hid (HF2.out.still hg3); clear HF2
  go_wp2_with fail
  go_ret2
  exact ⟨_, ret_vb HOK.out.symm, by rw [tokYes HOK.out]; exact ISSx.mono HRV.out (by omega) (Nat.le_refl _), (HF3.out.below_of hbA (by omega) (by omega))⟩

set_option maxHeartbeats 1000000 in
set_option maxRecDepth 100000 in
theorem TokenWalk_spec (v1 : Value) (N : NetD) (lo1 hi1 : Nat) (x : Int) (w : World) (h1 : Net w lo1 hi1 v1 N) (hh1 : hi1 ≤ w.heap.size) (hz1 : N.sz ≤ 1048576) (ok1 : N.Ok) (ok2 : I64 x) :
    Calls Try.prog 7 #[v1, .int .i64 x] w fun e w' => ∃ r, e = .returned (.tuple #[r, .bool (tokOk N x)]) ∧ IntSSx w' w.heap.size w'.heap.size r (tokOut N x) ∧ Below w.heap.size w w' := by
  clear ok1 ok2
  have F1 := Lib.hid h1
  obtain ⟨A1, c1, A1', c1', A1'', c1'', rfl, hc1, hd1, _⟩ := h1.parts
  clear h1
  obtain ⟨WA, HWA⟩ : ∃ W, Hid (W = (w.alloc (.cells #[.slice A1 N.ends.length c1, .slice A1' N.ids.length c1', .slice A1'' N.inputs.length c1''] 32))) := ⟨_, Lib.hid rfl⟩
  have hbA : Below w.heap.size w WA := by rw [HWA.out]; exact ((Below.refl _ _).alloc (Nat.le_refl _) _)
  have hsA : w.heap.size + 1 ≤ WA.heap.size := by rw [HWA.out]; simp; try omega
  have bx1 : BoxN WA (w.heap.size) #[.slice A1 N.ends.length c1, .slice A1' N.ids.length c1', .slice A1'' N.inputs.length c1''] 32 := by rw [HWA.out]; exact (BoxN.new' _ _ _ (by simp))
  have G1 := Lib.hid (Net.below F1.out hbA hh1); clear F1
  go_enter Try.func7, Try.ntmps7
  go_upto_region 1 with (fail)
  rw [← HWA.out]; clear HWA
  have kbx1_0 : WA.cell? ⟨w.heap.size, 0, none⟩ = some (.slice A1 N.ends.length c1) := bx1.cell 0 (by simp)
  have kbx1_1 : WA.cell? ⟨w.heap.size, 1, none⟩ = some (.slice A1' N.ids.length c1') := bx1.cell 1 (by simp)
  have kbx1_2 : WA.cell? ⟨w.heap.size, 2, none⟩ = some (.slice A1'' N.inputs.length c1'') := bx1.cell 2 (by simp)
  go_wp2_with fail
  clear kbx1_0 kbx1_1 kbx1_2
  refine (neNode_any _ N lo1 hi1 x _ G1.out (by omega) hz1).mono ?_
  rintro e W1 ⟨rfl, hb1⟩
  have hg1 := grown_below hb1; clear hb1
  have hs1 := hg1.size
  have HF1 := Lib.hid ((Turned.refl WA.heap.size WA.heap.size WA).still hg1)
  by_cases hk : tokOk N x = true
  case neg =>
    have hk' : tokOk N x = false := by simpa using hk
    rw [hk']
    have HK := Lib.hid hk'; clear hk hk'
    go_wp2_with fail
    go_ret2
    exact ⟨_, ret_vb (HK.out).symm, by rw [tokNo (HK.out)]; exact SSx.nil _ _ _, (HF1.out.below_of hbA (by omega) (by omega))⟩
  rw [hk]
  have HK := Lib.hid hk; clear hk
  have HOK := HK
  have hp := HK.out
  unfold tokOk at hp
  rw [Bool.and_eq_true] at hp
  have HG := Lib.hid hp.1
  have HX := Lib.hid hp.2
  clear hp
  have hxx := inB_le HX.out
  obtain ⟨root, rfl⟩ : ∃ m : Nat, x = m := ⟨x.toNat, by omega⟩
  have hroot : root < N.ends.length := by omega
  clear hxx
  have kbx1_0 : W1.cell? ⟨w.heap.size, 0, none⟩ = some (.slice A1 N.ends.length c1) := (HF1.out.boxN bx1 (by omega)).cell 0 (by simp)
  have kbx1_1 : W1.cell? ⟨w.heap.size, 1, none⟩ = some (.slice A1' N.ids.length c1') := (HF1.out.boxN bx1 (by omega)).cell 1 (by simp)
  have kbx1_2 : W1.cell? ⟨w.heap.size, 2, none⟩ = some (.slice A1'' N.inputs.length c1'') := (HF1.out.boxN bx1 (by omega)).cell 2 (by simp)
  go_wp2_with fail
  clear kbx1_0 kbx1_1 kbx1_2
  refine (biWalk_any _ N lo1 hi1 root _ (Net.turned G1.out HF1.out (by omega) (by omega)) (by omega) HG.out hroot).mono ?_
  rintro e W2 ⟨rv, rfl, hrv, hb2⟩
  have HRV := Lib.hid hrv; clear hrv
  have hg2 := grown_below hb2; clear hb2
  have hrs : W1.heap.size ≤ W2.heap.size := hg2.size
  have hs2 := hg2.size
  have HF2 := Lib.hid (HF1.out.still hg2); clear HF1
  go_wp2_with fail
  go_ret2
  exact ⟨_, ret_vb HOK.out.symm, by rw [tokYes HOK.out]; exact ISSx.mono HRV.out (by omega) (Nat.le_refl _), (HF2.out.below_of hbA (by omega) (by omega))⟩

theorem ret_bbT {a b c d : Bool} (h : a = b) (h2 : c = d) : Ending.returned (.tuple #[.bool a, .bool c]) = .returned (.tuple #[.bool b, .bool d]) := by rw [h, h2]

set_option maxHeartbeats 1000000 in
set_option maxRecDepth 100000 in
theorem IsTokenWalk_impl (v1 : Value) (N : NetD) (lo1 hi1 : Nat) (x : Int) (v3 : Value) (M : List (List Int)) (lo3 hi3 : Nat) (w : World) (h1 : Net w lo1 hi1 v1 N) (hh1 : hi1 ≤ w.heap.size) (h3 : IntSS w lo3 hi3 v3 M) (hh3 : hi3 ≤ w.heap.size) (hz1 : N.sz ≤ 1048576) (hz3 : szSS M ≤ 1048576) (ok1 : N.Ok) (ok2 : I64 x) (ok3 : ∀ l ∈ M, ∀ z ∈ l, I64 z) :
    Calls Try.prog 18 #[v1, .int .i64 x, v3] w fun e w' => e = .returned (.tuple #[.bool (istB N x M), .bool (istOk N x M)]) ∧ Below w.heap.size w w' := by
  clear ok1 ok2 ok3
  have F1 := Lib.hid h1
  obtain ⟨A1, c1, A1', c1', A1'', c1'', rfl, hc1, hd1, _⟩ := h1.parts
  clear h1
  have F3 := Lib.hid h3
  obtain ⟨A3, c3, rfl, hc3, hd3⟩ := h3.dims
  clear h3
  obtain ⟨WA, HWA⟩ : ∃ W, Hid (W = (w.alloc (.cells #[.slice A1 N.ends.length c1, .slice A1' N.ids.length c1', .slice A1'' N.inputs.length c1''] 32))) := ⟨_, Lib.hid rfl⟩
  have hbA : Below w.heap.size w WA := by rw [HWA.out]; exact ((Below.refl _ _).alloc (Nat.le_refl _) _)
  have hsA : w.heap.size + 1 ≤ WA.heap.size := by rw [HWA.out]; simp; try omega
  have bx1 : BoxN WA (w.heap.size) #[.slice A1 N.ends.length c1, .slice A1' N.ids.length c1', .slice A1'' N.inputs.length c1''] 32 := by rw [HWA.out]; exact (BoxN.new' _ _ _ (by simp))
  have G1 := Lib.hid (Net.below F1.out hbA hh1); clear F1
  have G3 := Lib.hid (ISS.below F3.out hbA hh3); clear F3
  go_enter Try.func18, Try.ntmps18
  go_upto_region 1 with (fail)
  rw [← HWA.out]; clear HWA
  have kbx1_0 : WA.cell? ⟨w.heap.size, 0, none⟩ = some (.slice A1 N.ends.length c1) := bx1.cell 0 (by simp)
  have kbx1_1 : WA.cell? ⟨w.heap.size, 1, none⟩ = some (.slice A1' N.ids.length c1') := bx1.cell 1 (by simp)
  have kbx1_2 : WA.cell? ⟨w.heap.size, 2, none⟩ = some (.slice A1'' N.inputs.length c1'') := bx1.cell 2 (by simp)
  go_wp2_with fail
  clear kbx1_0 kbx1_1 kbx1_2
  refine (IsNetwork_any _ N lo1 hi1 _ G1.out (by omega) hz1).mono ?_
  rintro e W1 ⟨rfl, hb1⟩
  have hg1 := grown_below hb1; clear hb1
  have hs1 := hg1.size
  have HF1 := Lib.hid ((Turned.refl WA.heap.size WA.heap.size WA).still hg1)
  by_cases hg : N.good = true
  case neg =>
    have hg' : N.good = false := by simpa using hg
    rw [hg']
    have HG := Lib.hid hg'; clear hg hg'
    go_wp2_with fail
    go_ret2
    exact ⟨ret_bbT (istNo (show istOk N x M = false by unfold istOk tokOk; rw [HG.out]; rfl)).symm (show istOk N x M = false by unfold istOk tokOk; rw [HG.out]; rfl).symm, (HF1.out.below_of hbA (by omega) (by omega))⟩
  rw [hg]
  have HG := Lib.hid hg; clear hg
  obtain ⟨n1, n40⟩ := good_n HG.out
  have kbx1_0 : W1.cell? ⟨w.heap.size, 0, none⟩ = some (.slice A1 N.ends.length c1) := (HF1.out.boxN bx1 (by omega)).cell 0 (by simp)
  have kbx1_1 : W1.cell? ⟨w.heap.size, 1, none⟩ = some (.slice A1' N.ids.length c1') := (HF1.out.boxN bx1 (by omega)).cell 1 (by simp)
  have kbx1_2 : W1.cell? ⟨w.heap.size, 2, none⟩ = some (.slice A1'' N.inputs.length c1'') := (HF1.out.boxN bx1 (by omega)).cell 2 (by simp)
  go_wp2_with fail
  clear kbx1_0 kbx1_1 kbx1_2
  refine (hasNode_any _ N x lo1 hi1 _ (Net.turned G1.out HF1.out (by omega) (by omega)) (by omega)).mono ?_
  rintro e W2 ⟨rfl, hb2⟩
  have hg2 := grown_below hb2; clear hb2
  have hs2 := hg2.size
  have HF2 := Lib.hid (HF1.out.still hg2); clear HF1
  by_cases hx : inB x 0 ((N.ends.length : Int) - 1) = true
  case neg =>
    have hx' : inB x 0 ((N.ends.length : Int) - 1) = false := by simpa using hx
    rw [hx']
    have HX := Lib.hid hx'; clear hx hx'
    go_wp2_with fail
    go_ret2
    exact ⟨ret_bbT (istNo (show istOk N x M = false by unfold istOk tokOk; rw [HX.out]; simp)).symm (show istOk N x M = false by unfold istOk tokOk; rw [HX.out]; simp).symm, (HF2.out.below_of hbA (by omega) (by omega))⟩
  rw [hx]
  have HX := Lib.hid hx; clear hx
  have HOK := Lib.hid (show tokOk N x = true by unfold tokOk; rw [HG.out, HX.out]; rfl)
  by_cases hm : M.length ≤ 960
  case neg =>
    have hm' : decide ((960 : Int) < (M.length : Int)) = true := decide_eq_true (by omega)
    have hm2 : decide (960 < M.length) = true := decide_eq_true (by omega)
    have HM := Lib.hid (show istOk N x M = false by unfold istOk; rw [decide_eq_false hm, Bool.and_false])
    clear hm
    go_wp2_with fail
    go_ret2
    exact ⟨ret_bbT (istNo (HM.out)).symm (HM.out).symm, (HF2.out.below_of hbA (by omega) (by omega))⟩
  have hm' : decide ((960 : Int) < (M.length : Int)) = false := decide_eq_false (by omega)
  have hm2 : decide (960 < M.length) = false := decide_eq_false (by omega)
  have HMO := Lib.hid (show istOk N x M = true by unfold istOk; rw [HOK.out, decide_eq_true hm]; rfl)
  clear hm
  have hxx := inB_le HX.out
  obtain ⟨root, rfl⟩ : ∃ m : Nat, x = m := ⟨x.toNat, by omega⟩
  have hroot : root < N.ends.length := by omega
  clear hxx
  have kbx1_0 : W2.cell? ⟨w.heap.size, 0, none⟩ = some (.slice A1 N.ends.length c1) := (HF2.out.boxN bx1 (by omega)).cell 0 (by simp)
  have kbx1_1 : W2.cell? ⟨w.heap.size, 1, none⟩ = some (.slice A1' N.ids.length c1') := (HF2.out.boxN bx1 (by omega)).cell 1 (by simp)
  have kbx1_2 : W2.cell? ⟨w.heap.size, 2, none⟩ = some (.slice A1'' N.inputs.length c1'') := (HF2.out.boxN bx1 (by omega)).cell 2 (by simp)
  go_wp2_with fail
  clear kbx1_0 kbx1_1 kbx1_2 hm' hm2
  refine (tokenWalk_any _ N lo1 hi1 root _ (Net.turned G1.out HF2.out (by omega) (by omega)) (by omega) HG.out hroot).mono ?_
  rintro e W3 ⟨rv, rfl, hrv, hb3⟩
  have HRV := Lib.hid hrv
  obtain ⟨Ar, cr, rfl⟩ := SS.shape hrv.ss
  clear hrv
  have hg3 := grown_below hb3; clear hb3
  have hrs : W2.heap.size ≤ W3.heap.size := hg3.size
  have hs3 := hg3.size
  have HF3 := Lib.hid (HF2.out.still hg3); clear HF2
  go_wp2_with fail
  refine (equalFn_any _ _ M (walkOf N root) lo3 hi3 _ _ _ (ISS.turned G3.out HF3.out (by omega) (by omega)) HRV.out.ss (by omega) (Nat.le_refl _)).mono ?_
  rintro e W4 ⟨rfl, hb4⟩
  have hg4 := grown_below hb4; clear hb4
  have hs4 := hg4.size
  have HF4 := Lib.hid (HF3.out.still hg4); clear HF3
  go_wp2_with fail
  go_ret2
  exact ⟨ret_bbT (istYes HMO.out).symm HMO.out.symm, (HF4.out.below_of hbA (by omega) (by omega))⟩

set_option maxHeartbeats 1000000 in
set_option maxRecDepth 100000 in
theorem IsTokenWalk_spec (v1 : Value) (N : NetD) (lo1 hi1 : Nat) (x : Int) (v3 : Value) (M : List (List Int)) (lo3 hi3 : Nat) (w : World) (h1 : Net w lo1 hi1 v1 N) (hh1 : hi1 ≤ w.heap.size) (h3 : IntSS w lo3 hi3 v3 M) (hh3 : hi3 ≤ w.heap.size) (hz1 : N.sz ≤ 1048576) (hz3 : szSS M ≤ 1048576) (ok1 : N.Ok) (ok2 : I64 x) (ok3 : ∀ l ∈ M, ∀ z ∈ l, I64 z) :
    Calls Try.prog 16 #[v1, .int .i64 x, v3] w fun e w' => e = .returned (.tuple #[.bool (istB N x M), .bool (istOk N x M)]) ∧ Below w.heap.size w w' := by
  clear ok1 ok2 ok3
  have F1 := Lib.hid h1
  obtain ⟨A1, c1, A1', c1', A1'', c1'', rfl, hc1, hd1, _⟩ := h1.parts
  clear h1
  have F3 := Lib.hid h3
  obtain ⟨A3, c3, rfl, hc3, hd3⟩ := h3.dims
  clear h3
  obtain ⟨WA, HWA⟩ : ∃ W, Hid (W = (w.alloc (.cells #[.slice A1 N.ends.length c1, .slice A1' N.ids.length c1', .slice A1'' N.inputs.length c1''] 32))) := ⟨_, Lib.hid rfl⟩
  have hbA : Below w.heap.size w WA := by rw [HWA.out]; exact ((Below.refl _ _).alloc (Nat.le_refl _) _)
  have hsA : w.heap.size + 1 ≤ WA.heap.size := by rw [HWA.out]; simp; try omega
  have bx1 : BoxN WA (w.heap.size) #[.slice A1 N.ends.length c1, .slice A1' N.ids.length c1', .slice A1'' N.inputs.length c1''] 32 := by rw [HWA.out]; exact (BoxN.new' _ _ _ (by simp))
  have G1 := Lib.hid (Net.below F1.out hbA hh1); clear F1
  have G3 := Lib.hid (ISS.below F3.out hbA hh3); clear F3
  go_enter Try.func16, Try.ntmps16
  go_upto_region 1 with (fail)
  rw [← HWA.out]; clear HWA
  have kbx1_0 : WA.cell? ⟨w.heap.size, 0, none⟩ = some (.slice A1 N.ends.length c1) := bx1.cell 0 (by simp)
  have kbx1_1 : WA.cell? ⟨w.heap.size, 1, none⟩ = some (.slice A1' N.ids.length c1') := bx1.cell 1 (by simp)
  have kbx1_2 : WA.cell? ⟨w.heap.size, 2, none⟩ = some (.slice A1'' N.inputs.length c1'') := bx1.cell 2 (by simp)
  go_wp2_with fail
  clear kbx1_0 kbx1_1 kbx1_2
  refine (neNode_any _ N lo1 hi1 x _ G1.out (by omega) hz1).mono ?_
  rintro e W1 ⟨rfl, hb1⟩
  have hg1 := grown_below hb1; clear hb1
  have hs1 := hg1.size
  have HF1 := Lib.hid ((Turned.refl WA.heap.size WA.heap.size WA).still hg1)
  by_cases hk : tokOk N x = true
  case neg =>
    have hk' : tokOk N x = false := by simpa using hk
    rw [hk']
    have HK := Lib.hid hk'; clear hk hk'
    go_wp2_with fail
    go_ret2
    exact ⟨ret_bbT (istNo (show istOk N x M = false by unfold istOk; rw [HK.out]; rfl)).symm (show istOk N x M = false by unfold istOk; rw [HK.out]; rfl).symm, (HF1.out.below_of hbA (by omega) (by omega))⟩
  rw [hk]
  have HK := Lib.hid hk; clear hk
  have HOK := HK
  have hp := HK.out
  unfold tokOk at hp
  rw [Bool.and_eq_true] at hp
  have HG := Lib.hid hp.1
  have HX := Lib.hid hp.2
  clear hp
  by_cases hm : M.length ≤ 960
  case neg =>
    have hm' : decide ((960 : Int) < (M.length : Int)) = true := decide_eq_true (by omega)
    have hm2 : decide (960 < M.length) = true := decide_eq_true (by omega)
    have HM := Lib.hid (show istOk N x M = false by unfold istOk; rw [decide_eq_false hm, Bool.and_false])
    clear hm
    go_wp2_with fail
    go_ret2
    exact ⟨ret_bbT (istNo (HM.out)).symm (HM.out).symm, (HF1.out.below_of hbA (by omega) (by omega))⟩
  have hm' : decide ((960 : Int) < (M.length : Int)) = false := decide_eq_false (by omega)
  have hm2 : decide (960 < M.length) = false := decide_eq_false (by omega)
  have HMO := Lib.hid (show istOk N x M = true by unfold istOk; rw [HOK.out, decide_eq_true hm]; rfl)
  clear hm
  have hxx := inB_le HX.out
  obtain ⟨root, rfl⟩ : ∃ m : Nat, x = m := ⟨x.toNat, by omega⟩
  have hroot : root < N.ends.length := by omega
  clear hxx
  have kbx1_0 : W1.cell? ⟨w.heap.size, 0, none⟩ = some (.slice A1 N.ends.length c1) := (HF1.out.boxN bx1 (by omega)).cell 0 (by simp)
  have kbx1_1 : W1.cell? ⟨w.heap.size, 1, none⟩ = some (.slice A1' N.ids.length c1') := (HF1.out.boxN bx1 (by omega)).cell 1 (by simp)
  have kbx1_2 : W1.cell? ⟨w.heap.size, 2, none⟩ = some (.slice A1'' N.inputs.length c1'') := (HF1.out.boxN bx1 (by omega)).cell 2 (by simp)
  go_wp2_with fail
  clear kbx1_0 kbx1_1 kbx1_2 hm' hm2
  refine (biWalk_any _ N lo1 hi1 root _ (Net.turned G1.out HF1.out (by omega) (by omega)) (by omega) HG.out hroot).mono ?_
  rintro e W2 ⟨rv, rfl, hrv, hb2⟩
  have HRV := Lib.hid hrv
  obtain ⟨Ar, cr, rfl⟩ := SS.shape hrv.ss
  clear hrv
  have hg2 := grown_below hb2; clear hb2
  have hrs : W1.heap.size ≤ W2.heap.size := hg2.size
  have hs2 := hg2.size
  have HF2 := Lib.hid (HF1.out.still hg2); clear HF1
  go_wp2_with fail
  refine (prSame_any _ _ (walkOf N root) M _ _ lo3 hi3 _ HRV.out.ss (ISS.turned G3.out HF2.out (by omega) (by omega)) (Nat.le_refl _) (by omega)).mono ?_
  rintro e W3 ⟨rfl, hb3⟩
  have hg3 := grown_below hb3; clear hb3
  have hs3 := hg3.size
  have HF3 := Lib.hid (HF2.out.still hg3); clear HF2
  go_wp2_with fail
  go_ret2
  exact ⟨ret_bbT (by rw [istYes HMO.out]; exact decide_eq_decide.2 ⟨Eq.symm, Eq.symm⟩) HMO.out.symm, (HF3.out.below_of hbA (by omega) (by omega))⟩

end Go.Proofs.Ytjapdfdjgjajkaa
