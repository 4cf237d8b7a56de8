/-
  Contracts: ElectLeader (the program).
-/
import Derived.Test.YtoebgfmnjjiddaaConn
import Derived.Test.YtoebgfmnjjiddaaDel
import Derived.Test.YtoebgfmnjjiddaaWave
namespace Go.Proofs.Ytoebgfmnjjiddaa
open Go.ChangeShapes Go.WideShapes Go.ChangeAt Go.RowKit
set_option linter.unusedVariables false

def elLead (N : NetD) : Int := if electOk N = true then nth (elect N).known 0 else 0
def elRnd (N : NetD) : Nat := if electOk N = true then (elect N).rounds else 0
def elMsg (N : NetD) : Nat := if electOk N = true then (elect N).msgs else 0
theorem elNo {N : NetD} (h : electOk N = false) : elLead N = 0 ∧ elRnd N = 0 ∧ elMsg N = 0 := by unfold elLead elRnd elMsg; rw [h]; exact ⟨rfl, rfl, rfl⟩
theorem elYes {N : NetD} (h : electOk N = true) : elLead N = nth (elect N).known 0 ∧ elRnd N = (elect N).rounds ∧ elMsg N = (elect N).msgs := by unfold elLead elRnd elMsg; rw [if_pos h, if_pos h, if_pos h]; exact ⟨rfl, rfl, rfl⟩
theorem ret_iiib' {a b c a' b' c' : Int} {d d' : Bool} (h1 : a = a') (h2 : b = b') (h3 : c = c') (h4 : d = d') : Ending.returned (.tuple #[.int .i64 a, .int .i64 b, .int .i64 c, .bool d]) = .returned (.tuple #[.int .i64 a', .int .i64 b', .int .i64 c', .bool d']) := by rw [h1, h2, h3, h4]
theorem good_ids {N : NetD} (hg : N.good = true) (h0 : ¬ N.ids.length = 0) : EL N.ends.length N.ids := by
  unfold NetD.good NetD.headOk at hg
  simp only [Bool.and_eq_true] at hg
  have hi := hg.1.2.1
  unfold idsGood at hi
  rw [Bool.and_eq_true, Bool.or_eq_true, decide_eq_true_eq, decide_eq_true_eq, ids_iff] at hi
  refine ⟨by have := hi.2.resolve_left h0; omega, fun j hj => ?_⟩
  have hjl : j < N.ids.length := by have := hi.2.resolve_left h0; omega
  exact inB_le (hi.1.1 _ (nth_mem hjl))
theorem elAt_len {N : NetD} {kn : List Int} (hg : N.good = true) (hk : EL N.ends.length kn) (p : Nat → Bool) {a : Nat} (ha : a ≤ (sndOf N.ends.length p).length) : (tellA N kn (sndOf N.ends.length p) a).length = N.ends.length := (tellA_ok hg hk a ha).1.len
theorem Turned.beyond {lo hi l2 h2 : Nat} {a b c : World} (h : Turned lo hi a b) (k : Turned l2 h2 b c) (hl : a.heap.size ≤ l2) : Turned lo hi a c :=
  ⟨k.os.trans h.os, k.tape.trans h.tape, k.output.trans h.output, Nat.le_trans h.size k.size, fun i hi ho => (k.block i (Nat.lt_of_lt_of_le hi h.size) (.inl (by omega))).trans (h.block i hi ho)⟩
theorem upTo_node {n : Nat} {x : Int} (hx : x ∈ upTo n) : ∃ k : Nat, k < n ∧ x = k := by
  unfold upTo at hx
  simp only [List.mem_map, List.mem_range] at hx
  obtain ⟨k, hk, e⟩ := hx
  exact ⟨k, hk, e.symm⟩
set_option maxHeartbeats 1000000 in
theorem elect1_any (v gn gk : Nat) (nx kn : List Int) (n : Nat) (bn on cn bk ok ck l1 h1 l2 h2 : Nat) (w : World)
    (x1 : w.cell? ⟨gn, 0, none⟩ = some (.slice (some ⟨bn, on, none⟩) n cn)) (x2 : w.cell? ⟨gk, 0, none⟩ = some (.slice (some ⟨bk, ok, none⟩) n ck))
    (hX : IntS w l1 h1 (.slice (some ⟨bn, on, none⟩) n cn) nx) (hK : IntS w l2 h2 (.slice (some ⟨bk, ok, none⟩) n ck) kn) (e1 : nx.length = n) (e2 : kn.length = n) (hv : v < n) :
    Calls Try.prog 76 #[.int .i64 v, .pointer (some ⟨gn, 0, none⟩), .pointer (some ⟨gk, 0, none⟩)] w fun e w' => e = .returned (.bool (nth nx v == nth kn v)) ∧ Below w.heap.size w w' := by
  obtain ⟨y1, _⟩ := IntS.at_ hX (j := v) (by omega)
  obtain ⟨y2, _⟩ := IntS.at_ hK (j := v) (by omega)
  have hvi : (v : Int) < (n : Int) := by omega
  obtain ⟨a, HA⟩ : ∃ y, Hid (nth nx v = y) := ⟨_, Lib.hid rfl⟩
  obtain ⟨c, HC⟩ : ∃ y, Hid (nth kn v = y) := ⟨_, Lib.hid rfl⟩
  rw [HA.out] at y1
  rw [HC.out] at y2
  clear hX hK e1 e2
  go_enter Try.func76, Try.ntmps76
  go_wp2_with fail
  go_quiet (fail)
  go_wp2_with fail
  go_ret
  exact ⟨ret_bool (by rw [HA.out, HC.out]), below_drewN (Below.refl _ _) nq⟩

set_option maxHeartbeats 1000000 in
set_option maxRecDepth 100000 in
theorem ElectLeader_impl (v1 : Value) (N : NetD) (lo1 hi1 : Nat) (w : World) (h1 : Net w lo1 hi1 v1 N) (hh1 : hi1 ≤ w.heap.size) (hz1 : N.sz ≤ 1048576) (ok1 : N.Ok) :
    Calls Try.prog 29 #[v1] w fun e w' => e = .returned (.tuple #[.int .i64 (elLead N), .int .i64 (elRnd N : Nat), .int .i64 (elMsg N : Nat), .bool (electOk N)]) ∧ Below w.heap.size w w' := by
  clear ok1
  have F1 := Lib.hid h1
  obtain ⟨A1, c1, A1', c1', A1'', c1'', rfl, hc1, hd1, _⟩ := h1.parts
  clear h1
  obtain ⟨WA, HWA⟩ : ∃ W, Hid (W = (w.alloc (.cells #[.slice A1 N.ends.length c1, .slice A1' N.ids.length c1', .slice A1'' N.inputs.length c1''] 33))) := ⟨_, Lib.hid rfl⟩
  have hbA : Below w.heap.size w WA := by rw [HWA.out]; exact ((Below.refl _ _).alloc (Nat.le_refl _) _)
  have hsA : w.heap.size + 1 ≤ WA.heap.size := by rw [HWA.out]; simp; try omega
  have bx1 : BoxN WA (w.heap.size) #[.slice A1 N.ends.length c1, .slice A1' N.ids.length c1', .slice A1'' N.inputs.length c1''] 33 := by rw [HWA.out]; exact (BoxN.new' _ _ _ (by simp))
  have G1 := Lib.hid (Net.below F1.out hbA hh1); clear F1
  go_enter Try.func29, Try.ntmps29
  go_upto_region 1 with (fail)
  rw [← HWA.out]; clear HWA
  have kbx1_0 : WA.cell? ⟨w.heap.size, 0, none⟩ = some (.slice A1 N.ends.length c1) := bx1.cell 0 (by simp)
  have kbx1_1 : WA.cell? ⟨w.heap.size, 1, none⟩ = some (.slice A1' N.ids.length c1') := bx1.cell 1 (by simp)
  have kbx1_2 : WA.cell? ⟨w.heap.size, 2, none⟩ = some (.slice A1'' N.inputs.length c1'') := bx1.cell 2 (by simp)
  go_wp2_with fail
  clear kbx1_0 kbx1_1 kbx1_2
  refine (IsNetwork_any _ N lo1 hi1 _ G1.out (by omega) hz1).mono ?_
  rintro e W1 ⟨rfl, hb1⟩
  have hg1 := grown_below hb1; clear hb1
  have hs1 := hg1.size
  have HF1 := Lib.hid ((Turned.refl WA.heap.size WA.heap.size WA).still hg1)
  by_cases hg : N.good = true
  case neg =>
    have hg' : N.good = false := by simpa using hg
    rw [hg']
    have HG := Lib.hid hg'; clear hg hg'
    go_wp2_with fail
    ((try simp only [Exit.inBlock, Exit.then]); refine bodyPost_ret (results_tmp4 rfl _ _ _) rfl ?_)
    exact ⟨ret_iiib' (elNo (show electOk N = false by unfold electOk; rw [HG.out]; rfl)).1.symm (by rw [(elNo (show electOk N = false by unfold electOk; rw [HG.out]; rfl)).2.1]; rfl) (by rw [(elNo (show electOk N = false by unfold electOk; rw [HG.out]; rfl)).2.2]; rfl) (show electOk N = false by unfold electOk; rw [HG.out]; rfl).symm, (HF1.out.below_of hbA (by omega) (by omega))⟩
  rw [hg]
  have HG := Lib.hid hg; clear hg
  obtain ⟨n1, n40⟩ := good_n HG.out
  obtain ⟨b1, o1, _, _, rfl, _⟩ := Net.rowAt (Net.turned G1.out HF1.out (by omega) (by omega)) (u := 0) (by omega)
  by_cases hi0 : N.ids.length = 0
  case pos =>
    have hi0' : ((N.ids.length : Int) == 0) = true := by simp; exact List.eq_nil_of_length_eq_zero hi0
    have HNO := Lib.hid (show electOk N = false by unfold electOk; rw [HG.out, decide_eq_true hi0]; rfl)
    clear hi0
    have kbx1_0 : W1.cell? ⟨w.heap.size, 0, none⟩ = some (.slice (some ⟨b1, o1, none⟩) N.ends.length c1) := (HF1.out.boxN bx1 (by omega)).cell 0 (by simp)
    have kbx1_1 : W1.cell? ⟨w.heap.size, 1, none⟩ = some (.slice A1' N.ids.length c1') := (HF1.out.boxN bx1 (by omega)).cell 1 (by simp)
    have kbx1_2 : W1.cell? ⟨w.heap.size, 2, none⟩ = some (.slice A1'' N.inputs.length c1'') := (HF1.out.boxN bx1 (by omega)).cell 2 (by simp)
    go_wp2_with fail
    ((try simp only [Exit.inBlock, Exit.then]); refine bodyPost_ret (results_tmp4 rfl _ _ _) rfl ?_)
    exact ⟨ret_iiib' (elNo (HNO.out)).1.symm (by rw [(elNo (HNO.out)).2.1]; rfl) (by rw [(elNo (HNO.out)).2.2]; rfl) (HNO.out).symm, (HF1.out.below_of hbA (by omega) (by omega))⟩
  have hi0' : ((N.ids.length : Int) == 0) = false := by simp; intro h; exact hi0 (by rw [h]; rfl)
  have HEL := Lib.hid (good_ids HG.out hi0)
  have HI0 := Lib.hid (decide_eq_false hi0)
  clear hi0
  have kbx1_0 : W1.cell? ⟨w.heap.size, 0, none⟩ = some (.slice (some ⟨b1, o1, none⟩) N.ends.length c1) := (HF1.out.boxN bx1 (by omega)).cell 0 (by simp)
  have kbx1_1 : W1.cell? ⟨w.heap.size, 1, none⟩ = some (.slice A1' N.ids.length c1') := (HF1.out.boxN bx1 (by omega)).cell 1 (by simp)
  have kbx1_2 : W1.cell? ⟨w.heap.size, 2, none⟩ = some (.slice A1'' N.inputs.length c1'') := (HF1.out.boxN bx1 (by omega)).cell 2 (by simp)
  go_wp2_with fail
  clear kbx1_0 kbx1_1 kbx1_2
  refine (isConnected_any _ N lo1 hi1 _ (Net.turned G1.out HF1.out (by omega) (by omega)) (by omega) HG.out).mono ?_
  rintro e W2 ⟨rfl, hb2⟩
  have hg2 := grown_below hb2; clear hb2
  have hs2 := hg2.size
  have HF2 := Lib.hid (HF1.out.still hg2); clear HF1
  cases hc : conn N with
  | false =>
    have HNO := Lib.hid (show electOk N = false by unfold electOk; rw [HG.out, hc, HI0.out]; rfl)
    clear hc
    go_wp2_with fail
    ((try simp only [Exit.inBlock, Exit.then]); refine bodyPost_ret (results_tmp4 rfl _ _ _) rfl ?_)
    exact ⟨ret_iiib' (elNo (HNO.out)).1.symm (by rw [(elNo (HNO.out)).2.1]; rfl) (by rw [(elNo (HNO.out)).2.2]; rfl) (HNO.out).symm, (HF2.out.below_of hbA (by omega) (by omega))⟩
  | true =>
    have HC := Lib.hid hc; clear hc
    have HOK := Lib.hid (show electOk N = true by unfold electOk; rw [HG.out, HC.out, HI0.out]; rfl)
    have kbx1_0 : W2.cell? ⟨w.heap.size, 0, none⟩ = some (.slice (some ⟨b1, o1, none⟩) N.ends.length c1) := (HF2.out.boxN bx1 (by omega)).cell 0 (by simp)
    have kbx1_1 : W2.cell? ⟨w.heap.size, 1, none⟩ = some (.slice A1' N.ids.length c1') := (HF2.out.boxN bx1 (by omega)).cell 1 (by simp)
    have kbx1_2 : W2.cell? ⟨w.heap.size, 2, none⟩ = some (.slice A1'' N.inputs.length c1'') := (HF2.out.boxN bx1 (by omega)).cell 2 (by simp)
    go_wp2_with fail
    clear kbx1_0 kbx1_1 kbx1_2
    obtain ⟨_, _, _, _, _, _, hve, _, _, hI, _, _⟩ := Net.parts (Net.turned G1.out HF2.out (by omega) (by omega))
    injection hve with hve
    have hve2 := congrArg (fun x => x.getD 1 undef) hve
    simp at hve2
    obtain ⟨e1x, e2x⟩ := hve2
    subst e1x; subst e2x
    have HIDS := Lib.hid hI; clear hI hve
    refine (clone_any _ N.ids _ _ _ HIDS.out (by have := HEL.out.len; omega)).mono ?_
    rintro e W3 ⟨rk, rfl, hrk, hb3⟩
    have hg3 := grown_below hb3; clear hb3
    have hs3 := hg3.size
    have HF3 := Lib.hid (HF2.out.still hg3); clear HF2
    replace hrk := OwnI.ints hrk
    clear HIDS
    have KN3 := Lib.hid hrk; clear hrk
    obtain ⟨Ak, ck, rfl, hck, hdk⟩ := KN3.out.dims
    go_upto_region 4 with (fail)
    refine nameC ?_
    intro W4 HW4
    have hg4 : W3.grownBy W4 none := by rw [HW4.out]; exact grown_alloc _ _
    have hs4 := hg4.size
    have HF4 := Lib.hid (HF3.out.still hg4); clear HF3
    have KN4 := Lib.hid (IntS.still KN3.out hg4 (by omega)); clear KN3
    have BK := Lib.hid (show BoxN W4 W3.heap.size #[.slice Ak N.ids.length ck] 23 by rw [HW4.out]; exact BoxN.new _ _ _)
    have hzk : W3.heap.size + 1 ≤ W4.heap.size := by rw [HW4.out]; simp
    clear HW4
    have kbk : W4.cell? ⟨W3.heap.size, 0, none⟩ = some (.slice Ak N.ids.length ck) := BK.out.cell 0 (by simp)
    go_wp2_with fail
    clear kbk
    refine (numbersTo_any N.ids.length _ (by have := HEL.out.len; omega)).mono ?_
    rintro e W5 ⟨rs, rfl, hrs, hb5⟩
    have hg5 := grown_below hb5; clear hb5
    have hs5 := hg5.size
    have HF5 := Lib.hid (HF4.out.still hg5); clear HF4
    have KN5 := Lib.hid (IntS.still KN4.out hg5 (by omega)); clear KN4
    have BK5 := Lib.hid (BoxN.still BK.out hg5); clear BK
    have SN5 := Lib.hid hrs; clear hrs
    obtain ⟨As, cs, rfl, hcs, hds⟩ := SN5.out.dims
    rw [upTo_length] at hcs ⊢
    go_wp2_with fail
    have e9 : sndOf N.ends.length (fun _ => true) = upTo N.ids.length := by unfold sndOf upTo; rw [List.filter_eq_self.2 (fun _ _ => rfl), HEL.out.len]
    have HS0 := Lib.hid (show IntS W5 (W4.heap.size) (W5.heap.size) (.slice As N.ids.length cs) (sndOf N.ends.length (fun _ => true)) by rw [e9]; have := SN5.out; rw [upTo_length] at this; exact this)
    clear e9
    go_loopw [7, 8, 9] (fun sv rv mv wr => ∃ (r m lk hk ls hs : Nat) (p : Nat → Bool) (kn : List Int) (kv : Value), rv = .int .i64 r ∧ mv = .int .i64 m ∧ Hid (BoxN wr W3.heap.size #[kv] 23) ∧ Hid (IntS wr lk hk kv kn) ∧ hk ≤ wr.heap.size ∧ (hk ≤ W3.heap.size ∨ W3.heap.size < lk) ∧ Hid (IntS wr ls hs sv (sndOf N.ends.length p)) ∧ hs ≤ wr.heap.size ∧ (hs ≤ W3.heap.size ∨ W3.heap.size < ls) ∧ Hid (ETop N kn p r m) ∧ W3.heap.size + 1 ≤ wr.heap.size ∧ Hid (Turned WA.heap.size WA.heap.size WA wr)) (fun sv rv mv _ => 80000001 - (intOf rv).toNat)
    case atStart => exact ⟨0, 0, W2.heap.size, W3.heap.size, W4.heap.size, W5.heap.size, fun _ => true, N.ids, .slice Ak N.ids.length ck, rfl, rfl, BK5, KN5, by omega, by omega, HS0, by omega, by omega, Lib.hid (ETop.zero HG.out HEL.out), by omega, HF5⟩
    case round =>
      clear HF5
      obtain ⟨r, m, lk, hk, ls, hs, p, kn, kv, rfl, rfl, HBK, HKN, hkw, hkw2, HSN, hsw, hsw2, HT, hz, HF6⟩ := hrel
      have hs6 := HF6.out.size
      have hcap := HT.out.cap
      have hmsg := HT.out.msg
      have hkl := HT.out.el.len
      have hcn := cntP_le p N.ends.length
      have hsn : (sndOf N.ends.length p).length ≤ N.ends.length := by rw [snd_len]; exact hcn
      have hes := Lib.hid (fun (a : Nat) (ha : a ≤ (sndOf N.ends.length p).length) => elSent_le HG.out p ha)
      obtain ⟨Ak, ck, rfl, hck, hdk⟩ := HKN.out.dims
      obtain ⟨bk, ok, rfl, lbk, hbk, _, _⟩ := HKN.out.opened (j := 0) (by omega)
      obtain ⟨As, cs, rfl, hcs, hds⟩ := HSN.out.dims
      rw [hkl] at hck HKN HBK
      obtain ⟨wq, rfl⟩ : ∃ wq : World, wq = wr := ⟨_, rfl⟩
      have kbk : wq.cell? ⟨W3.heap.size, 0, none⟩ = some (.slice (some ⟨bk, ok, none⟩) N.ends.length ck) := HBK.out.cell 0 (by simp)
      go_wp2_with fail
      clear kbk
      refine (clone_any _ kn _ _ _ HKN.out (by omega)).mono ?_
      rintro e W7 ⟨rn, rfl, hrn, hb7⟩
      have hg7 := grown_below hb7; clear hb7
      have hs7 := hg7.size
      have HF7 := Lib.hid (HF6.out.still hg7); clear HF6
      have BK7 := Lib.hid (BoxN.still HBK.out hg7); clear HBK
      have KN7 := Lib.hid (IntS.still HKN.out hg7 (by omega)); clear HKN
      have SN7 := Lib.hid (IntS.still HSN.out hg7 (by omega)); clear HSN
      replace hrn := OwnI.ints hrn
      have NX7 := Lib.hid hrn; clear hrn
      obtain ⟨An, cn, rfl, hcn2, hdn⟩ := NX7.out.dims
      obtain ⟨bn, on, rfl, lbn, hbn, _, _⟩ := NX7.out.opened (j := 0) (by omega)
      rw [hkl] at hcn2 NX7
      try rw [hkl]
      go_upto_region 7 with (fail)
      refine nameC ?_
      intro W8 HW8
      have hg8 : W7.grownBy W8 none := by rw [HW8.out]; exact grown_alloc _ _
      have hs8 := hg8.size
      have HF8 := Lib.hid (HF7.out.still hg8); clear HF7
      have BK8 := Lib.hid (BoxN.still BK7.out hg8); clear BK7
      have KN8 := Lib.hid (IntS.still KN7.out hg8 (by omega)); clear KN7
      have SN8 := Lib.hid (IntS.still SN7.out hg8 (by omega)); clear SN7
      have NX8 := Lib.hid (IntS.still NX7.out hg8 (by omega)); clear NX7
      have BN := Lib.hid (show BoxN W8 W7.heap.size #[.slice (some ⟨bn, on, none⟩) N.ends.length cn] 23 by rw [HW8.out]; exact BoxN.new _ _ _)
      have hzn : W7.heap.size + 1 ≤ W8.heap.size := by rw [HW8.out]; simp
      clear HW8
      go_wp2_with fail
      go_loopw [40, 11] (fun iv cv wr => ∃ (a : Nat), a ≤ (sndOf N.ends.length p).length ∧ iv = .int .i64 a ∧ cv = .int .i64 (elSentA N (sndOf N.ends.length p) a : Nat) ∧ Hid (IntS wr wq.heap.size W7.heap.size (.slice (some ⟨bn, on, none⟩) N.ends.length cn) (tellA N kn (sndOf N.ends.length p) a)) ∧ Hid (BoxN wr W7.heap.size #[.slice (some ⟨bn, on, none⟩) N.ends.length cn] 23) ∧ Hid (BoxN wr W3.heap.size #[.slice (some ⟨bk, ok, none⟩) N.ends.length ck] 23) ∧ Hid (IntS wr lk hk (.slice (some ⟨bk, ok, none⟩) N.ends.length ck) kn) ∧ Hid (IntS wr ls hs (.slice As (sndOf N.ends.length p).length cs) (sndOf N.ends.length p)) ∧ W8.heap.size ≤ wr.heap.size ∧ Hid (Turned WA.heap.size WA.heap.size WA wr)) (fun iv cv _ => (sndOf N.ends.length p).length - (intOf iv).toNat)
      case atStart => exact ⟨0, Nat.zero_le _, rfl, rfl, NX8, BN, BK8, KN8, SN8, Nat.le_refl _, HF8⟩
      case round =>
        clear HF8
        obtain ⟨a, ha, rfl, rfl, HNX, HBN, HBK, HKN, HSN, hz2, HF9⟩ := hrel
        have hs9 := HF9.out.size
        have hea := hes.out a ha
        have hal := elAt_len HG.out HT.out.el p ha
        by_cases hlt : a < (sndOf N.ends.length p).length
        case pos =>
          obtain ⟨v, hv, hpv, ev⟩ := snd_nth hlt
          have HEV := Lib.hid ev
          obtain ⟨bs, os, rfl, _, hbs, xs, _⟩ := HSN.out.opened (j := a) hlt
          rw [ev] at xs
          clear ev
          have hvi : (v : Int) < N.ends.length := by omega
          have hd6 := good_deg HG.out hv
          have HSA := Lib.hid (show elSentA N (sndOf N.ends.length p) (a + 1) = elSentA N (sndOf N.ends.length p) a + (nthL N.ends v).length by unfold elSentA; rw [sumN, HEV.out, Int.toNat_natCast])
          have HTA := Lib.hid (show tellA N kn (sndOf N.ends.length p) (a + 1) = tellK N kn v (tellA N kn (sndOf N.ends.length p) a) (nthL N.ends v).length by rw [tellA, HEV.out, Int.toNat_natCast])
          have HAO := Lib.hid (tellA_ok HG.out HT.out.el (p := p) a ha).1
          obtain ⟨Ar, cr, hbr, qr, hcr, hdr, hRr⟩ := Net.rowIn G1.out hv
          replace qr := (HF9.out.cell (by omega) (by omega)).trans qr
          have Rr := Lib.hid hRr; clear hRr
          have kbx1_0 : wr.cell? ⟨w.heap.size, 0, none⟩ = some (.slice (some ⟨b1, o1, none⟩) N.ends.length c1) := (HF9.out.boxN bx1 (by omega)).cell 0 (by simp)
          have kbx1_1 : wr.cell? ⟨w.heap.size, 1, none⟩ = some (.slice A1' N.ids.length c1') := (HF9.out.boxN bx1 (by omega)).cell 1 (by simp)
          have kbx1_2 : wr.cell? ⟨w.heap.size, 2, none⟩ = some (.slice A1'' N.inputs.length c1'') := (HF9.out.boxN bx1 (by omega)).cell 2 (by simp)
          go_wp2_with fail
          clear kbx1_0 kbx1_1 kbx1_2 qr xs
          go_loopw [50, 11] (fun iv cv wr => ∃ (i : Nat), i ≤ (nthL N.ends v).length ∧ iv = .int .i64 i ∧ cv = .int .i64 (elSentA N (sndOf N.ends.length p) a + i : Nat) ∧ Hid (IntS wr wq.heap.size W7.heap.size (.slice (some ⟨bn, on, none⟩) N.ends.length cn) (tellK N kn v (tellA N kn (sndOf N.ends.length p) a) i)) ∧ Hid (BoxN wr W7.heap.size #[.slice (some ⟨bn, on, none⟩) N.ends.length cn] 23) ∧ Hid (BoxN wr W3.heap.size #[.slice (some ⟨bk, ok, none⟩) N.ends.length ck] 23) ∧ Hid (IntS wr lk hk (.slice (some ⟨bk, ok, none⟩) N.ends.length ck) kn) ∧ Hid (IntS wr ls hs (.slice (some ⟨bs, os, none⟩) (sndOf N.ends.length p).length cs) (sndOf N.ends.length p)) ∧ W8.heap.size ≤ wr.heap.size ∧ Hid (Turned WA.heap.size WA.heap.size WA wr)) (fun iv cv _ => (nthL N.ends v).length - (intOf iv).toNat)
          case atStart => exact ⟨0, Nat.zero_le _, rfl, by go_num, HNX, HBN, HBK, HKN, HSN, hz2, HF9⟩
          case round =>
            clear HF9
            obtain ⟨i, hi, rfl, rfl, HNX, HBN, HBK, HKN, HSN, hz2, HF10⟩ := hrel
            have hs10 := HF10.out.size
            have hkl2 := (tellK_ok HG.out HT.out.el HAO.out hv i hi).1.len
            by_cases hil : i < (nthL N.ends v).length
            case neg =>
              obtain rfl : i = (nthL N.ends v).length := by omega
              have HNN : Hid (IntS wr wq.heap.size W7.heap.size (.slice (some ⟨bn, on, none⟩) N.ends.length cn) (tellA N kn (sndOf N.ends.length p) (a + 1))) := by rw [HTA.out]; exact HNX
              go_wp2_with fail
              go_roundw
              case rel => exact ⟨a + 1, by omega, by go_num, by rw [HSA.out], HNN, HBN, HBK, HKN, HSN, by omega, HF10⟩
              case measure => simp [intOf]; omega
            obtain ⟨br, or, rfl, _, hbr', er, er'⟩ := (EndS.turned Rr.out HF10.out (by omega) (by omega)).opened hil
            obtain ⟨t, r, etr, ht, hr, eur⟩ := good_end HG.out hv hil
            rw [etr] at er er'
            dsimp only at er er'
            have ETr := Lib.hid etr
            have EUr := Lib.hid eur
            clear etr eur
            go_upto_region 14 with (fail)
            refine nameC ?_
            intro W11 HW11
            have hg11 : wr.grownBy W11 none := by rw [HW11.out]; exact grown_alloc _ _
            have hs11 := hg11.size
            have HF11 := Lib.hid (HF10.out.still hg11); clear HF10
            have NX11 := Lib.hid (IntS.still HNX.out hg11 (by omega)); clear HNX
            have BN11 := Lib.hid (BoxN.still HBN.out hg11); clear HBN
            have BK11 := Lib.hid (BoxN.still HBK.out hg11); clear HBK
            have KN11 := Lib.hid (IntS.still HKN.out hg11 (by omega)); clear HKN
            have SN11 := Lib.hid (IntS.still HSN.out hg11 (by omega)); clear HSN
            have bxe11 := Lib.hid (show BoxN W11 wr.heap.size #[.int .i64 t, .int .i64 r] 74 by rw [HW11.out]; exact BoxN.new _ _ _)
            clear HW11
            clear er er'
            have HPN := Lib.hid (show portNode N v i = t by unfold portNode; rw [ETr.out]; simp)
            obtain ⟨l, HLL⟩ : ∃ l, Hid (tellK N kn v (tellA N kn (sndOf N.ends.length p) a) i = l) := ⟨_, Lib.hid rfl⟩
            have HTK := Lib.hid (show tellK N kn v (tellA N kn (sndOf N.ends.length p) a) (i + 1) = l.set t (min (nth l t) (nth kn v)) by rw [tellK, HPN.out, HLL.out])
            rw [HLL.out] at NX11 hkl2
            have hti : (t : Int) < N.ends.length := by omega
            have hvk : (v : Int) < N.ends.length := by omega
            obtain ⟨yt, HYT⟩ : ∃ y, Hid (nth l t = y) := ⟨_, Lib.hid rfl⟩
            obtain ⟨yv, HYV⟩ : ∃ y, Hid (nth kn v = y) := ⟨_, Lib.hid rfl⟩
            obtain ⟨mn, HMN⟩ : ∃ y, Hid (min yt yv = y) := ⟨_, Lib.hid rfl⟩
            rw [HYT.out, HYV.out, HMN.out] at HTK
            go_wp2_with fail
            refine wp_region_U (fun w' => w'.cell? ⟨W7.heap.size, 0, none⟩ = some (.slice (some ⟨bn, on, none⟩) N.ends.length cn) ∧ w'.cell? ⟨wr.heap.size, 0, none⟩ = some (.int .i64 t) ∧ w'.cell? ⟨W3.heap.size, 0, none⟩ = some (.slice (some ⟨bk, ok, none⟩) N.ends.length ck) ∧ w'.cell? ⟨bn, on + t, none⟩ = some (.int .i64 yt) ∧ w'.cell? ⟨bk, ok + v, none⟩ = some (.int .i64 yv)) [13, 14] (by kernel_rfl) ?_
            refine nameU ?_
            intro W12 HW12
            have hg12 : W11.grownBy W12 none := by rw [HW12.out]; exact grown_drew _
            clear HW12
            have hs12 := hg12.size
            have HF12 := Lib.hid (HF11.out.still hg12); clear HF11
            have NX12 := Lib.hid (IntS.still NX11.out hg12 (by omega)); clear NX11
            have BN12 := Lib.hid (BoxN.still BN11.out hg12); clear BN11
            have BK12 := Lib.hid (BoxN.still BK11.out hg12); clear BK11
            have KN12 := Lib.hid (IntS.still KN11.out hg12 (by omega)); clear KN11
            have SN12 := Lib.hid (IntS.still SN11.out hg12 (by omega)); clear SN11
            have bxe12 := Lib.hid (BoxN.still bxe11.out hg12); clear bxe11
            have hS13 : W12.cell? ⟨W7.heap.size, 0, none⟩ = some (.slice (some ⟨bn, on, none⟩) N.ends.length cn) ∧ W12.cell? ⟨wr.heap.size, 0, none⟩ = some (.int .i64 t) ∧ W12.cell? ⟨W3.heap.size, 0, none⟩ = some (.slice (some ⟨bk, ok, none⟩) N.ends.length ck) ∧ W12.cell? ⟨bn, on + t, none⟩ = some (.int .i64 yt) ∧ W12.cell? ⟨bk, ok + v, none⟩ = some (.int .i64 yv) := ⟨BN12.out.cell 0 (by simp), bxe12.out.cell 0 (by simp), BK12.out.cell 0 (by simp), (by have := (IntS.at_ NX12.out (j := t) (by rw [hkl2]; exact ht)).1; rw [HYT.out] at this; exact this), (by have := (IntS.at_ KN12.out (j := v) (by rw [hkl]; exact hv)).1; rw [HYV.out] at this; exact this)⟩
            refine anyU_take (i := 0) (v := .slice (some ⟨bn, on, none⟩) N.ends.length cn) rfl (by kernel_rfl) (by kernel_rfl) (by kernel_rfl) (fun _ _ _ h => h) ⟨by rfl, fun w' hS' => (by obtain ⟨s1, s2, s3, s4, s5⟩ := hS'; go_simp)⟩ hS13 ?_
            simp only [List.getElem_toArray, List.getElem_cons_zero, Act.put, List.setIfInBounds_toArray, List.set_cons_zero, List.set_cons_succ]
            refine anyU_take (i := 1) (v := .pointer (some ⟨wr.heap.size, 0, none⟩)) rfl (by kernel_rfl) (by kernel_rfl) (by kernel_rfl) (fun _ _ _ h => h) ⟨by rfl, fun w' hS' => (by obtain ⟨s1, s2, s3, s4, s5⟩ := hS'; go_simp)⟩ hS13 ?_
            simp only [List.getElem_toArray, List.getElem_cons_succ, List.getElem_cons_zero, Act.put, List.setIfInBounds_toArray, List.set_cons_zero, List.set_cons_succ]
            refine anyU_take (i := 2) (v := .int .i64 t) rfl (by kernel_rfl) (by kernel_rfl) (by kernel_rfl) (fun _ _ _ h => h) ⟨by rfl, fun w' hS' => (by obtain ⟨s1, s2, s3, s4, s5⟩ := hS'; go_simp)⟩ hS13 ?_
            simp only [List.getElem_toArray, List.getElem_cons_succ, List.getElem_cons_zero, Act.put, List.setIfInBounds_toArray, List.set_cons_zero, List.set_cons_succ]
            refine anyU_take (i := 3) (v := .slice (some ⟨bn, on, none⟩) N.ends.length cn) rfl (by kernel_rfl) (by kernel_rfl) (by kernel_rfl) (fun _ _ _ h => h) ⟨by rfl, fun w' hS' => (by obtain ⟨s1, s2, s3, s4, s5⟩ := hS'; go_simp)⟩ hS13 ?_
            simp only [List.getElem_toArray, List.getElem_cons_succ, List.getElem_cons_zero, Act.put, List.setIfInBounds_toArray, List.set_cons_zero, List.set_cons_succ]
            refine anyU_take (i := 4) (v := .pointer (some ⟨wr.heap.size, 0, none⟩)) rfl (by kernel_rfl) (by kernel_rfl) (by kernel_rfl) (fun _ _ _ h => h) ⟨by rfl, fun w' hS' => (by obtain ⟨s1, s2, s3, s4, s5⟩ := hS'; go_simp)⟩ hS13 ?_
            simp only [List.getElem_toArray, List.getElem_cons_succ, List.getElem_cons_zero, Act.put, List.setIfInBounds_toArray, List.set_cons_zero, List.set_cons_succ]
            refine anyU_take (i := 5) (v := .int .i64 t) rfl (by kernel_rfl) (by kernel_rfl) (by kernel_rfl) (fun _ _ _ h => h) ⟨by rfl, fun w' hS' => (by obtain ⟨s1, s2, s3, s4, s5⟩ := hS'; go_simp)⟩ hS13 ?_
            simp only [List.getElem_toArray, List.getElem_cons_succ, List.getElem_cons_zero, Act.put, List.setIfInBounds_toArray, List.set_cons_zero, List.set_cons_succ]
            refine anyU_take (i := 6) (v := .pointer (some ⟨bn, on + t, none⟩)) rfl (by kernel_rfl) (by kernel_rfl) (by kernel_rfl) (fun _ _ _ h => h) ⟨by rfl, fun w' hS' => (by obtain ⟨s1, s2, s3, s4, s5⟩ := hS'; simp [go_sem, hti])⟩ hS13 ?_
            simp only [List.getElem_toArray, List.getElem_cons_succ, List.getElem_cons_zero, Act.put, List.setIfInBounds_toArray, List.set_cons_zero, List.set_cons_succ]
            refine anyU_take (i := 7) (v := .int .i64 yt) rfl (by kernel_rfl) (by kernel_rfl) (by kernel_rfl) (fun _ _ _ h => h) ⟨by rfl, fun w' hS' => (by obtain ⟨s1, s2, s3, s4, s5⟩ := hS'; go_simp)⟩ hS13 ?_
            simp only [List.getElem_toArray, List.getElem_cons_succ, List.getElem_cons_zero, Act.put, List.setIfInBounds_toArray, List.set_cons_zero, List.set_cons_succ]
            refine anyU_take (i := 8) (v := .slice (some ⟨bk, ok, none⟩) N.ends.length ck) rfl (by kernel_rfl) (by kernel_rfl) (by kernel_rfl) (fun _ _ _ h => h) ⟨by rfl, fun w' hS' => (by obtain ⟨s1, s2, s3, s4, s5⟩ := hS'; go_simp)⟩ hS13 ?_
            simp only [List.getElem_toArray, List.getElem_cons_succ, List.getElem_cons_zero, Act.put, List.setIfInBounds_toArray, List.set_cons_zero, List.set_cons_succ]
            refine anyU_take (i := 9) (v := .int .i64 v) rfl (by kernel_rfl) (by kernel_rfl) (by kernel_rfl) (fun _ _ _ h => h) ⟨by rfl, fun w' hS' => (by obtain ⟨s1, s2, s3, s4, s5⟩ := hS'; go_simp)⟩ hS13 ?_
            simp only [List.getElem_toArray, List.getElem_cons_succ, List.getElem_cons_zero, Act.put, List.setIfInBounds_toArray, List.set_cons_zero, List.set_cons_succ]
            refine anyU_take (i := 10) (v := .pointer (some ⟨bk, ok + v, none⟩)) rfl (by kernel_rfl) (by kernel_rfl) (by kernel_rfl) (fun _ _ _ h => h) ⟨by rfl, fun w' hS' => (by obtain ⟨s1, s2, s3, s4, s5⟩ := hS'; simp [go_sem, hvk])⟩ hS13 ?_
            simp only [List.getElem_toArray, List.getElem_cons_succ, List.getElem_cons_zero, Act.put, List.setIfInBounds_toArray, List.set_cons_zero, List.set_cons_succ]
            refine anyU_take (i := 11) (v := .int .i64 yv) rfl (by kernel_rfl) (by kernel_rfl) (by kernel_rfl) (fun _ _ _ h => h) ⟨by rfl, fun w' hS' => (by obtain ⟨s1, s2, s3, s4, s5⟩ := hS'; go_simp)⟩ hS13 ?_
            simp only [List.getElem_toArray, List.getElem_cons_succ, List.getElem_cons_zero, Act.put, List.setIfInBounds_toArray, List.set_cons_zero, List.set_cons_succ]
            refine anyU_take (i := 12) (v := .int .i64 mn) rfl (by kernel_rfl) (by kernel_rfl) (by kernel_rfl) (fun _ _ _ h => h) ⟨by rfl, fun w' hS' => (by obtain ⟨s1, s2, s3, s4, s5⟩ := hS'; simp [go_sem, HMN.out])⟩ hS13 ?_
            simp only [List.getElem_toArray, List.getElem_cons_succ, List.getElem_cons_zero, Act.put, List.setIfInBounds_toArray, List.set_cons_zero, List.set_cons_succ]
            refine anyU_ready (rs := [13]) (by kernel_rfl) (by simp) ?_
            refine ReadyU.cons (i := 13) rfl (fun K hK => ?_) ReadyU.nil
            simp only [List.getElem_toArray, List.getElem_cons_succ, List.getElem_cons_zero]
            refine ite_is (by rfl) ?_
            simp [go_sem, hti]
            refine hK.out _ _ ⟨fun h => absurd h (by decide), ?_⟩
            clear hK K
            try simp only [List.getElem_toArray, List.getElem_cons_succ, List.getElem_cons_zero, Act.put, List.setIfInBounds_toArray, List.set_cons_zero, List.set_cons_succ]
            have x3d : W12.cell? ⟨bn, on + t, none⟩ = some (.int .i64 yt) := by have := (IntS.at_ NX12.out (j := t) (by rw [hkl2]; exact ht)).1; rw [HYT.out] at this; exact this
            have x3e := (IntS.at_ NX12.out (j := t) (by rw [hkl2]; exact ht)).2
            have HSX := Lib.hid (IntS.set NX12.out (j := t) (by rw [hkl2]; exact ht) mn)
            refine anyU_ready (rs := [14]) (by kernel_rfl) (by simp) ?_
            refine ReadyU.cons (i := 14) rfl (fun K hK => ?_) ReadyU.nil
            simp only [List.getElem_toArray, List.getElem_cons_succ, List.getElem_cons_zero]
            refine ite_is (by rfl) ?_
            simp [go_sem, x3d, x3e]
            refine hK.out _ _ ⟨fun h => absurd h (by decide), ?_⟩
            clear hK K
            try simp only [List.getElem_toArray, List.getElem_cons_succ, List.getElem_cons_zero, Act.put, List.setIfInBounds_toArray, List.set_cons_zero, List.set_cons_succ]
            refine nameU ?_
            intro W14 HW14
            have hg14 : W12.grownBy W14 (some bn) := by rw [HW14.out]; exact grown_set _ _ _
            have hs14 := hg14.size
            have HF14 := Lib.hid (HF12.out.grown hg14 (fun g hg => by cases hg; omega)); clear HF12
            have BN14 := Lib.hid (BoxN.far BN12.out hg14 (fun g hg => by cases hg; omega)); clear BN12
            have BK14 := Lib.hid (BoxN.far BK12.out hg14 (fun g hg => by cases hg; omega)); clear BK12
            have KN14 := Lib.hid (IntS.far KN12.out hg14 (by omega) (fun g hg => by cases hg; omega)); clear KN12
            have SN14 := Lib.hid (IntS.far SN12.out hg14 (by omega) (fun g hg => by cases hg; omega)); clear SN12
            have bxe14 := Lib.hid (BoxN.far bxe12.out hg14 (fun g hg => by cases hg; omega)); clear bxe12
            have HNN : Hid (IntS W14 wq.heap.size W7.heap.size (.slice (some ⟨bn, on, none⟩) N.ends.length cn) (tellK N kn v (tellA N kn (sndOf N.ends.length p) a) (i + 1))) := by rw [HW14.out, HTK.out]; exact HSX
            clear HW14 HSX x3d x3e NX12
            clear hS13
            refine anyU_done (by kernel_rfl) ?_ _
            go_wp2_with fail
            go_roundw
            case rel => exact ⟨i + 1, by omega, by go_num, by go_num, HNN, BN14, BK14, KN14, SN14, by omega, HF14⟩
            case measure => simp [intOf]; omega
        obtain rfl : a = (sndOf N.ends.length p).length := by omega
        obtain ⟨sn, HSE⟩ : ∃ y, Hid (elSent N (sndOf N.ends.length p) = y) := ⟨_, Lib.hid rfl⟩
        have hse : elSentA N (sndOf N.ends.length p) (sndOf N.ends.length p).length = sn := HSE.out
        rw [hse] at hea ⊢
        clear hse
        have kbk : wr.cell? ⟨W3.heap.size, 0, none⟩ = some (.slice (some ⟨bk, ok, none⟩) N.ends.length ck) := HBK.out.cell 0 (by simp)
        by_cases hs0 : sn = 0
        case pos =>
          have hs0' : ((sn : Int) == 0) = true := by simp; exact hs0
          have HST := Lib.hid (HT.out.stop (by rw [HSE.out]; exact hs0))
          have HSM := Lib.hid (HT.out.same HG.out HC.out (by rw [HSE.out]; exact hs0))
          have HMIN := Lib.hid (show Lib.minOf (kn.take N.ends.length) = nth kn 0 by
            rw [← hkl, List.take_length]
            refine minOf_all (by omega) fun y hy => ?_
            obtain ⟨j, hj, ej⟩ := List.mem_iff_getElem.1 hy
            have := HSM.out j (by omega)
            rw [nth_eq hj, ej] at this
            exact this)
          clear hs0
          go_wp2_with (go_at_call 74; refine (Try.slices_Min_int bk ok N.ends.length ck kn wr (by omega) (by omega) (by omega) (fun j hj => (IntS.at_ HKN.out hj).1)).mono ?_; rintro e w' ⟨rfl, rfl⟩; rw [HMIN.out])
          ((try simp only [Exit.inBlock, Exit.then]); refine bodyPost_ret (results_tmp4 rfl _ _ _) rfl ?_)
          exact ⟨ret_iiib' (by rw [(elYes HOK.out).1, HST.out]) (by rw [(elYes HOK.out).2.1, HST.out]) (by rw [(elYes HOK.out).2.2, HST.out]) HOK.out.symm, (HF9.out.below_of hbA (by omega) (by omega))⟩
        have hs0' : ((sn : Int) == 0) = false := by simp; exact hs0
        have HT2 := Lib.hid (HT.out.step HG.out (by rw [HSE.out]; exact hs0))
        rw [HSE.out] at HT2
        have hNX : Hid (IntS wr wq.heap.size W7.heap.size (.slice (some ⟨bn, on, none⟩) N.ends.length cn) (elNext N kn (sndOf N.ends.length p))) := HNX
        have hle := Lib.hid (next_ok HG.out HT.out.el p).2.1
        have hxl := (next_ok HG.out HT.out.el p).1.len
        obtain ⟨nx, HX⟩ : ∃ l, Hid (elNext N kn (sndOf N.ends.length p) = l) := ⟨_, Lib.hid rfl⟩
        rw [HX.out] at HT2 hNX hle hxl
        have hcap2 := HT2.out.cap
        clear hs0 HNX
        have hmf : ∀ (fn : Fn) (first cap : Array Value) (w : World), (Instr.makeFunc fn first cap).run Try.prog w = .ok (.func fn first cap) w := fun _ _ _ _ => rfl
        go_wp2_with fail
        clear kbk
        refine (numbersTo_any N.ends.length _ (by omega)).mono ?_
        rintro e W15 ⟨rs, rfl, hrs, hb15⟩
        have hg15 := grown_below hb15; clear hb15
        have hs15 := hg15.size
        have HF15 := Lib.hid (HF9.out.still hg15); clear HF9
        have NX15 := Lib.hid (IntS.still hNX.out hg15 (by omega)); clear hNX
        have BN15 := Lib.hid (BoxN.still HBN.out hg15); clear HBN
        have BK15 := Lib.hid (BoxN.still HBK.out hg15); clear HBK
        have KN15 := Lib.hid (IntS.still HKN.out hg15 (by omega)); clear HKN
        have SN15 := Lib.hid (IntS.still HSN.out hg15 (by omega)); clear HSN
        have S215 := Lib.hid hrs; clear hrs
        obtain ⟨A2, c2, rfl, hc2, hd2⟩ := S215.out.dims
        rw [upTo_length] at hc2 ⊢
        have n1x := NX15
        have n2x := KN15
        have n3x := BN15
        have n4x := BK15
        have HDF := Lib.hid (DeleteFunc_int 76 #[.pointer (some ⟨W7.heap.size, 0, none⟩), .pointer (some ⟨W3.heap.size, 0, none⟩)] (enters_of Try.func76 (by kernel_rfl) rfl) (fun x => nth nx x.toNat == nth kn x.toNat) _ (upTo N.ends.length) _ _ _ S215.out (Nat.le_refl _) (by rw [upTo_length]; omega) (fun x hx W hW => by
          obtain ⟨j, hj, rfl⟩ := upTo_node hx
          exact elect1_any j W7.heap.size W3.heap.size nx kn N.ends.length bn on cn bk ok ck wq.heap.size W7.heap.size lk hk W ((hW.boxN n3x.out (by omega)).cell 0 (by simp)) ((hW.boxN n4x.out (by omega)).cell 0 (by simp)) (IntS.turned n1x.out hW (by omega) (by omega)) (IntS.turned n2x.out hW (by omega) (by omega)) (by omega) (by omega) hj))
        rw [upTo_length] at HDF
        go_wp2_with fail
        refine HDF.out.mono ?_
        rintro e W16 ⟨r2, rfl, hr2, ht2⟩
        clear HDF n1x n2x n3x n4x
        have hsz2 := ht2.size
        have HSND := Lib.hid (show IntS W16 wr.heap.size W15.heap.size r2 (sndOf N.ends.length (freshP kn nx)) by have := hr2; rw [fresh_eq hle.out] at this; exact this)
        clear hr2
        obtain ⟨A3, c3, rfl, hc3, hd3⟩ := HSND.out.dims
        have NXb := Lib.hid (IntS.turned NX15.out ht2 (by omega) (by omega))
        have KNb := Lib.hid (IntS.turned KN15.out ht2 (by omega) (by omega))
        have BNb := Lib.hid (ht2.boxN BN15.out (by omega))
        have BKb := Lib.hid (ht2.boxN BK15.out (by omega))
        have HFb := Lib.hid (HF15.out.beyond ht2 (by omega))
        clear ht2
        have kbn : W16.cell? ⟨W7.heap.size, 0, none⟩ = some (.slice (some ⟨bn, on, none⟩) N.ends.length cn) := BNb.out.cell 0 (by simp)
        have kbk : W16.cell? ⟨W3.heap.size, 0, none⟩ = some (.slice (some ⟨bk, ok, none⟩) N.ends.length ck) := BKb.out.cell 0 (by simp)
        have kbf := BKb.out.frozen 0
        have HBK2 := Lib.hid (BKb.out.set 0 (.slice (some ⟨bn, on, none⟩) N.ends.length cn))
        have hgs := grown_set W16 ⟨W3.heap.size, 0, none⟩ (.slice (some ⟨bn, on, none⟩) N.ends.length cn)
        have NXc := Lib.hid (IntS.far NXb.out hgs (by omega) (fun g hg => by injection hg with hg; subst hg; show W3.heap.size < _ ∨ _ ≤ W3.heap.size; omega))
        have SNc := Lib.hid (IntS.far HSND.out hgs (by omega) (fun g hg => by injection hg with hg; subst hg; show W3.heap.size < _ ∨ _ ≤ W3.heap.size; omega))
        have HFc := Lib.hid (HFb.out.grown hgs (fun g hg => by injection hg with hg; subst hg; right; show _ ≤ W3.heap.size; omega))
        go_wp2_with fail
        go_roundw
        case rel => exact ⟨r + 1, m + sn, wq.heap.size, W7.heap.size, wr.heap.size, W15.heap.size, freshP kn nx, nx, .slice (some ⟨bn, on, none⟩) N.ends.length cn, by go_num, by go_num, HBK2, NXc, by rw [size_setCell]; omega, by omega, SNc, by rw [size_setCell]; omega, by omega, HT2, by rw [size_setCell]; omega, HFc⟩
        case measure => simp [intOf]; omega

end Go.Proofs.Ytoebgfmnjjiddaa
