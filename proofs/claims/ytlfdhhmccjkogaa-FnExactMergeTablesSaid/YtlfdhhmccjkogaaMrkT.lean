/-
  The law's helpers that mark a table's rows and find the marks again.
-/
import Derived.Test.YtlfdhhmccjkogaaTab2
import Derived.Test.YtlfdhhmccjkogaaTxQ
namespace Go.Proofs.Ytlfdhhmccjkogaa
open Go.ChangeShapes Go.WideShapes Go.ChangeAt Go.RowKit
set_option linter.unusedVariables false

/-- the digits of n ahead of s -/
def mGo : Nat → Nat → List UInt8 → List UInt8
  | 0, _, s => s
  | f + 1, n, s => if n = 0 then s else mGo f (n / 10) (dig (n % 10) :: s)
theorem mGo_zero (f : Nat) (s : List UInt8) : mGo f 0 s = s := by cases f <;> simp [mGo]
theorem mGo_succ {f n : Nat} {s : List UInt8} (h : n ≠ 0) : mGo (f + 1) n s = mGo f (n / 10) (dig (n % 10) :: s) := by rw [mGo, if_neg h]
/-- the text that marks a row -/
def mTx (k : Nat) : ByteArray := strL (109 :: mGo k k [])
theorem add_strM {P : Program} {a b c : List UInt8} {s r : ByteArray} (hs : s = strL a) (hr : r = strL b) (h : a.length + b.length ≤ 8388608) (hc : a ++ b = c) (w : World) : (Op.stringOp .add s r).run P w = .ok (.string (strL c)) w := by
  subst hc; subst hs; subst hr
  exact run_string_add_lists w a b (by omega) (by omega)
theorem ret_str' {a b : ByteArray} (h : b = a) : Ending.returned (.string a) = .returned (.string b) := by rw [h]

set_option maxHeartbeats 4000000 in
set_option maxRecDepth 100000 in
theorem markText_any (K : Nat) (w : World) (h0 : 0 < K) (h1 : K ≤ 8388000) :
    Calls Try.prog 38 #[.int .i64 K] w fun e w' => e = .returned (.string (mTx K)) ∧ Below w.heap.size w w' := by
  go_enter Try.func38, Try.ntmps38
  go_wp2
  go_loopw [0, 3] (fun kv out wr => ∃ (n : Nat) (s : List UInt8) (f : Nat), kv = .int .i64 n ∧ out = .string (strL s) ∧ Hid (mGo f n s = mGo K K []) ∧ n ≤ f ∧ s.length + f = K ∧ Below w.heap.size w wr) (fun kv _ _ => (intOf kv).toNat)
  case atStart => exact ⟨K, [], K, rfl, rfl, Lib.hid rfl, Nat.le_refl _, by simp, Below.refl _ _⟩
  case round =>
    obtain ⟨n, s, f, rfl, rfl, HG, hnf, hsf, hb⟩ := hrel
    by_cases hn : 0 < n
    · obtain ⟨f, rfl⟩ : ∃ f', f = f' + 1 := ⟨f - 1, by omega⟩
      obtain ⟨q, HQ⟩ : ∃ q, Hid (n / 10 = q) := ⟨_, Lib.hid rfl⟩
      obtain ⟨r, HR⟩ : ∃ q, Hid (n % 10 = q) := ⟨_, Lib.hid rfl⟩
      have HG2 := Lib.hid (show mGo f q (dig r :: s) = mGo K K [] by rw [← HG.out, mGo_succ (by omega), HQ.out, HR.out])
      have hr9 : r ≤ 9 := by rw [← HR.out]; omega
      have hq9 : q < n ∧ q ≤ f := by rw [← HQ.out]; omega
      have hdr := dig_nat hr9
      have htd : Int.tdiv (n : Int) 10 = (q : Int) := by rw [← HQ.out]; exact Int.ofNat_tdiv n 10
      have htm : Int.tmod (n : Int) 10 = (r : Int) := by rw [← HR.out]; exact Int.ofNat_tmod n 10
      have hwq : IntKind.i64.wrap (q : Int) = (q : Int) := IntWalk.i64_in _ (by omega)
      have hwr : IntKind.i64.wrap (48 + (r : Int)) = 48 + (r : Int) := IntWalk.i64_in _ (by omega)
      have hw8 : IntKind.u8.wrap (48 + (r : Int)) = 48 + (r : Int) := by simp [IntKind.wrap, IntKind.signed, IntKind.bits]; omega
      have hconv : ∀ (W : World) (g : Nat), W.cell? ⟨g, 0, none⟩ = some (.int .u8 (48 + (r : Int))) → (convert 87 9 (.slice (some ⟨g, 0, none⟩) 1 1)).run Try.prog W = .ok (.string (strL [dig r])) W := fun W g hc =>
        run_convert_bytes_back _ 87 9 5 ⟨g, 0, none⟩ 1 [dig r] Try.underlying87 Try.underlying5 Try.underlying9 (fun j hj => by
          obtain rfl : j = 0 := by simp at hj; omega
          simp only [List.getElem_cons_zero, hdr]
          rw [show (⟨g, 0, none⟩ : Addr).add 0 = ⟨g, 0, none⟩ from rfl, hc]
          simp)
      have add9 := fun w => add_strM (P := Try.prog) (a := [dig r]) (b := s) (c := dig r :: s) rfl rfl (by simp; omega) rfl w
      go_wp2_with fail
      go_roundw
      case rel => exact ⟨q, dig r :: s, f, by go_num, rfl, HG2, hq9.2, by simp; omega, hb.alloc hb.size _⟩
      case measure => simp [intOf]; omega
    · obtain rfl : n = 0 := by omega
      have HG2 := Lib.hid (show s = mGo K K [] by rw [← HG.out, mGo_zero])
      have add8 := fun w => add_strM (P := Try.prog) (a := [109]) (b := s) (c := 109 :: s) (s := ⟨#[109]⟩) rfl rfl (by simp; omega) rfl w
      go_wp2_with fail
      go_ret
      exact ⟨ret_str' (by unfold mTx; rw [HG2.out]), hb⟩

/-- rows with their marks -/
def mRowS (k : Nat) (n : Nat) : List (ByteArray × Int) := (List.range n).map fun i => (mTx (k + 2 * i), ((k + 2 * i + 1 : Nat) : Int))
theorem mRowS_len (k n : Nat) : (mRowS k n).length = n := by simp [mRowS]
theorem nth_mRowS {k n i : Nat} (h : i < n) : nthR (mRowS k n) i = (mTx (k + 2 * i), ((k + 2 * i + 1 : Nat) : Int)) := by
  rw [nthR_eq (by rw [mRowS_len]; exact h)]
  simp [mRowS]
def TabD.mk_ (T : TabD) (k : Int) : TabD := ⟨T.depth, mRowS k.toNat T.rows.length⟩
def TabD.cnt (T : TabD) : Nat := 2 * T.rows.length
theorem TabD.cnt_le (T : TabD) : T.cnt ≤ 2 * T.sz := by unfold TabD.cnt TabD.sz szR; omega

/-- what a marked row's cells hold -/
def mCell (k j : Nat) : Value := if j % 2 = 0 then .string (mTx (k + j)) else .int .i64 ((k + j : Nat) : Int)
theorem mCell_row {k n j : Nat} (h : j < n * 2) : rowCell (mRowS k n) j = mCell k j := by
  unfold rowCell mCell
  rw [nth_mRowS (by omega)]
  split
  · rw [show k + 2 * (j / 2) = k + j by omega]
  · rw [show k + 2 * (j / 2) + 1 = k + j by omega]

set_option maxHeartbeats 4000000 in
set_option maxRecDepth 100000 in
theorem markRowS_any (v : Value) (zs : List (ByteArray × Int)) (k : Int) (lo hi : Nat) (w : World) (h : RowS w lo hi v zs) (hhi : hi ≤ w.heap.size) (hk0 : 0 < k) (hk1 : k ≤ 4200000) (hn : 2 * zs.length ≤ 4180000) :
    Calls Try.prog 20 #[v, .int .i64 k] w fun e w' => e = .returned (.int .i64 (k + (2 * zs.length : Nat))) ∧ RowS w' lo hi v (mRowS k.toNat zs.length) ∧ Turned lo hi w w' := by
  obtain ⟨K, rfl⟩ : ∃ K : Nat, k = K := ⟨k.toNat, by omega⟩
  obtain ⟨A, c, rfl, hc1, hc2, hcell⟩ := h.form
  have HC := Lib.hid hcell
  have HR := Lib.hid h
  clear hcell h
  obtain ⟨n, HN⟩ : ∃ n, Hid (zs.length = n) := ⟨_, Lib.hid rfl⟩
  rw [HN.out] at hc1 hn HC HR ⊢
  unfold maxLen at hc2
  go_enter Try.func20, Try.ntmps20
  go_wp2
  go_loopw [5, 1] (fun i kv wr => ∃ m : Nat, m ≤ n ∧ i = .int .i64 m ∧ kv = .int .i64 ((K + 2 * m : Nat) : Int) ∧ Hid (Sl wr lo hi 2 (.slice A n c) n (fun j => if j < m * 2 then mCell K j else rowCell zs j)) ∧ Hid (Turned lo hi w wr)) (fun i _ _ => n - (intOf i).toNat)
  case atStart => exact ⟨0, Nat.zero_le _, rfl, by simp, Lib.hid (by have := HR.out; unfold RowS at this; rw [HN.out] at this; exact this.congr fun j _ => by simp), Lib.hid (Turned.refl _ _ _)⟩
  case round =>
    obtain ⟨m, hm, rfl, rfl, HS, HT⟩ := hrel
    have hsr := HT.out.size
    by_cases hlt : m < n
    · obtain ⟨b, off, rfl, hb1, hb2, _⟩ := HC.out (by omega)
      obtain ⟨kk, HK⟩ : ∃ kk : Nat, Hid (K + 2 * m = kk) := ⟨_, Lib.hid rfl⟩
      rw [HK.out]
      have hkk : 0 < kk ∧ kk ≤ 8387000 := by rw [← HK.out]; omega
      have hw1 : IntKind.i64.wrap ((kk : Int) + 1) = (kk : Int) + 1 := IntWalk.i64_in _ (by omega)
      have hw2 : IntKind.i64.wrap ((kk : Int) + 1 + 1) = (kk : Int) + 1 + 1 := IntWalk.i64_in _ (by omega)
      go_wp2_with fail
      refine (markText_any kk _ hkk.1 (by omega)).mono ?_
      rintro e w1 ⟨rfl, hb1'⟩
      have HS1 := Lib.hid (HS.out.below hb1' (by omega))
      have HT1 := Lib.hid (HT.out.trans (Turned.of_below hb1' (Nat.le_refl _)))
      clear hb1'
      obtain ⟨hck, hfk⟩ := HS1.out.at_ (j := m * 2) (by omega)
      obtain ⟨hck', hfk'⟩ := HS1.out.at_ (j := m * 2 + 1) (by omega)
      rw [← Nat.add_assoc] at hck' hfk'
      have hcx : (w1.setCell ⟨b, off + m * 2, none⟩ (.string (mTx kk))).cell? ⟨b, off + m * 2 + 1, none⟩ = some (if m * 2 + 1 < m * 2 then mCell K (m * 2 + 1) else rowCell zs (m * 2 + 1)) := by
        rw [World.cell?_setCell_other _ _ _ _ (by intro e; injection e with _ e _; omega)]; exact hck'
      go_wp2_with fail
      go_roundw
      case rel =>
        refine ⟨m + 1, by omega, by go_num, by rw [← HK.out]; go_num, Lib.hid ?_, Lib.hid ((HT1.out.setCell (p := ⟨b, _, none⟩) hb1 hb2 _).setCell (p := ⟨b, _, none⟩) hb1 hb2 _)⟩
        have h2 := (HS1.out.set (j := m * 2) (by omega) (.string (mTx kk))).set (j := m * 2 + 1) (by omega) (.int .i64 ((kk : Int) + 1))
        rw [← Nat.add_assoc] at h2
        refine h2.congr fun j hj => ?_
        by_cases e : j = m * 2 + 1
        · subst e; rw [if_pos rfl, if_pos (by omega)]; unfold mCell; rw [if_neg (by omega), ← HK.out]; congr 1; omega
        · rw [if_neg e]
          by_cases e1 : j = m * 2
          · subst e1; rw [if_pos rfl, if_pos (by omega)]; unfold mCell; rw [if_pos (by omega), ← HK.out]; congr 2; omega
          · rw [if_neg e1]
            by_cases e2 : j < m * 2
            · rw [if_pos e2, if_pos (by omega)]
            · rw [if_neg e2, if_neg (by omega)]
      case measure => simp [intOf]; omega
    · obtain rfl : m = n := by omega
      go_wp2_with fail
      go_ret
      refine ⟨ret_int (by omega), ?_, HT.out⟩
      unfold RowS
      rw [mRowS_len, Int.toNat_natCast]
      exact HS.out.congr fun j hj => by rw [if_pos hj, mCell_row hj]

set_option maxHeartbeats 4000000 in
set_option maxRecDepth 100000 in
theorem heldRowS_yes (v : Value) (K n : Nat) (lo hi : Nat) (w : World) (h : RowS w lo hi v (mRowS K n)) (hhi : hi ≤ w.heap.size) (hk0 : 0 < K) (hk1 : K ≤ 4200000) (hn : 2 * n ≤ 4180000) :
    Calls Try.prog 21 #[v, .int .i64 K] w fun e w' => e = .returned (.int .i64 ((K : Int) + (2 * n : Nat))) ∧ Below w.heap.size w w' := by
  obtain ⟨A, c, rfl, hc1, hc2, hcell⟩ := h.form
  rw [mRowS_len] at hc1 hcell ⊢
  have HC := Lib.hid hcell
  clear hcell h
  unfold maxLen at hc2
  go_enter Try.func21, Try.ntmps21
  go_wp2
  go_loopw [5, 1] (fun i kv wr => ∃ m : Nat, m ≤ n ∧ i = .int .i64 m ∧ kv = .int .i64 ((K + 2 * m : Nat) : Int) ∧ Hid (Below w.heap.size w wr)) (fun i _ _ => n - (intOf i).toNat)
  case atStart => exact ⟨0, Nat.zero_le _, rfl, by simp, Lib.hid (Below.refl _ _)⟩
  case round =>
    obtain ⟨m, hm, rfl, rfl, HB⟩ := hrel
    have hsr := HB.out.size
    by_cases hlt : m < n
    · obtain ⟨b, off, rfl, hb1, hb2, hcs⟩ := HC.out (by omega)
      obtain ⟨kk, HK⟩ : ∃ kk : Nat, Hid (K + 2 * m = kk) := ⟨_, Lib.hid rfl⟩
      obtain ⟨x1, x2⟩ := hcs m hlt
      rw [nth_mRowS hlt, HK.out] at x1 x2
      rw [HK.out]
      have hkk : 0 < kk ∧ kk ≤ 8387000 := by rw [← HK.out]; omega
      have hw1 : IntKind.i64.wrap ((kk : Int) + 1) = (kk : Int) + 1 := IntWalk.i64_in _ (by omega)
      have hw2 : IntKind.i64.wrap ((kk : Int) + 1 + 1) = (kk : Int) + 1 + 1 := IntWalk.i64_in _ (by omega)
      have p1 := (HB.out.cell (p := ⟨b, off + m * 2, none⟩) (by show b < _; omega)).trans x1
      clear hcs x1
      have e1 := ext_cell wr (a := ⟨b, off + m * 2, none⟩) (by show b < _; omega) p1
      clear p1
      simp only at e1
      obtain ⟨tx, HTX⟩ : ∃ tx, Hid (mTx kk = tx) := ⟨_, Lib.hid rfl⟩
      rw [HTX.out] at e1
      have MT : ∀ W : World, Calls Try.prog 38 #[.int .i64 kk] W fun e w' => e = .returned (.string tx) ∧ Below W.heap.size W w' := fun W => by
        have := markText_any kk W hkk.1 (by omega)
        rw [HTX.out] at this
        exact this
      go_upto_region 4 with fail
      refine wp_region_ext (by kernel_rfl) (by kernel_rfl) ?_
      repeat (go_big_quiet_step ((go_at_call 38; exact ext_call (MT _))))
      refine wpQuiet_nil ?_
      intro _ hw'
      obtain ⟨px, hw''⟩ := hw'
      subst hw''
      clear e1
      have p2 := ext_cell wr (a := ⟨b, off + m * 2 + 1, none⟩) (by show b < _; omega) ((HB.out.cell (p := ⟨b, off + m * 2 + 1, none⟩) (by show b < _; omega)).trans x2) px
      have hnk : ((kk : Int) + 1 != (kk : Int) + 1) = false := by simp
      rw [show ((kk + 1 : Nat) : Int) = (kk : Int) + 1 by omega] at p2
      go_wp2_with fail
      go_roundw
      case rel => exact ⟨m + 1, by omega, by go_num, by rw [← HK.out]; go_num, Lib.hid (HB.out.trans ((ext_below _ _).mono hsr))⟩
      case measure => simp [intOf]; omega
    · obtain rfl : m = n := by omega
      go_wp2_with fail
      go_ret
      exact ⟨ret_int (by omega), HB.out⟩

set_option maxHeartbeats 4000000 in
set_option maxRecDepth 100000 in
theorem markTable_any (v : Value) (T : TabD) (k : Int) (lo hi : Nat) (w : World) (h : Tab w lo hi v T) (hhi : hi ≤ w.heap.size) (hk0 : 0 < k) (hk1 : k ≤ 4200000) (hn : T.cnt ≤ 4180000) :
    Calls Try.prog 9 #[v, .int .i64 k] w fun e w' => e = .returned (.int .i64 (k + T.cnt)) ∧ Tab w' lo hi v (T.mk_ k) ∧ Turned lo hi w w' := by
  obtain ⟨A, c, rfl, hr⟩ := h
  have HR := Lib.hid hr
  clear hr
  obtain ⟨n, HN⟩ : ∃ n, Hid (T.rows.length = n) := ⟨_, Lib.hid rfl⟩
  have HCN := Lib.hid (show T.cnt = 2 * n by unfold TabD.cnt; rw [HN.out])
  rw [HCN.out] at hn ⊢
  rw [HN.out] at HR ⊢
  obtain ⟨dd, HD⟩ : ∃ n, Hid (T.depth = n) := ⟨_, Lib.hid rfl⟩
  rw [HD.out]
  go_enter Try.func9, Try.ntmps9
  go_upto_region 1 with fail
  refine nameC ?_
  intro W HW
  have hbW : Below w.heap.size w W := by rw [HW.out]; exact below_a1 _ _
  have hsW : w.heap.size + 1 ≤ W.heap.size := by rw [HW.out]; simp
  have bx : BoxN W w.heap.size #[.int .i64 dd, .slice A n c] 28 := by rw [HW.out]; exact BoxN.new _ _ _
  clear HW
  have b1 : W.cell? ⟨w.heap.size, 1, none⟩ = some (.slice A n c) := bx.cell 1 (by simp)
  have FR := Lib.hid (HR.out.below hbW hhi)
  go_wp2_with fail
  refine (markRowS_any _ T.rows k lo hi _ FR.out (by omega) hk0 hk1 (by rw [HN.out]; exact hn)).mono ?_
  rw [HN.out]
  rintro e w1 ⟨rfl, hr1, ht1⟩
  clear b1
  go_wp2_with fail
  go_ret
  exact ⟨rfl, ⟨A, c, by rw [show (T.mk_ k).rows.length = n by show (mRowS _ _).length = n; rw [mRowS_len, HN.out], ← HD.out]; rfl, by rw [show (T.mk_ k).rows.length = n by show (mRowS _ _).length = n; rw [mRowS_len, HN.out]]; show RowS _ _ _ _ (mRowS _ _); rw [HN.out]; exact hr1⟩, (Turned.of_below hbW (Nat.le_refl _)).trans ht1⟩

set_option maxHeartbeats 4000000 in
set_option maxRecDepth 100000 in
theorem heldTable_yes (v : Value) (T : TabD) (k : Int) (lo hi : Nat) (w : World) (h : Tab w lo hi v (T.mk_ k)) (hhi : hi ≤ w.heap.size) (hk0 : 0 < k) (hk1 : k ≤ 4200000) (hn : T.cnt ≤ 4180000) :
    Calls Try.prog 10 #[v, .int .i64 k] w fun e w' => e = .returned (.int .i64 (k + T.cnt)) ∧ Below w.heap.size w w' := by
  obtain ⟨K, rfl⟩ : ∃ K : Nat, k = K := ⟨k.toNat, by omega⟩
  obtain ⟨A, c, rfl, hr⟩ := h
  obtain ⟨n, HN⟩ : ∃ n, Hid (T.rows.length = n) := ⟨_, Lib.hid rfl⟩
  have HCN := Lib.hid (show T.cnt = 2 * n by unfold TabD.cnt; rw [HN.out])
  rw [HCN.out] at hn ⊢
  rw [show (T.mk_ K).rows = mRowS K n by show mRowS _ _ = _; rw [HN.out, Int.toNat_natCast]] at hr ⊢
  rw [mRowS_len] at hr ⊢
  have HR := Lib.hid hr
  clear hr
  obtain ⟨dd, HD⟩ : ∃ n, Hid ((T.mk_ K).depth = n) := ⟨_, Lib.hid rfl⟩
  rw [HD.out]
  go_enter Try.func10, Try.ntmps10
  go_upto_region 1 with fail
  refine nameC ?_
  intro W HW
  have hbW : Below w.heap.size w W := by rw [HW.out]; exact below_a1 _ _
  have hsW : w.heap.size + 1 ≤ W.heap.size := by rw [HW.out]; simp
  have bx : BoxN W w.heap.size #[.int .i64 dd, .slice A n c] 28 := by rw [HW.out]; exact BoxN.new _ _ _
  clear HW
  have b1 : W.cell? ⟨w.heap.size, 1, none⟩ = some (.slice A n c) := bx.cell 1 (by simp)
  have FR := Lib.hid (HR.out.below hbW hhi)
  go_wp2_with fail
  refine (heldRowS_yes _ K n lo hi _ FR.out (by omega) (by omega) (by omega) hn).mono ?_
  rintro e w1 ⟨rfl, hb1⟩
  clear b1
  have hnn : ¬ (K : Int) + ((2 * n : Nat) : Int) < 0 := by omega
  go_wp2_with fail
  go_ret
  exact ⟨rfl, hbW.trans (hb1.mono (by omega))⟩

end Go.Proofs.Ytlfdhhmccjkogaa
