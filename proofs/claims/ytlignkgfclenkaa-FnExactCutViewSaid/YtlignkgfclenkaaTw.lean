/-
  Contracts of the program's writing of a view's text: write and textTo.
-/
import Derived.Test.YtlignkgfclenkaaTx
import Derived.Test.YtlignkgfclenkaaShelf
import Derived.Deep.RegionHeld3
namespace Go.Proofs.Ytlignkgfclenkaa
open Go.ChangeShapes Go.WideShapes Go.ChangeAt Go.RowKit
set_option linter.unusedVariables false

theorem bc_app1 {l m : List UInt8} {v : List Value} (h : Lib.byteCells m = v) : Lib.byteCells (l ++ m) = Lib.byteCells l ++ v := by rw [Lib.byteCells_append, h]
theorem ne41 : Lib.byteCells [41] = [.int .u8 41] := rfl
set_option maxHeartbeats 4000000 in
set_option maxRecDepth 100000 in
theorem write_any : ∀ (n : Nat) (t : VT) (bt lo hi B b : Nat) (l : List UInt8) (w : World), n ≤ 100 → OkT n t → TreeAt w 77 lo hi t bt → hi ≤ B → Bld w B b (Lib.byteCells l) → l.length + (txt n t).length ≤ 1048576 → B ≤ w.heap.size →
    Calls Try.prog 84 #[.pointer (some ⟨bt, 0, none⟩), .pointer (some ⟨b, 0, none⟩), .int .i64 n] w (fun e w' => e = .returned (.tuple #[]) ∧ Bld1 w' B b (Lib.byteCells (l ++ txt n t)) ∧ Below B w w') := by
  intro n
  induction n with
  | zero =>
    intro t bt lo hi B b l w hn hok ht hhi hb hlen hBw
    obtain ⟨hd, hi9, hpl, hp6⟩ := hok.deg
    have HB := Lib.hid hb; clear hb
    obtain ⟨vp, vq, bs, hlo, hbt, hbx, hip, hsl, hts⟩ := ht.opened
    have k0 : w.cell? ⟨bt, 0, none⟩ = some (.int .i64 t.degree) := hbx.cell 0 (by simp)
    have k1 : w.cell? ⟨bt, 1, none⟩ = some (.int .i64 t.input) := hbx.cell 1 (by simp)
    have K0 : ∀ o, (w.drew.alloc o).cell? ⟨bt, 0, none⟩ = some (.int .i64 t.degree) := fun o => (((Below.refl B w.drew).alloc hBw o).cell (p := ⟨bt, 0, none⟩) (by show bt < B; omega)).trans k0
    have K1 : ∀ o, (w.drew.alloc o).cell? ⟨bt, 1, none⟩ = some (.int .i64 t.input) := fun o => (((Below.refl B w.drew).alloc hBw o).cell (p := ⟨bt, 1, none⟩) (by show bt < B; omega)).trans k1
    have HE := Lib.hid (bc_app1 (l := l) (bc_hd hd hi9))
    have HL := Lib.hid (Lib.byteCells_length l)
    obtain ⟨d, HD⟩ : ∃ d, Hid (t.degree = d) := ⟨_, Lib.hid rfl⟩
    obtain ⟨i, HI⟩ : ∃ d, Hid (t.input = d) := ⟨_, Lib.hid rfl⟩
    rw [HD.out] at k0 K0 HE hd
    rw [HI.out] at k1 K1 HE hi9
    rw [txt_flat (.inl rfl), hdT_len] at hlen
    have HT := Lib.hid (show l ++ txt 0 t = l ++ hdT t by rw [txt_flat (.inl rfl)])
    clear hbx hip hsl hts ht hok hpl hp6
    go_enter Try.func84, Try.ntmps84
    go_wp2_with fail
    go_region_held3 (fun w' => w'.cell? ⟨bt, 0, none⟩ = some (.int .i64 d) ∧ w'.cell? ⟨bt, 1, none⟩ = some (.int .i64 i))
      (first | exact ⟨k0, k1⟩ | exact ⟨K0 _, K1 _⟩ | exact ⟨l0, l1⟩)
      (first | (go_at_call 108; refine (digitB_any _ _ (by omega)).mono ?_; rintro e w' ⟨rfl, rfl⟩) | (go_at_call 107; refine (Write3 B b (Lib.byteCells l) _ _ _ _ _ HB.out.drew (by rw [HL.out]; omega) (by simp; omega)).mono ?_; rintro e w1 ⟨⟨r, rfl⟩, hb1, hbe⟩; have l0 := (hbe.cell (p := ⟨bt, 0, none⟩) (by show bt < B; omega)).trans k0; have l1 := (hbe.cell (p := ⟨bt, 1, none⟩) (by show bt < B; omega)).trans k1))
    rename_i hheld
    clear hheld l0 l1 k0 k1 K0 K1
    have HB1 := Lib.hid hb1
    have HBE := Lib.hid ((Below.refl B w).drew.trans hbe)
    clear hb1 hbe
    go_wp2_with fail
    refine bodyPost_ret (v := .tuple #[]) (by simp [results, Try.results84, go_sem]) rfl ?_
    exact ⟨rfl, by rw [HT.out, HE.out]; exact HB1.out, HBE.out⟩
  | succ n ih =>
    have HIH := Lib.hid ih; clear ih
    intro t bt lo hi B b l w hn hok ht hhi hb hlen hBw
    obtain ⟨hd, hi9, hpl, hp6⟩ := hok.deg
    have HB := Lib.hid hb; clear hb
    obtain ⟨vp, vq, bs, hlo, hbt, hbx, hip, hsl, hts⟩ := ht.opened
    have k0 : w.cell? ⟨bt, 0, none⟩ = some (.int .i64 t.degree) := hbx.cell 0 (by simp)
    have k1 : w.cell? ⟨bt, 1, none⟩ = some (.int .i64 t.input) := hbx.cell 1 (by simp)
    have K0 : ∀ o, (w.drew.alloc o).cell? ⟨bt, 0, none⟩ = some (.int .i64 t.degree) := fun o => (((Below.refl B w.drew).alloc hBw o).cell (p := ⟨bt, 0, none⟩) (by show bt < B; omega)).trans k0
    have K1 : ∀ o, (w.drew.alloc o).cell? ⟨bt, 1, none⟩ = some (.int .i64 t.input) := fun o => (((Below.refl B w.drew).alloc hBw o).cell (p := ⟨bt, 1, none⟩) (by show bt < B; omega)).trans k1
    have HE := Lib.hid (bc_app1 (l := l) (bc_hd hd hi9))
    have HL := Lib.hid (Lib.byteCells_length l)
    obtain ⟨d, HD⟩ : ∃ d, Hid (t.degree = d) := ⟨_, Lib.hid rfl⟩
    obtain ⟨i, HI⟩ : ∃ d, Hid (t.input = d) := ⟨_, Lib.hid rfl⟩
    rw [HD.out] at k0 K0 HE hd
    rw [HI.out] at k1 K1 HE hi9
    have HTS := Lib.hid hts; clear hts
    have HOK := Lib.hid hok
    have HIP := Lib.hid hip
    obtain ⟨A, c, rfl, hc1, hc2, hcell⟩ := hsl
    have HC := Lib.hid hcell; clear hcell
    have k3 : w.cell? ⟨bt, 3, none⟩ = some (.slice A t.parts.length c) := hbx.cell 3 (by simp)
    obtain ⟨m, HM⟩ : ∃ m, Hid (t.parts.length = m) := ⟨_, Lib.hid rfl⟩
    rw [HM.out] at k3 hc1 hp6
    have HPL := Lib.hid (hpl.trans HM.out)
    clear hip ht hok hpl
    have hn0 : (((n + 1 : Nat) : Int) == 0) = false := by simp; omega
    obtain ⟨nn, HNN⟩ : ∃ z : Int, Hid (((n + 1 : Nat) : Int) = z) := ⟨_, Lib.hid rfl⟩
    rw [HNN.out] at hn0 ⊢
    by_cases hm : m = 0
    · have hm' : ((m : Int) == 0) = true := by simp; exact hm
      have HT := Lib.hid (show l ++ txt (n + 1) t = l ++ hdT t by rw [txt_flat (.inr (HM.out.trans hm))])
      rw [txt_flat (.inr (HM.out.trans hm)), hdT_len] at hlen
      have HM0 := Lib.hid hm
      clear hm hbx
      go_enter Try.func84, Try.ntmps84
      go_wp2_with fail
      go_region_held3 (fun w' => w'.cell? ⟨bt, 0, none⟩ = some (.int .i64 d) ∧ w'.cell? ⟨bt, 1, none⟩ = some (.int .i64 i))
        (first | exact ⟨k0, k1⟩ | exact ⟨K0 _, K1 _⟩ | exact ⟨l0, l1⟩)
        (first | (go_at_call 108; refine (digitB_any _ _ (by omega)).mono ?_; rintro e w' ⟨rfl, rfl⟩) | (go_at_call 107; refine (Write3 B b (Lib.byteCells l) _ _ _ _ _ HB.out.drew (by rw [HL.out]; omega) (by simp; omega)).mono ?_; rintro e w1 ⟨⟨r, rfl⟩, hb1, hbe⟩; have l0 := (hbe.cell (p := ⟨bt, 0, none⟩) (by show bt < B; omega)).trans k0; have l1 := (hbe.cell (p := ⟨bt, 1, none⟩) (by show bt < B; omega)).trans k1))
      rename_i hheld
      clear hheld l0 l1 k0 k1 K0 K1
      have HB1 := Lib.hid hb1
      have HBE := Lib.hid ((Below.refl B w).drew.trans hbe)
      clear hb1 hbe
      have k4 := (HBE.out.cell (p := ⟨bt, 3, none⟩) (by show bt < B; omega)).trans k3
      go_wp2_with fail
      refine bodyPost_ret (v := .tuple #[]) (by simp [results, Try.results84, go_sem]) rfl ?_
      exact ⟨rfl, by rw [HT.out, HE.out]; exact HB1.out, HBE.out⟩
    have hm' : ((m : Int) == 0) = false := by simp; exact hm
    have HT := Lib.hid (txt_deep (n := n) (t := t) (by rw [HM.out]; exact hm))
    have HTL := Lib.hid (txt_deep_len (n := n) (t := t) (by rw [HM.out]; exact hm))
    rw [HTL.out, HM.out] at hlen
    obtain ⟨LM, HLM⟩ : ∃ d, Hid ((kids (txt n) t.ports t.parts m).length = d) := ⟨_, Lib.hid rfl⟩
    rw [HLM.out] at hlen
    have k2 : w.cell? ⟨bt, 2, none⟩ = some vp := hbx.cell 2 (by simp)
    obtain ⟨A2, c2, rfl, hc3, hc4, hpc⟩ := HIP.out.form
    rw [HPL.out] at k2 hc3
    have HPC := Lib.hid hpc; clear hpc
    have hm0 : 0 < m := by omega
    clear hm hbx
    unfold maxLen at hc2 hc4
    go_enter Try.func84, Try.ntmps84
    go_wp2_with fail
    go_region_held3 (fun w' => w'.cell? ⟨bt, 0, none⟩ = some (.int .i64 d) ∧ w'.cell? ⟨bt, 1, none⟩ = some (.int .i64 i))
      (first | exact ⟨k0, k1⟩ | exact ⟨K0 _, K1 _⟩ | exact ⟨l0, l1⟩)
      (first | (go_at_call 108; refine (digitB_any _ _ (by omega)).mono ?_; rintro e w' ⟨rfl, rfl⟩) | (go_at_call 107; refine (Write3 B b (Lib.byteCells l) _ _ _ _ _ HB.out.drew (by rw [HL.out]; omega) (by simp; omega)).mono ?_; rintro e w1 ⟨⟨r, rfl⟩, hb1, hbe⟩; have l0 := (hbe.cell (p := ⟨bt, 0, none⟩) (by show bt < B; omega)).trans k0; have l1 := (hbe.cell (p := ⟨bt, 1, none⟩) (by show bt < B; omega)).trans k1))
    rename_i hheld
    clear hheld l0 l1 k0 k1 K0 K1
    have HB1 := Lib.hid hb1
    have HBE := Lib.hid ((Below.refl B w).drew.trans hbe)
    have hs1 := hbe.size
    clear hb1 hbe
    have k4 := (HBE.out.cell (p := ⟨bt, 3, none⟩) (by show bt < B; omega)).trans k3
    go_wp2_with fail
    clear k4
    go_loopw [37, 6] (fun i' c' wr => ∃ (k : Nat) (cb : UInt8), k ≤ m ∧ i' = .int .i64 k ∧ c' = .int .u8 cb.toNat ∧ Hid (cb = if k = 0 then 40 else 44) ∧ Hid (Bld1 wr B b (Lib.byteCells (l ++ hdT t ++ kids (txt n) t.ports t.parts k))) ∧ Hid (Below B w wr)) (fun i' _ _ => m - (intOf i').toNat)
    case atStart => exact ⟨0, 40, Nat.zero_le _, rfl, rfl, Lib.hid (by simp), Lib.hid (by rw [kids, List.append_nil, HE.out]; exact HB1.out), HBE⟩
    case round =>
      clear HB1 HBE hs1
      obtain ⟨k, cb, hk, rfl, rfl, HCB, HB1, HBE⟩ := hrel
      have hs1 := HBE.out.size
      by_cases hlt : k < m
      case neg =>
        obtain rfl : k = m := by omega
        go_wp2_with (go_at_call 109; refine (WriteByte_any B b _ 41 _ (.inr HB1.out) (by rw [Lib.byteCells_length]; simp only [List.length_append, hdT_len]; rw [HLM.out]; omega) (by omega)).mono ?_; rintro e w2 ⟨rfl, hb2, hbe2⟩)
        go_end0
        exact ⟨rfl, by rw [HT.out, HM.out, ← List.append_assoc, ← List.append_assoc, Lib.byteCells_append _ [41]]; exact hb2, HBE.out.trans hbe2⟩
      obtain ⟨bp, op, hA, hbp1, hbp2, hcp⟩ := HC.out (by rw [HM.out]; omega)
      have x1 := (hcp k (by rw [HM.out]; omega)).1
      clear hcp
      subst hA
      obtain ⟨bq, oq, hA, hbq1, hbq2, hcq⟩ := HPC.out (by rw [HPL.out]; omega)
      have x2 := (hcq k (by rw [HPL.out]; omega)).1
      clear hcq
      subst hA
      obtain ⟨a, ha, ha5⟩ := HOK.out.port (j := k) (by rw [HM.out]; exact hlt)
      rw [ha] at x2
      obtain ⟨hkn, hkl⟩ := kids_next (sub := txt n) (ps := t.ports) (ts := t.parts) (m := m) hlt ha
      have HKN := Lib.hid hkn
      rw [HLM.out] at hkl
      obtain ⟨PT, HPT⟩ : ∃ u, Hid (nthT t.parts k = u) := ⟨_, Lib.hid rfl⟩
      rw [HPT.out] at hkl HKN
      rw [← HCB.out] at HKN
      clear hkn ha
      have HOKP := Lib.hid (HPT.out ▸ HOK.out.at_ (j := k) (by rw [HM.out]; exact hlt))
      have HTP := Lib.hid (HPT.out ▸ HTS.out k (by rw [HM.out]; exact hlt))
      obtain ⟨pb, HPB⟩ : ∃ u, Hid (nthN bs k = u) := ⟨_, Lib.hid rfl⟩
      rw [HPB.out] at x1 HTP
      have k1 := (HBE.out.cell (p := ⟨bp, op + k, none⟩) (by show bp < B; omega)).trans x1
      have k0 := (HBE.out.cell (p := ⟨bt, 2, none⟩) (by show bt < B; omega)).trans k2
      have k9 := (HBE.out.cell (p := ⟨bq, oq + k, none⟩) (by show bq < B; omega)).trans x2
      clear x1 x2
      have hlen1 : (l ++ hdT t ++ kids (txt n) t.ports t.parts k).length = l.length + 3 + (kids (txt n) t.ports t.parts k).length := by simp only [List.length_append, hdT_len]
      obtain ⟨L1, HL1⟩ : ∃ u, Hid (l ++ hdT t ++ kids (txt n) t.ports t.parts k = u) := ⟨_, Lib.hid rfl⟩
      obtain ⟨Lk, HLk⟩ : ∃ u, Hid ((kids (txt n) t.ports t.parts k).length = u) := ⟨_, Lib.hid rfl⟩
      rw [HLk.out] at hkl hlen1
      rw [HL1.out] at HB1 hlen1
      have HLB := Lib.hid (Lib.byteCells_length L1)
      have HKD := Lib.hid (bc_kid cb (show a ≤ 9 by omega))
      go_wp2_with (first | (go_at_call 108; refine (digitB_any _ _ (by omega)).mono ?_; rintro e w' ⟨rfl, rfl⟩) | (go_at_call 107; refine (Write3 B b (Lib.byteCells L1) _ _ _ _ _ (.inr HB1.out) (by rw [HLB.out]; omega) (by omega)).mono ?_; rintro e w2 ⟨⟨r, rfl⟩, hb2, hbe2⟩; rw [← HKD.out, ← Lib.byteCells_append] at hb2; have HB2 := Lib.hid hb2; have hbe3 := HBE.out.trans hbe2; have HBE2 := Lib.hid hbe3; have hs2 := hbe3.size; clear hb2 hbe2 hbe3 HB1 HBE k0 k1 k9; have hw1 : IntKind.i64.wrap (nn - 1) = nn - 1 := IntWalk.i64_in _ (by rw [← HNN.out]; omega)) | (go_at_call 84; have HCALL := Lib.hid (show Calls Try.prog 84 #[.pointer (some ⟨pb, 0, none⟩), .pointer (some ⟨b, 0, none⟩), .int .i64 (nn - 1)] w2 (fun e w' => e = .returned (.tuple #[]) ∧ Bld1 w' B b (Lib.byteCells (L1 ++ [cb, dig a, 58] ++ txt n PT)) ∧ Below B w2 w') by (rw [show nn - 1 = (n : Int) by (rw [← HNN.out]; omega)]; exact HIH.out PT pb lo hi B b _ w2 (by omega) HOKP.out (TreeAt.keep (fun k h1 h2 => HBE2.out.block k (by omega)) (Nat.le_refl _) (Nat.le_refl _) _ _ HTP.out) hhi (.inr HB2.out) (by simp only [List.length_append, List.length_cons, List.length_nil]; omega) (by omega))); refine HCALL.out.mono ?_; rintro e w3 ⟨rfl, hb3, hbe3⟩))
      have HB3 := Lib.hid hb3
      have HBE3 := Lib.hid (HBE2.out.trans hbe3)
      clear hb3 hbe3
      try go_wp2_with fail
      go_roundw
      case rel => exact ⟨k + 1, 44, by omega, by go_num, rfl, Lib.hid (by simp), Lib.hid (by rw [HKN.out, ← List.append_assoc, HL1.out, ← List.append_assoc]; exact HB3.out), HBE3⟩
      case measure => simp [intOf]; omega

end Go.Proofs.Ytlignkgfclenkaa
