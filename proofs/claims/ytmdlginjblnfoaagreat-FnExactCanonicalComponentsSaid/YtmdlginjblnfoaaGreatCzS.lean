/-
  Several texts in one: Pts. No condition on any program.
-/
import Derived.Test.YtmdlginjblnfoaaGreatCzR
import Derived.Test.YtmdlginjblnfoaaGreatCzH
import Derived.Test.YtmdlginjblnfoaaGreatCzJ
import Derived.Test.YtmdlginjblnfoaaGreatCzF

/- Contract: isParts (reference). -/
namespace Go.Proofs.YtmdlginjblnfoaaGreat
open Go.ChangeShapes Go.WideShapes Go.ChangeAt Go.RowKit
set_option linter.unusedVariables false

theorem infoPt : (Tryz.prog.info? 46).map (fun i => (i.zero, i.size, i.bytes)) = some (some (.agg #[.slice none 0 0, .slice none 0 0, .int .i64 0]), 3, 56) := by kernel_rfl

set_option maxHeartbeats 8000000 in
set_option maxRecDepth 100000 in
theorem isParts_any (v1 : Value) (N : NetD) (lo1 hi1 : Nat) (w : World) (h1 : Net w lo1 hi1 v1 N) (hh1 : hi1 ≤ w.heap.size) (hg : N.good = true) :
    Calls Tryz.prog 17 #[v1] w fun e w' => ∃ r xs, e = .returned r ∧ xs.map CmpV.c = sortedC N ∧ CoS encS 3 w' w.heap.size w'.heap.size 46 r xs ∧ Below w.heap.size w w' := by
  obtain ⟨n1, n40⟩ := good_n hg
  have HG := Lib.hid hg; clear hg
  have HNO := Lib.hid (good_nodes HG.out)
  have F1 := Lib.hid h1
  obtain ⟨A1, c1, A1', c1', A1'', c1'', rfl, hc1, hd1, _⟩ := h1.parts
  obtain ⟨b1, o1, _, _, rfl, _⟩ := Net.rowAt F1.out (u := 0) (by omega)
  clear h1
  obtain ⟨WA, HWA⟩ : ∃ W, Hid (W = (w.alloc (.cells #[.slice (some ⟨b1, o1, none⟩) N.ends.length c1, .slice A1' N.ids.length c1', .slice A1'' N.inputs.length c1''] 32))) := ⟨_, Lib.hid rfl⟩
  have hbA : Below w.heap.size w WA := by rw [HWA.out]; exact ((Below.refl _ _).alloc (Nat.le_refl _) _)
  have hsA : w.heap.size + 1 ≤ WA.heap.size := by rw [HWA.out]; simp; try omega
  have bx1 : BoxN WA (w.heap.size) #[.slice (some ⟨b1, o1, none⟩) N.ends.length c1, .slice A1' N.ids.length c1', .slice A1'' N.inputs.length c1''] 32 := by rw [HWA.out]; exact (BoxN.new' _ _ _ (by simp))
  have G1 := Lib.hid (Net.below F1.out hbA hh1); clear F1
  go_enter Tryz.func17, Tryz.ntmps17
  go_upto_region 1 with (fail)
  rw [← HWA.out]; clear HWA
  have kbx1_0 : WA.cell? ⟨w.heap.size, 0, none⟩ = some (.slice (some ⟨b1, o1, none⟩) N.ends.length c1) := bx1.cell 0 (by simp)
  have kbx1_1 : WA.cell? ⟨w.heap.size, 1, none⟩ = some (.slice A1' N.ids.length c1') := bx1.cell 1 (by simp)
  have kbx1_2 : WA.cell? ⟨w.heap.size, 2, none⟩ = some (.slice A1'' N.inputs.length c1'') := bx1.cell 2 (by simp)
  go_wp2_with fail
  clear kbx1_0 kbx1_1 kbx1_2
  go_loopw [19, 4, 3] (fun kv sv ov wr => ∃ (k : Nat) (seen : List Int) (xs : List CmpV) (top : Nat), k ≤ N.ends.length ∧ kv = .int .i64 k ∧ Hid (∀ u : Nat, (u : Int) ∈ seen ↔ (u : Int) ∈ (stC N k).2) ∧ seen.length ≤ 40 * k ∧ Hid (CoX encS 3 wr WA.heap.size top 46 ov xs sv seen) ∧ Hid (xs.map CmpV.c = partsTo N k) ∧ Hid (Turned WA.heap.size WA.heap.size WA wr)) (fun kv sv ov _ => N.ends.length - (intOf kv).toNat)
  case atStart => exact ⟨0, [], [], WA.heap.size, Nat.zero_le _, rfl, Lib.hid (fun u => by simp [stC]), Nat.zero_le _, Lib.hid (CoX.nil _ _ _ _ _ (Nat.le_refl _)), Lib.hid rfl, Lib.hid (Turned.refl WA.heap.size WA.heap.size WA)⟩
  case round =>
    obtain ⟨k, seen, xs, top, hk, rfl, HSN, hsl, HX, HXC, HF1⟩ := hrel
    have hs1 := HF1.out.size
    obtain ⟨wq, rfl⟩ : ∃ wq : World, wq = wr := ⟨_, rfl⟩
    have hxh := HX.out.high
    have hxlo := HX.out.low
    have hpl := partsTo_len (N := N) k
    have hxl : xs.length ≤ k := by rw [← HXC.out, List.length_map] at hpl; exact hpl
    clear hpl
    obtain ⟨Ao, co, rfl, hco, hdo⟩ := HX.out.co.len
    obtain ⟨As, cs, rfl, hcs, hds⟩ := HX.out.num.ints.dims
    by_cases hkn : k < N.ends.length
    case neg =>
      obtain rfl : k = N.ends.length := by omega
      go_wp2_with fail
      go_ret
      exact ⟨_, xs, rfl, HXC.out, (HX.out.co.weak (by omega)).mono hxh (Nat.le_refl _), (HF1.out.below_of hbA (by omega) (by omega))⟩
    have hki : (k : Int) < N.ends.length := by omega
    by_cases hin : (k : Int) ∈ (stC N k).2
    case pos =>
      have hd : decide ((k : Int) ∈ seen) = true := decide_eq_true ((HSN.out k).2 hin)
      have HPT := Lib.hid (partsTo_in hin)
      have HST := Lib.hid (show (stC N (k + 1)).2 = (stC N k).2 by simp only [stC]; rw [if_pos hin])
      go_wp2_with (go_at_call 37; refine (l1Has_any _ seen (k : Nat) _ _ _ HX.out.num.ints).mono ?_; rintro e w' ⟨rfl, rfl⟩; rw [hd])
      go_roundw
      case rel => exact ⟨k + 1, seen, xs, top, by omega, by go_num, Lib.hid (by rw [HST.out]; exact HSN.out), by omega, HX, Lib.hid (by rw [HPT.out]; exact HXC.out), HF1⟩
      case measure => simp [intOf]; omega
    have hd : decide ((k : Int) ∈ seen) = false := decide_eq_false (fun h => hin ((HSN.out k).1 h))
    have HPT := Lib.hid (partsTo_new hin)
    have HST := Lib.hid (show (stC N (k + 1)).2 = (stC N k).2 ++ nodesOf N k by simp only [stC]; rw [if_neg hin])
    have HUL := Lib.hid (fun g e => (HX.out.num.lt g e).2)
    clear hin
    go_upto_region 8 with (go_at_call 37; refine (l1Has_any _ seen (k : Nat) _ _ _ HX.out.num.ints).mono ?_; rintro e w' ⟨rfl, rfl⟩; rw [hd])
    refine nameC ?_
    intro W2 HW2
    have hg2 : wq.grownBy W2 none := by rw [HW2.out]; exact grown_alloc _ _
    have hs2 := hg2.size
    have HF2 := Lib.hid (HF1.out.still hg2); clear HF1
    have X2 := Lib.hid (CoX.still HX.out hg2); clear HX
    have CB2 := Lib.hid (show BoxN W2 wq.heap.size #[.slice none 0 0, .slice none 0 0, .int .i64 0] 46 by rw [HW2.out]; exact BoxN.new _ _ _)
    clear HW2
    have kbx1_0 : W2.cell? ⟨w.heap.size, 0, none⟩ = some (.slice (some ⟨b1, o1, none⟩) N.ends.length c1) := (HF2.out.boxN bx1 (by omega)).cell 0 (by simp)
    have kbx1_1 : W2.cell? ⟨w.heap.size, 1, none⟩ = some (.slice A1' N.ids.length c1') := (HF2.out.boxN bx1 (by omega)).cell 1 (by simp)
    have kbx1_2 : W2.cell? ⟨w.heap.size, 2, none⟩ = some (.slice A1'' N.inputs.length c1'') := (HF2.out.boxN bx1 (by omega)).cell 2 (by simp)
    go_wp2_with fail
    clear kbx1_0 kbx1_1 kbx1_2
    have hgC : wq.heap.size < W2.heap.size := CB2.out.lt
    refine (isWalk_any _ N lo1 hi1 k _ (Net.turned G1.out HF2.out (by omega) (by omega)) (by omega) HG.out hkn).mono ?_
    rintro e W3 ⟨rw3, rfl, hw3, hb3⟩
    have hg3 := grown_below hb3; clear hb3
    have hs3 := hg3.size
    have HF3 := Lib.hid (HF2.out.still hg3); clear HF2
    have X3 := Lib.hid (CoX.still X2.out hg3); clear X2
    have CB3 := Lib.hid (BoxN.still CB2.out hg3); clear CB2
    have L3 := Lib.hid hw3; clear hw3
    obtain ⟨Al, cl, rfl, hcl, hdl⟩ := L3.out.dims
    have hwl := (walk_ok HNO.out hkn).len
    go_wp2_with fail
    go_loopw [30, 7] (fun jv rv wr => ∃ (j : Nat), j ≤ (walkN N k).length ∧ jv = .int .i64 j ∧ Hid (OwnI wr W3.heap.size 3 rv (sortI ((walkN N k).take j))) ∧ Hid (CoX encS 3 wr WA.heap.size top 46 (.slice Ao xs.length co) xs (.slice As seen.length cs) seen) ∧ Hid (IntS wr W2.heap.size W3.heap.size (.slice Al (walkN N k).length cl) (walkN N k)) ∧ Hid (BoxN wr wq.heap.size #[.slice none 0 0, .slice none 0 0, .int .i64 0] 46) ∧ W3.heap.size ≤ wr.heap.size ∧ Hid (Turned WA.heap.size WA.heap.size WA wr)) (fun jv rv _ => (walkN N k).length - (intOf jv).toNat)
    case atStart => exact ⟨0, Nat.zero_le _, rfl, Lib.hid (by rw [List.take_zero, show sortI [] = [] from by simp [sortI]]; exact OwnI.nil _ _ _), X3, L3, CB3, Nat.le_refl _, HF3⟩
    case round =>
      clear HF3
      obtain ⟨j, hj, rfl, HR, HX, HL, HB, hbz, HF4⟩ := hrel
      have hs4 := HF4.out.size
      obtain ⟨wt, rfl⟩ : ∃ wt : World, wt = wr := ⟨_, rfl⟩
      have hwl := (walk_ok HNO.out hkn).len
      have hrl : (sortI ((walkN N k).take j)).length ≤ 40 := by rw [sortI_length, List.length_take]; omega
      by_cases hjn : j < (walkN N k).length
      case pos =>
        have hji : (j : Int) < (walkN N k).length := by omega
        obtain ⟨bn, on, rfl, _, _, xn, _⟩ := IntS.opened HL.out hjn
        have HPJ := Lib.hid (put_take (walk_ok HNO.out hkn).nodup hjn)
        go_wp2_with fail
        refine (l1Put_any _ _ _ _ _ HR.out (by omega) (by omega)).mono ?_
        rintro e W5 ⟨r9, rfl, hr9, hb9⟩
        have hg9 := grown_below hb9; clear hb9
        rw [HPJ.out] at hr9
        have HR9 := Lib.hid hr9; clear hr9 xn
        have hs5 := hg9.size
        have HF5 := Lib.hid (HF4.out.still hg9); clear HF4
        have X5 := Lib.hid (CoX.still HX.out hg9); clear HX
        have L5 := Lib.hid (IntS.still HL.out hg9 (by omega)); clear HL
        have CB5 := Lib.hid (BoxN.still HB.out hg9); clear HB
        go_wp2_with fail
        go_roundw
        case rel => exact ⟨j + 1, by omega, by go_num, HR9, X5, L5, CB5, by omega, HF5⟩
        case measure => simp [intOf]; omega
      obtain rfl : j = (walkN N k).length := by omega
      rw [List.take_length] at HR hrl
      have HR2 := Lib.hid (show OwnI wt _ _ _ (nodesOf N k) from HR.out)
      have hnp : 0 < (nodesOf N k).length := by unfold nodesOf; rw [sortI_length]; exact List.length_pos_of_mem (walk_pos HNO.out hkn)
      have hnl : (nodesOf N k).length ≤ N.ends.length := nodes_len HG.out hkn
      obtain ⟨ns, HNS⟩ : ∃ l, Hid (nodesOf N k = l) := ⟨_, Lib.hid rfl⟩
      rw [HNS.out] at HR2 hnp hnl HST
      clear HR hrl
      obtain ⟨An, cn, rfl, hcn, hdn⟩ := HR2.out.ints.dims
      obtain ⟨gn, on, rfl, _, _, _, _⟩ := IntS.opened HR2.out.ints hnp
      have HNC := Lib.hid (show ∀ j, j < ns.length → wt.cell? ⟨gn, on + j, none⟩ = some (.int .i64 (nth ns j)) from fun j hj => (IntS.at_ HR2.out.ints hj).1)
      have HNI := Lib.hid (show IntS wt W3.heap.size wt.heap.size (.slice (some ⟨gn, on, none⟩) ns.length cn) ns from HR2.out.ints)
      clear HR2
      obtain ⟨sn, HS2⟩ : ∃ l, Hid (seen ++ ns = l) := ⟨_, Lib.hid rfl⟩
      go_wp2_with (at_builtin; refine append_intsA (s := .tmp 38) Tryz.underlying23 Tryz.info3 (by decide) wt rfl (.tmp 39) rfl HX.out.num rfl (g := gn) (off := on) ns rfl rfl HNC.out (by omega) (by omega) ?_; intro v5 w5 ho5 hg5 hat5; rw [HS2.out] at ho5)
      have hs5 := hg5.size
      have HUC := Lib.hid (show ∀ g, v5.ownBlock = some g → g ≠ wq.heap.size ∧ g < w5.heap.size from fun g e => by
        refine ⟨?_, (ho5.lt g e).2⟩
        rcases hat5 with e1 | ⟨g', e1, h1⟩
        · have := HUL.out g (by rw [← e1]; exact e); omega
        · rw [e1] at e; injection e with e; omega)
      have X5 := Lib.hid (CoX.more HX.out hg5 ho5 hat5)
      have N5 := Lib.hid (IntS.far HNI.out hg5 (Nat.le_refl _) (fun g e => .inl (by have := HUL.out g e; omega)))
      have B5 := Lib.hid (BoxN.far HB.out hg5 (fun g e => by have := HUL.out g e; omega))
      have hulo := Lib.hid (fun g e => (HX.out.num.lt g e).1)
      have HF5 := Lib.hid (HF4.out.grown hg5 (fun g e => .inr (by have := hulo.out g e; omega)))
      clear HNC HNI HX HB HL hg5 hat5 hulo HF4
      obtain ⟨A5, c5, rfl, hc5, hd5⟩ := ho5.ints.dims
      clear ho5
      go_loopw [43] (fun jv wr => ∃ (j : Nat) (vc vw : Value) (lo hi : Nat), j ≤ ns.length ∧ jv = .int .i64 j ∧ Hid (CoX encS 3 wr WA.heap.size top 46 (.slice Ao xs.length co) xs (.slice A5 sn.length c5) sn) ∧ Hid (IntS wr W3.heap.size wt.heap.size (.slice (some ⟨gn, on, none⟩) ns.length cn) ns) ∧ Hid (BoxN wr wq.heap.size #[vc, vw, .int .i64 ((compTo N k j).cnt : Nat)] 46) ∧ Hid (ElOk wr lo hi ⟨vc, vw, compTo N k j⟩) ∧ w5.heap.size ≤ lo ∧ lo ≤ hi ∧ hi ≤ wr.heap.size ∧ Hid (Turned WA.heap.size WA.heap.size WA wr)) (fun jv _ => ns.length - (intOf jv).toNat)
      case atStart => exact ⟨0, .slice none 0 0, .slice none 0 0, w5.heap.size, w5.heap.size, Nat.zero_le _, rfl, X5, N5, B5, Lib.hid ⟨IntS.nil _ _ _, IntS.nil _ _ _⟩, Nat.le_refl _, Nat.le_refl _, Nat.le_refl _, HF5⟩
      case round =>
        clear HF5
        obtain ⟨j, vc, vw, lo, hi, hj, rfl, HX, HN, HB, HE, hlo, hlh, hhi, HF61⟩ := hrel
        have hs61 := HF61.out.size
        obtain ⟨wu, rfl⟩ : ∃ wu : World, wu = wr := ⟨_, rfl⟩
        have hcw := compTo_walk HG.out hkn j (by rw [HNS.out]; exact hj)
        have HCW := Lib.hid hcw; clear hcw
        obtain ⟨c, HC⟩ : ∃ c, Hid (compTo N k j = c) := ⟨_, Lib.hid rfl⟩
        rw [HC.out] at HCW HB HE
        have hc40 : c.cnt ≤ 41 := by rcases HCW.out with h | h <;> omega
        have hxh3 := HX.out.high
        obtain ⟨Ac, cc, rfl, hcc, hdc⟩ := (show IntS wu lo hi vc c.code from HE.out.code).dims
        obtain ⟨Aw, cw, rfl, hcw, hdw⟩ := (show IntS wu lo hi vw c.walk from HE.out.walk).dims
        by_cases hjn : j < ns.length
        case pos =>
          obtain ⟨u, eu, hun⟩ := nodes_mem HG.out hkn (j := j) (by rw [HNS.out]; exact hjn)
          rw [HNS.out] at eu
          have xn := (IntS.at_ HN.out hjn).1
          rw [eu] at xn
          have HTN := Lib.hid (show compTo N k (j + 1) = cmpStep N c (u : Int) by rw [compTo_succ N k (by rw [HNS.out]; exact hjn), HC.out, HNS.out, eu])
          clear eu
          have hji : (j : Int) < ns.length := by omega
          have kbx1_0 : wu.cell? ⟨w.heap.size, 0, none⟩ = some (.slice (some ⟨b1, o1, none⟩) N.ends.length c1) := (HF61.out.boxN bx1 (by omega)).cell 0 (by simp)
          have kbx1_1 : wu.cell? ⟨w.heap.size, 1, none⟩ = some (.slice A1' N.ids.length c1') := (HF61.out.boxN bx1 (by omega)).cell 1 (by simp)
          have kbx1_2 : wu.cell? ⟨w.heap.size, 2, none⟩ = some (.slice A1'' N.inputs.length c1'') := (HF61.out.boxN bx1 (by omega)).cell 2 (by simp)
          go_wp2_with fail
          clear xn kbx1_0 kbx1_1 kbx1_2
          refine (isWalk_any _ N lo1 hi1 u _ (Net.turned G1.out HF61.out (by omega) (by omega)) (by omega) HG.out hun).mono ?_
          rintro e W62 ⟨rw62, rfl, hw62, hb62⟩
          have hg62 := grown_below hb62; clear hb62
          have hs62 := hg62.size
          have HF62 := Lib.hid (HF61.out.still hg62); clear HF61
          have X62 := Lib.hid (CoX.still HX.out hg62); clear HX
          have NL62 := Lib.hid (IntS.still HN.out hg62 (by omega)); clear HN
          have CB62 := Lib.hid (BoxN.still HB.out hg62); clear HB
          have E62 := Lib.hid (ElOk.still HE.out hg62 (by omega)); clear HE
          have L62 := Lib.hid hw62; clear hw62
          obtain ⟨Ae, ce, rfl, hce, hde⟩ := L62.out.dims
          have kbx1_0 : W62.cell? ⟨w.heap.size, 0, none⟩ = some (.slice (some ⟨b1, o1, none⟩) N.ends.length c1) := (HF62.out.boxN bx1 (by omega)).cell 0 (by simp)
          have kbx1_1 : W62.cell? ⟨w.heap.size, 1, none⟩ = some (.slice A1' N.ids.length c1') := (HF62.out.boxN bx1 (by omega)).cell 1 (by simp)
          have kbx1_2 : W62.cell? ⟨w.heap.size, 2, none⟩ = some (.slice A1'' N.inputs.length c1'') := (HF62.out.boxN bx1 (by omega)).cell 2 (by simp)
          go_wp2_with fail
          clear kbx1_0 kbx1_1 kbx1_2
          refine (isCode_any _ N lo1 hi1 _ (walkN N u) _ _ _ (Net.turned G1.out HF62.out (by omega) (by omega)) (by omega) L62.out (by omega) HG.out (walk_ok HNO.out hun)).mono ?_
          rintro e W63 ⟨rc63, rfl, hc63, hb63⟩
          have hg63 := grown_below hb63; clear hb63
          have hs63 := hg63.size
          have HF63 := Lib.hid (HF62.out.still hg63); clear HF62
          have X63 := Lib.hid (CoX.still X62.out hg63); clear X62
          have NL63 := Lib.hid (IntS.still NL62.out hg63 (by omega)); clear NL62
          have CB63 := Lib.hid (BoxN.still CB62.out hg63); clear CB62
          have E63 := Lib.hid (ElOk.still E62.out hg63 (by omega)); clear E62
          have L63 := Lib.hid (IntS.still L62.out hg63 (by omega)); clear L62
          have C63 := Lib.hid hc63; clear hc63
          obtain ⟨Ad, cd, rfl, hcd, hdd⟩ := C63.out.dims
          have hwok := walk_ok HNO.out hun
          have hwl2 := hwok.len
          have hdl2 : (codeN N (walkN N u)).length ≤ 600 := by have := codeTo_len HG.out hwok _ (Nat.le_refl _); show (codeTo N (walkN N u) (walkN N u).length).length ≤ 600; omega
          obtain ⟨d, HDd⟩ : ∃ l, Hid (codeN N (walkN N u) = l) := ⟨_, Lib.hid rfl⟩
          obtain ⟨wl, HWL⟩ : ∃ l, Hid (walkN N u = l) := ⟨_, Lib.hid rfl⟩
          have HSTP := Lib.hid (show cmpStep N c (u : Int) = if c.cnt = 0 ∨ ltL d c.code = true then ⟨d, wl, c.least, 1⟩ else if d = c.code then ⟨c.code, c.walk, c.least, c.cnt + 1⟩ else c by unfold cmpStep; rw [Int.toNat_natCast, HDd.out, HWL.out])
          rw [HDd.out] at hdl2 C63
          rw [HWL.out] at hwl2 L63
          rw [HDd.out, HWL.out]
          clear hwok HDd HWL
          by_cases h0 : c.cnt = 0
          case pos =>
            have HNEW := Lib.hid (show compTo N k (j + 1) = ⟨d, wl, c.least, 1⟩ by rw [HTN.out, HSTP.out, if_pos (.inl h0)])
            have HB0 := Lib.hid (show BoxN W63 wq.heap.size #[.slice Ac c.code.length cc, .slice Aw c.walk.length cw, .int .i64 0] 46 by have h := CB63.out; rw [h0] at h; exact h)
            clear h0 CB63
            have kb0 : W63.cell? ⟨wq.heap.size, 0, none⟩ = some (.slice Ac c.code.length cc) := HB0.out.cell 0 (by simp)
            have kb1 : W63.cell? ⟨wq.heap.size, 1, none⟩ = some (.slice Aw c.walk.length cw) := HB0.out.cell 1 (by simp)
            have kb2 : W63.cell? ⟨wq.heap.size, 2, none⟩ = some (.int .i64 0) := HB0.out.cell 2 (by simp)
            have kf0 := HB0.out.frozen 0
            have kf1 := HB0.out.frozen 1
            have kf2 := HB0.out.frozen 2
            go_wp2_with fail
            go_roundw
            case rel =>
              have hg9 : W63.grownBy (((W63.setCell ⟨wq.heap.size, 0, none⟩ (.slice Ad d.length cd)).setCell ⟨wq.heap.size, 1, none⟩ (.slice Ae wl.length ce)).setCell ⟨wq.heap.size, 2, none⟩ (.int .i64 1)) (some (wq.heap.size)) := grownBy_setCell (p := ⟨wq.heap.size, 2, none⟩) (grownBy_setCell (p := ⟨wq.heap.size, 1, none⟩) (grown_set W63 ⟨wq.heap.size, 0, none⟩ _) rfl _) rfl _
              have hs9 := hg9.size
              refine ⟨j + 1, .slice Ad d.length cd, .slice Ae wl.length ce, wu.heap.size, W63.heap.size, by omega, by go_num, Lib.hid (CoX.far X63.out hg9 (fun g e => by cases e; exact ⟨.inr (by omega), fun e2 => (HUC.out _ e2).1 rfl⟩)), Lib.hid (IntS.far NL63.out hg9 (by omega) (fun g e => .inl (by cases e; omega))), Lib.hid (?_), Lib.hid (?_), by omega, by omega, by omega, Lib.hid (HF63.out.grown hg9 (fun g e => .inr (by cases e; omega)))⟩
              · rw [HNEW.out]
                exact (((HB0.out.set 0 (.slice Ad d.length cd)).set 1 (.slice Ae wl.length ce)).set 2 (.int .i64 1))
              · rw [HNEW.out]
                exact ElOk.far (x := ⟨.slice Ad d.length cd, .slice Ae wl.length ce, ⟨d, wl, c.least, 1⟩⟩) ⟨IntS.mono C63.out (by omega) (by omega), IntS.mono L63.out (by omega) (by omega)⟩ hg9 (by omega) (fun g e => .inl (by cases e; omega))
            case measure => simp [intOf]; omega
          have hcA : (0 : Int) < ((c.cnt : Nat) : Int) := by omega
          have hcB : 0 < c.cnt := by omega
          have hcD : (((c.cnt : Nat) : Int) == 0) = false := by simpa using h0
          have hcE : ((c.cnt : Nat) : Int) ≠ 0 := by omega
          obtain ⟨q, HQ⟩ : ∃ q, Hid (decide (d = c.code) = q) := ⟨_, Lib.hid rfl⟩
          cases q
          case true =>
            have heq : d = c.code := of_decide_eq_true HQ.out
            have HNEW := Lib.hid (show compTo N k (j + 1) = ⟨c.code, c.walk, c.least, c.cnt + 1⟩ by rw [HTN.out, HSTP.out, if_neg (fun h => h.elim h0 (by rw [heq, ltL_irr]; decide)), if_pos heq])
            have H00 := Lib.hid h0; clear heq h0
            have kb0 : W63.cell? ⟨wq.heap.size, 0, none⟩ = some (.slice Ac c.code.length cc) := CB63.out.cell 0 (by simp)
            have kb1 : W63.cell? ⟨wq.heap.size, 1, none⟩ = some (.slice Aw c.walk.length cw) := CB63.out.cell 1 (by simp)
            have kb2 : W63.cell? ⟨wq.heap.size, 2, none⟩ = some (.int .i64 ((c.cnt : Nat) : Int)) := CB63.out.cell 2 (by simp)
            have kf0 := CB63.out.frozen 0
            have kf1 := CB63.out.frozen 1
            have kf2 := CB63.out.frozen 2
            go_upto_region 21 with (go_at_call 41; refine (l1Same_any _ _ d c.code _ _ _ _ _ C63.out E63.out.code (by omega) (by omega)).mono ?_; rintro e w7 ⟨rfl, hb7⟩; rw [HQ.out])
            clear kb0 kb1 kb2 kf0 kf1 kf2
            obtain ⟨W64, rfl⟩ : ∃ W : World, W = w7 := ⟨_, rfl⟩
            have hg64 := grown_below hb7; clear hb7
            have hs64 := hg64.size
            have HF64 := Lib.hid (HF63.out.still hg64); clear HF63
            have X64 := Lib.hid (CoX.still X63.out hg64); clear X63
            have NL64 := Lib.hid (IntS.still NL63.out hg64 (by omega)); clear NL63
            have CB64 := Lib.hid (BoxN.still CB63.out hg64); clear CB63
            have E64 := Lib.hid (ElOk.still E63.out hg64 (by omega)); clear E63
            have L64 := Lib.hid (IntS.still L63.out hg64 (by omega)); clear L63
            have C64 := Lib.hid (IntS.still C63.out hg64 (by omega)); clear C63
            have kb0 : W64.cell? ⟨wq.heap.size, 0, none⟩ = some (.slice Ac c.code.length cc) := CB64.out.cell 0 (by simp)
            have kb1 : W64.cell? ⟨wq.heap.size, 1, none⟩ = some (.slice Aw c.walk.length cw) := CB64.out.cell 1 (by simp)
            have kb2 : W64.cell? ⟨wq.heap.size, 2, none⟩ = some (.int .i64 ((c.cnt : Nat) : Int)) := CB64.out.cell 2 (by simp)
            have kf0 := CB64.out.frozen 0
            have kf1 := CB64.out.frozen 1
            have kf2 := CB64.out.frozen 2
            go_wp2_with fail
            go_roundw
            case rel =>
              have hg9 : W64.grownBy (W64.setCell ⟨wq.heap.size, 2, none⟩ (.int .i64 ((c.cnt : Int) + 1))) (some (wq.heap.size)) := grown_set _ _ _
              have hs9 := hg9.size
              refine ⟨j + 1, .slice Ac c.code.length cc, .slice Aw c.walk.length cw, lo, hi, by omega, by go_num, Lib.hid (CoX.far X64.out hg9 (fun g e => by cases e; exact ⟨.inr (by omega), fun e2 => (HUC.out _ e2).1 rfl⟩)), Lib.hid (IntS.far NL64.out hg9 (by omega) (fun g e => .inl (by cases e; omega))), Lib.hid (?_), Lib.hid (?_), by omega, by omega, by omega, Lib.hid (HF64.out.grown hg9 (fun g e => .inr (by cases e; omega)))⟩
              · rw [HNEW.out]
                exact (CB64.out.set 2 (.int .i64 ((c.cnt : Int) + 1)))
              · rw [HNEW.out]
                exact ElOk.far (x := ⟨.slice Ac c.code.length cc, .slice Aw c.walk.length cw, ⟨c.code, c.walk, c.least, c.cnt + 1⟩⟩) ⟨E64.out.code, E64.out.walk⟩ hg9 (by omega) (fun g e => .inl (by cases e; omega))
            case measure => simp [intOf]; omega
          case false =>
            have hne : ¬ d = c.code := of_decide_eq_false HQ.out
            have kb0 : W63.cell? ⟨wq.heap.size, 0, none⟩ = some (.slice Ac c.code.length cc) := CB63.out.cell 0 (by simp)
            have kb1 : W63.cell? ⟨wq.heap.size, 1, none⟩ = some (.slice Aw c.walk.length cw) := CB63.out.cell 1 (by simp)
            have kb2 : W63.cell? ⟨wq.heap.size, 2, none⟩ = some (.int .i64 ((c.cnt : Nat) : Int)) := CB63.out.cell 2 (by simp)
            have kf0 := CB63.out.frozen 0
            have kf1 := CB63.out.frozen 1
            have kf2 := CB63.out.frozen 2
            go_upto_region 22 with (go_at_call 41; refine (l1Same_any _ _ d c.code _ _ _ _ _ C63.out E63.out.code (by omega) (by omega)).mono ?_; rintro e w7 ⟨rfl, hb7⟩; rw [HQ.out])
            clear kb0 kb1 kb2 kf0 kf1 kf2
            obtain ⟨W65, rfl⟩ : ∃ W : World, W = w7 := ⟨_, rfl⟩
            have hg65 := grown_below hb7; clear hb7
            have hs65 := hg65.size
            have HF65 := Lib.hid (HF63.out.still hg65); clear HF63
            have X65 := Lib.hid (CoX.still X63.out hg65); clear X63
            have NL65 := Lib.hid (IntS.still NL63.out hg65 (by omega)); clear NL63
            have CB65 := Lib.hid (BoxN.still CB63.out hg65); clear CB63
            have E65 := Lib.hid (ElOk.still E63.out hg65 (by omega)); clear E63
            have L65 := Lib.hid (IntS.still L63.out hg65 (by omega)); clear L63
            have C65 := Lib.hid (IntS.still C63.out hg65 (by omega)); clear C63
            obtain ⟨q2, HQ2⟩ : ∃ q, Hid (ltL d c.code = q) := ⟨_, Lib.hid rfl⟩
            cases q2
            case true =>
              have HNEW := Lib.hid (show compTo N k (j + 1) = ⟨d, wl, c.least, 1⟩ by rw [HTN.out, HSTP.out, if_pos (.inr HQ2.out)])
              have H00 := Lib.hid h0; clear hne h0
              have kb0 : W65.cell? ⟨wq.heap.size, 0, none⟩ = some (.slice Ac c.code.length cc) := CB65.out.cell 0 (by simp)
              have kb1 : W65.cell? ⟨wq.heap.size, 1, none⟩ = some (.slice Aw c.walk.length cw) := CB65.out.cell 1 (by simp)
              have kb2 : W65.cell? ⟨wq.heap.size, 2, none⟩ = some (.int .i64 ((c.cnt : Nat) : Int)) := CB65.out.cell 2 (by simp)
              have kf0 := CB65.out.frozen 0
              have kf1 := CB65.out.frozen 1
              have kf2 := CB65.out.frozen 2
              go_upto_region 23 with (go_at_call 42; refine (isBefore_any _ d _ _ _ c.code _ _ _ C65.out (by omega) E65.out.code (by omega)).mono ?_; rintro e w8 ⟨rfl, hb8⟩; rw [HQ2.out])
              clear kb0 kb1 kb2 kf0 kf1 kf2
              obtain ⟨W66, rfl⟩ : ∃ W : World, W = w8 := ⟨_, rfl⟩
              have hg66 := grown_below hb8; clear hb8
              have hs66 := hg66.size
              have HF66 := Lib.hid (HF65.out.still hg66); clear HF65
              have X66 := Lib.hid (CoX.still X65.out hg66); clear X65
              have NL66 := Lib.hid (IntS.still NL65.out hg66 (by omega)); clear NL65
              have CB66 := Lib.hid (BoxN.still CB65.out hg66); clear CB65
              have E66 := Lib.hid (ElOk.still E65.out hg66 (by omega)); clear E65
              have L66 := Lib.hid (IntS.still L65.out hg66 (by omega)); clear L65
              have C66 := Lib.hid (IntS.still C65.out hg66 (by omega)); clear C65
              have kb0 : W66.cell? ⟨wq.heap.size, 0, none⟩ = some (.slice Ac c.code.length cc) := CB66.out.cell 0 (by simp)
              have kb1 : W66.cell? ⟨wq.heap.size, 1, none⟩ = some (.slice Aw c.walk.length cw) := CB66.out.cell 1 (by simp)
              have kb2 : W66.cell? ⟨wq.heap.size, 2, none⟩ = some (.int .i64 ((c.cnt : Nat) : Int)) := CB66.out.cell 2 (by simp)
              have kf0 := CB66.out.frozen 0
              have kf1 := CB66.out.frozen 1
              have kf2 := CB66.out.frozen 2
              go_wp2_with fail
              go_roundw
              case rel =>
                have hg9 : W66.grownBy (((W66.setCell ⟨wq.heap.size, 0, none⟩ (.slice Ad d.length cd)).setCell ⟨wq.heap.size, 1, none⟩ (.slice Ae wl.length ce)).setCell ⟨wq.heap.size, 2, none⟩ (.int .i64 1)) (some (wq.heap.size)) := grownBy_setCell (p := ⟨wq.heap.size, 2, none⟩) (grownBy_setCell (p := ⟨wq.heap.size, 1, none⟩) (grown_set W66 ⟨wq.heap.size, 0, none⟩ _) rfl _) rfl _
                have hs9 := hg9.size
                refine ⟨j + 1, .slice Ad d.length cd, .slice Ae wl.length ce, wu.heap.size, W63.heap.size, by omega, by go_num, Lib.hid (CoX.far X66.out hg9 (fun g e => by cases e; exact ⟨.inr (by omega), fun e2 => (HUC.out _ e2).1 rfl⟩)), Lib.hid (IntS.far NL66.out hg9 (by omega) (fun g e => .inl (by cases e; omega))), Lib.hid (?_), Lib.hid (?_), by omega, by omega, by omega, Lib.hid (HF66.out.grown hg9 (fun g e => .inr (by cases e; omega)))⟩
                · rw [HNEW.out]
                  exact (((CB66.out.set 0 (.slice Ad d.length cd)).set 1 (.slice Ae wl.length ce)).set 2 (.int .i64 1))
                · rw [HNEW.out]
                  exact ElOk.far (x := ⟨.slice Ad d.length cd, .slice Ae wl.length ce, ⟨d, wl, c.least, 1⟩⟩) ⟨IntS.mono C66.out (by omega) (by omega), IntS.mono L66.out (by omega) (by omega)⟩ hg9 (by omega) (fun g e => .inl (by cases e; omega))
              case measure => simp [intOf]; omega
            case false =>
              have HNEW := Lib.hid (show compTo N k (j + 1) = c by rw [HTN.out, HSTP.out, if_neg (fun h => h.elim h0 (by rw [HQ2.out]; decide)), if_neg hne])
              have H00 := Lib.hid h0; clear hne h0
              have kb0 : W65.cell? ⟨wq.heap.size, 0, none⟩ = some (.slice Ac c.code.length cc) := CB65.out.cell 0 (by simp)
              have kb1 : W65.cell? ⟨wq.heap.size, 1, none⟩ = some (.slice Aw c.walk.length cw) := CB65.out.cell 1 (by simp)
              have kb2 : W65.cell? ⟨wq.heap.size, 2, none⟩ = some (.int .i64 ((c.cnt : Nat) : Int)) := CB65.out.cell 2 (by simp)
              have kf0 := CB65.out.frozen 0
              have kf1 := CB65.out.frozen 1
              have kf2 := CB65.out.frozen 2
              go_wp2_with (go_at_call 42; refine (isBefore_any _ d _ _ _ c.code _ _ _ C65.out (by omega) E65.out.code (by omega)).mono ?_; rintro e w8 ⟨rfl, hb8⟩; rw [HQ2.out])
              clear kb0 kb1 kb2 kf0 kf1 kf2
              obtain ⟨W67, rfl⟩ : ∃ W : World, W = w8 := ⟨_, rfl⟩
              have hg67 := grown_below hb8; clear hb8
              have hs67 := hg67.size
              have HF67 := Lib.hid (HF65.out.still hg67); clear HF65
              have X67 := Lib.hid (CoX.still X65.out hg67); clear X65
              have NL67 := Lib.hid (IntS.still NL65.out hg67 (by omega)); clear NL65
              have CB67 := Lib.hid (BoxN.still CB65.out hg67); clear CB65
              have E67 := Lib.hid (ElOk.still E65.out hg67 (by omega)); clear E65
              have L67 := Lib.hid (IntS.still L65.out hg67 (by omega)); clear L65
              have C67 := Lib.hid (IntS.still C65.out hg67 (by omega)); clear C65
              go_roundw
              case rel =>
                refine ⟨j + 1, .slice Ac c.code.length cc, .slice Aw c.walk.length cw, lo, hi, by omega, by go_num, X67, NL67, Lib.hid (?_), Lib.hid (?_), hlo, hlh, by omega, HF67⟩
                · rw [HNEW.out]; exact CB67.out
                · rw [HNEW.out]; exact E67.out
              case measure => simp [intOf]; omega
        obtain rfl : j = ns.length := by omega
        have HCD := Lib.hid (show compD N k = c by unfold compD; rw [HNS.out, HC.out])
        have HSN2 := Lib.hid (show ∀ u : Nat, (u : Int) ∈ sn ↔ (u : Int) ∈ (stC N (k + 1)).2 from fun u => by rw [HST.out, ← HS2.out, List.mem_append, List.mem_append, HSN.out u])
        have hsl2 : sn.length ≤ 40 * (k + 1) := by rw [← HS2.out, List.length_append]; omega
        have hcode : c.code.length ≤ 600 := by
          rcases HCW.out with h | h
          · rw [h.2.1]; simp
          · exact h.2.2.2.1
        clear hjn HC HCW HSN HST HS2 HNS hsl
        go_wp2_with fail
        go_loopw [14] (fun av wr => ∃ (a : Nat), a ≤ xs.length ∧ av = .int .i64 a ∧ Hid (∀ j (h : j < xs.length), j < a → ltL c.code xs[j].c.code = false) ∧ Hid (CoX encS 3 wr WA.heap.size top 46 (.slice Ao xs.length co) xs (.slice A5 sn.length c5) sn) ∧ Hid (BoxN wr wq.heap.size #[.slice Ac c.code.length cc, .slice Aw c.walk.length cw, .int .i64 (c.cnt : Nat)] 46) ∧ Hid (ElOk wr lo hi ⟨.slice Ac c.code.length cc, .slice Aw c.walk.length cw, c⟩) ∧ hi ≤ wr.heap.size ∧ Hid (Turned WA.heap.size WA.heap.size WA wr)) (fun av _ => xs.length - (intOf av).toNat)
        case atStart => exact ⟨0, Nat.zero_le _, rfl, Lib.hid (fun j _ h => absurd h (by omega)), HX, HB, HE, hhi, HF61⟩
        case round =>
          clear HF61
          obtain ⟨a, ha, rfl, HLT, HX, HB, HE, hhi, HF68⟩ := hrel
          have hs68 := HF68.out.size
          obtain ⟨wv, rfl⟩ : ∃ wv : World, wv = wr := ⟨_, rfl⟩
          have hxh4 := HX.out.high
          have hgC2 : wq.heap.size < wv.heap.size := HB.out.lt
          by_cases hal : a < xs.length
          case neg =>
            have HIA := Lib.hid (show InsAt c (xs.map CmpV.c) a from ⟨by simpa using ha, fun j hj hja => by rw [List.getElem_map]; exact HLT.out j (by simpa using hj) hja, fun h => absurd h (by simpa using hal)⟩)
            have hnlt : ¬ (a : Int) < xs.length := by omega
            have hac : a ≤ xs.length := ha
            have e0 : ∀ p, (ext wv p).cell? ⟨wq.heap.size, 0, none⟩ = some (.slice Ac c.code.length cc) := ext_cell wv (a := ⟨wq.heap.size, 0, none⟩) hgC2 (HB.out.cell 0 (by simp))
            have e1 : ∀ p, (ext wv p).cell? ⟨wq.heap.size, 1, none⟩ = some (.slice Aw c.walk.length cw) := ext_cell wv (a := ⟨wq.heap.size, 1, none⟩) hgC2 (HB.out.cell 1 (by simp))
            have e2 : ∀ p, (ext wv p).cell? ⟨wq.heap.size, 2, none⟩ = some (.int .i64 (c.cnt : Nat)) := ext_cell wv (a := ⟨wq.heap.size, 2, none⟩) hgC2 (HB.out.cell 2 (by simp))
            go_wp2_with fail
            refine wp_region_ext (by kernel_rfl) (by kernel_rfl) ?_
            repeat (go_big_quiet_step (fail))
            refine wpQuiet_nil ?_
            rintro w1 ⟨p, rfl⟩
            clear e0 e1 e2
            obtain ⟨W69, HW69⟩ : ∃ W, Hid (W = ext wv p) := ⟨_, Lib.hid rfl⟩
            rw [← HW69.out]
            have hg69 : wv.grownBy W69 none := by rw [HW69.out]; exact grown_below (ext_below _ _)
            clear HW69
            have hs69 := hg69.size
            have HF69 := Lib.hid (HF68.out.still hg69); clear HF68
            have X69 := Lib.hid (CoX.still HX.out hg69); clear HX
            have CB69 := Lib.hid (BoxN.still HB.out hg69); clear HB
            have E69 := Lib.hid (ElOk.still HE.out hg69 (by omega)); clear HE
            have HGE := Lib.hid (show xs.length ≤ a by omega)
            clear hnlt hal
            cases Ao with
            | none =>
              have hx0 := HX.out.none_
              obtain ⟨_, hco0, hxl0⟩ := hx0
              have HINS := Lib.hid (show (xs.take a ++ [(⟨.slice Ac c.code.length cc, .slice Aw c.walk.length cw, c⟩ : CmpV)] ++ xs.drop a).map CmpV.c = partsTo N (k + 1) by
                have h := insC_at (x := c) (l := partsTo N k) (a := a) (by rw [← HXC.out]; exact HIA.out)
                rw [HPT.out, HCD.out, h, ← HXC.out]
                simp [List.map_take, List.map_drop])
              have hrl : (xs.drop a).length = xs.length - a := List.length_drop
              have htl : (xs.take a).length = a := by rw [List.length_take]; omega
              have HRL := Lib.hid hrl; have HTL := Lib.hid htl; clear hrl htl
              have HLX := Lib.hid X69.out.lt
              have HEB := Lib.hid (show ∀ y ∈ xs.drop a, ∃ lo hi, WA.heap.size ≤ lo ∧ hi ≤ top ∧ ElOk W69 lo hi y ∧ (∀ g, Value.ownBlock (.slice none xs.length co) = some g → g < lo ∨ hi ≤ g) ∧ ∀ g, Value.ownBlock (.slice A5 sn.length c5) = some g → g < lo ∨ hi ≤ g from fun y hy => X69.out.el y (List.mem_of_mem_drop hy))
              have HE1 := Lib.hid (owns_empty W69 W69.heap.size 46 3 rfl (Nat.le_refl _))
              have hax : (a : Int) ≤ xs.length := by omega
              have hay : (a : Int) ≤ co := by omega
              have haz : a ≤ co := by omega
              have hd0 : xs.drop a = [] := List.drop_eq_nil_of_le HGE.out
              have HON := Lib.hid (show ∀ u ∈ (xs.drop a).flatMap encS, u.oneCell' = true by rw [hd0]; simp)
              obtain ⟨iP, hiP, hzP⟩ := Option.map_eq_some_iff.1 infoPt
              have HIP := Lib.hid hiP; clear hzP hiP
              go_upto_region 29 with (at_builtin; refine wpList_append_own_none (w := W69.alloc (.cells #[] 46)) rfl (.tmp 96) (.tmp 99) 43 rfl W69.heap.size 46 iP 3 Tryz.underlying43 HIP.out _ _ _ rfl HE1.out rfl ?_)
              refine nameC ?_
              intro W70 HW70
              have hg71 : W69.grownBy W70 none := by rw [HW70.out]; exact grown_alloc _ _
              have R70 := Lib.hid (show W70.ownsRow W69.heap.size 46 3 (.slice (some ⟨W69.heap.size, 0, none⟩) 0 0) (xs.drop a).length ((xs.drop a).flatMap encS) by rw [hd0, HW70.out]; exact HE1.out)
              clear HW70 hd0
              have hs70 := hg71.size
              have HF70 := Lib.hid (HF69.out.still hg71); clear HF69
              have X70 := Lib.hid (CoX.still X69.out hg71); clear X69
              have CB70 := Lib.hid (BoxN.still CB69.out hg71); clear CB69
              have E70 := Lib.hid (ElOk.still E69.out hg71 (by omega)); clear E69
              have HEC := Lib.hid (show ∀ y ∈ xs.drop a, ∃ lo hi, WA.heap.size ≤ lo ∧ hi ≤ W70.heap.size ∧ ElOk W70 lo hi y ∧ (∀ g, Value.ownBlock (.slice none a co) = some g → g < lo ∨ hi ≤ g) ∧ ∀ g, Value.ownBlock (.slice A5 sn.length c5) = some g → g < lo ∨ hi ≤ g from fun y hy => by
                obtain ⟨lo', hi', a1, a2, a3, a4, a5⟩ := HEB.out y hy
                exact ⟨lo', hi', a1, by omega, a3.still hg71 (by omega), a4, a5⟩)
              have X1 := Lib.hid (CoX.first X70.out (fun _ => rfl) hac)
              clear HEB hg71 HE1
              refine wp_region_U (fun w' => w'.cell? ⟨wq.heap.size, 0, none⟩ = some (.slice Ac c.code.length cc) ∧ w'.cell? ⟨wq.heap.size, 1, none⟩ = some (.slice Aw c.walk.length cw) ∧ w'.cell? ⟨wq.heap.size, 2, none⟩ = some (.int .i64 (c.cnt : Nat))) [] (by kernel_rfl) ?_
              refine nameU ?_
              intro W71 HW71
              have hg71 : W70.grownBy W71 none := by rw [HW71.out]; exact grown_drew _
              clear HW71
              have hs71 := hg71.size
              have HF71 := Lib.hid (HF70.out.still hg71); clear HF70
              have X71 := Lib.hid (CoX.still X70.out hg71); clear X70
              have CB71 := Lib.hid (BoxN.still CB70.out hg71); clear CB70
              have E71 := Lib.hid (ElOk.still E70.out hg71 (by omega)); clear E70
              have hS72 : W71.cell? ⟨wq.heap.size, 0, none⟩ = some (.slice Ac c.code.length cc) ∧ W71.cell? ⟨wq.heap.size, 1, none⟩ = some (.slice Aw c.walk.length cw) ∧ W71.cell? ⟨wq.heap.size, 2, none⟩ = some (.int .i64 (c.cnt : Nat)) := ⟨CB71.out.cell 0 (by simp), CB71.out.cell 1 (by simp), CB71.out.cell 2 (by simp)⟩
              have HEC2 := Lib.hid (show ∀ y ∈ xs.drop a, ∃ lo hi, WA.heap.size ≤ lo ∧ hi ≤ W71.heap.size ∧ ElOk W71 lo hi y ∧ (∀ g, Value.ownBlock (.slice none a co) = some g → g < lo ∨ hi ≤ g) ∧ ∀ g, Value.ownBlock (.slice A5 sn.length c5) = some g → g < lo ∨ hi ≤ g from fun y hy => by
                obtain ⟨lo', hi', a1, a2, a3, a4, a5⟩ := HEC.out y hy
                exact ⟨lo', hi', a1, by omega, a3.still hg71 (by omega), a4, a5⟩)
              have R71 := Lib.hid (R70.out.kept hg71 (by cases hrv : Value.ownBlock (.slice (some ⟨W69.heap.size, 0, none⟩) 0 0) with
                | none => exact .inl rfl
                | some g => right; simp))
              have X11 := Lib.hid (CoX.still X1.out hg71)
              clear HEC R70 X1
              refine anyU_take (i := 0) (v := .slice none xs.length co) rfl (by kernel_rfl) (by kernel_rfl) (by kernel_rfl) (fun _ _ _ h => h) ⟨by rfl, fun w' hS' => (by obtain ⟨s1, s2, s3⟩ := hS'; go_simp)⟩ hS72 ?_
              simp only [List.getElem_toArray, List.getElem_cons_zero, Act.put, List.setIfInBounds_toArray, List.set_cons_zero, List.set_cons_succ]
              refine anyU_take (i := 1) (v := .int .i64 a) rfl (by kernel_rfl) (by kernel_rfl) (by kernel_rfl) (fun _ _ _ h => h) ⟨by rfl, fun w' hS' => (by obtain ⟨s1, s2, s3⟩ := hS'; go_simp)⟩ hS72 ?_
              simp only [List.getElem_toArray, List.getElem_cons_succ, List.getElem_cons_zero, Act.put, List.setIfInBounds_toArray, List.set_cons_zero, List.set_cons_succ]
              refine anyU_take (i := 2) (v := .slice none a co) rfl (by kernel_rfl) (by kernel_rfl) (by kernel_rfl) (fun _ _ _ h => h) ⟨by rfl, fun w' hS' => (by obtain ⟨s1, s2, s3⟩ := hS'; simp [go_sem, hay])⟩ hS72 ?_
              simp only [List.getElem_toArray, List.getElem_cons_succ, List.getElem_cons_zero, Act.put, List.setIfInBounds_toArray, List.set_cons_zero, List.set_cons_succ]
              refine anyU_take (i := 3) (v := .agg #[.slice Ac c.code.length cc, .slice Aw c.walk.length cw, .int .i64 (c.cnt : Nat)]) rfl (by kernel_rfl) (by kernel_rfl) (by kernel_rfl) (fun _ _ _ h => h) ⟨by rfl, fun w' hS' => (by obtain ⟨s1, s2, s3⟩ := hS'; go_simp)⟩ hS72 ?_
              simp only [List.getElem_toArray, List.getElem_cons_succ, List.getElem_cons_zero, Act.put, List.setIfInBounds_toArray, List.set_cons_zero, List.set_cons_succ]
              refine anyU_take (i := 6) (v := .slice (some ⟨W69.heap.size, 0, none⟩) 0 0) rfl (by kernel_rfl) (by kernel_rfl) (by kernel_rfl) (fun _ _ _ h => h) ⟨by rfl, fun w' hS' => (by obtain ⟨s1, s2, s3⟩ := hS'; go_simp)⟩ hS72 ?_
              simp only [List.getElem_toArray, List.getElem_cons_succ, List.getElem_cons_zero, Act.put, List.setIfInBounds_toArray, List.set_cons_zero, List.set_cons_succ]
              refine anyU_ready (rs := [4]) (by kernel_rfl) (by simp) ?_
              refine ReadyU.cons (i := 4) rfl (fun K hK => ?_) ReadyU.nil
              simp only [List.getElem_toArray, List.getElem_cons_succ, List.getElem_cons_zero]
              refine ite_is (by rfl) ?_
              simp [go_sem]
              refine hK.out _ _ ⟨fun _ => ⟨(CB71.out.still (grown_alloc _ _)).cell 0 (by simp), (CB71.out.still (grown_alloc _ _)).cell 1 (by simp), (CB71.out.still (grown_alloc _ _)).cell 2 (by simp)⟩, ?_⟩
              clear hK K
              try simp only [List.getElem_toArray, List.getElem_cons_succ, List.getElem_cons_zero, Act.put, List.setIfInBounds_toArray, List.set_cons_zero, List.set_cons_succ]
              refine nameU ?_
              intro W73 HW73
              have hg73 : W71.grownBy W73 none := by rw [HW73.out]; exact grown_alloc _ _
              have BV := Lib.hid (show BoxN W73 W71.heap.size #[.slice Ac c.code.length cc, .slice Aw c.walk.length cw, .int .i64 (c.cnt : Nat)] 46 by rw [HW73.out]; exact BoxN.new _ _ _)
              have hz73 : W71.heap.size < W73.heap.size := BV.out.lt
              clear HW73
              have hs73 := hg73.size
              have HF73 := Lib.hid (HF71.out.still hg73); clear HF71
              have X73 := Lib.hid (CoX.still X71.out hg73); clear X71
              have CB73 := Lib.hid (BoxN.still CB71.out hg73); clear CB71
              have E73 := Lib.hid (ElOk.still E71.out hg73 (by omega)); clear E71
              have HEC3 := Lib.hid (show ∀ y ∈ xs.drop a, ∃ lo hi, WA.heap.size ≤ lo ∧ hi ≤ W73.heap.size ∧ ElOk W73 lo hi y ∧ (∀ g, Value.ownBlock (.slice none a co) = some g → g < lo ∨ hi ≤ g) ∧ ∀ g, Value.ownBlock (.slice A5 sn.length c5) = some g → g < lo ∨ hi ≤ g from fun y hy => by
                obtain ⟨lo', hi', a1, a2, a3, a4, a5⟩ := HEC2.out y hy
                exact ⟨lo', hi', a1, by omega, a3.still hg73 (by omega), a4, a5⟩)
              have R72 := Lib.hid (R71.out.kept hg73 (by cases hrv : Value.ownBlock (.slice (some ⟨W69.heap.size, 0, none⟩) 0 0) with
                | none => exact .inl rfl
                | some g => right; simp))
              have X12 := Lib.hid (CoX.still X11.out hg73)
              clear HEC2 R71 X11
              have hS74 : W73.cell? ⟨wq.heap.size, 0, none⟩ = some (.slice Ac c.code.length cc) ∧ W73.cell? ⟨wq.heap.size, 1, none⟩ = some (.slice Aw c.walk.length cw) ∧ W73.cell? ⟨wq.heap.size, 2, none⟩ = some (.int .i64 (c.cnt : Nat)) := ⟨CB73.out.cell 0 (by simp), CB73.out.cell 1 (by simp), CB73.out.cell 2 (by simp)⟩
              clear hS72
              have hlx : ∀ g, Value.ownBlock (.slice none a co) = some g → WA.heap.size ≤ g ∧ g < top := fun g e => HLX.out g e
              have HLA := Lib.hid hlx; clear hlx
              have HYE := Lib.hid (show ∀ y ∈ [(⟨.slice Ac c.code.length cc, .slice Aw c.walk.length cw, c⟩ : CmpV)], ∃ lo hi, WA.heap.size ≤ lo ∧ hi ≤ W73.heap.size ∧ ElOk W73 lo hi y ∧ (∀ g, Value.ownBlock (.slice none a co) = some g → g < lo ∨ hi ≤ g) ∧ ∀ g, Value.ownBlock (.slice A5 sn.length c5) = some g → g < lo ∨ hi ≤ g from fun y hy => by
                rw [List.mem_singleton] at hy
                subst hy
                exact ⟨lo, hi, by omega, by omega, E73.out, fun g e => .inl (by have := HLA.out g e; omega), fun g e => .inl (by have := HUC.out g e; omega)⟩)
              refine anyU_ready (rs := [5]) (by kernel_rfl) (by simp) ?_
              refine ReadyU.cons (i := 5) rfl (fun K hK => ?_) ReadyU.nil
              refine step_append_own2 Tryz.underlying43 infoPt rfl (by omega) (by omega) W73 (by rfl) _ (by rfl) X12.out.row (by rfl) _ (owns_box BV.out rfl 0 (Nat.zero_le _)) (by rfl) (by intro u hu; simp only [List.mem_cons, List.not_mem_nil, or_false] at hu; rcases hu with rfl | rfl | rfl <;> rfl) (by rw [HTL.out]; omega) (by omega) ?_
              intro v1 W75 ho1 hg75 hat1
              have hs75 := hg75.size
              have HF75 := Lib.hid (HF73.out.grown hg75 (fun g e => .inr (by have := HLA.out g e; omega))); clear HF73
              have CB75 := Lib.hid (BoxN.far CB73.out hg75 (fun g e => by have := HLA.out g e; omega))
              have X13 := Lib.hid (CoX.app (ys := [(⟨.slice Ac c.code.length cc, .slice Aw c.walk.length cw, c⟩ : CmpV)]) X12.out hg75 ho1 hat1 HYE.out)
              have R73 := Lib.hid (R72.out.kept hg75 (by
                cases hrv : Value.ownBlock (.slice (some ⟨W69.heap.size, 0, none⟩) 0 0) with
                | none => exact .inl rfl
                | some g =>
                  right
                  intro e
                  have h1 := (R72.out.lt g hrv).1
                  have h2 := HLA.out g e.symm
                  omega))
              have HEC4 := Lib.hid (show ∀ y ∈ xs.drop a, ∃ lo hi, WA.heap.size ≤ lo ∧ hi ≤ W75.heap.size ∧ ElOk W75 lo hi y ∧ (∀ g, v1.ownBlock = some g → g < lo ∨ hi ≤ g) ∧ ∀ g, Value.ownBlock (.slice A5 sn.length c5) = some g → g < lo ∨ hi ≤ g from fun y hy => by
                obtain ⟨lo', hi', a1, a2, a3, a4, a5⟩ := HEC3.out y hy
                refine ⟨lo', hi', a1, by omega, a3.far hg75 a2 a4, fun g e => ?_, a5⟩
                rcases hat1 with e1 | ⟨g', e1, h1⟩
                · exact a4 g (by rw [← e1]; exact e)
                · rw [e1] at e; injection e with e; omega)
              have HL1 := Lib.hid (show ∀ g, v1.ownBlock = some g → WA.heap.size ≤ g ∧ g ≠ wq.heap.size from fun g e => by
                refine ⟨(X13.out.lt g e).1, ?_⟩
                rcases hat1 with e1 | ⟨g', e1, h1⟩
                · have := HLA.out g (by rw [← e1]; exact e); omega
                · rw [e1] at e; injection e with e; omega)
              clear HEC3 R72 X12 hat1 HYE CB73 ho1 BV
              have hS76 : W75.cell? ⟨wq.heap.size, 0, none⟩ = some (.slice Ac c.code.length cc) ∧ W75.cell? ⟨wq.heap.size, 1, none⟩ = some (.slice Aw c.walk.length cw) ∧ W75.cell? ⟨wq.heap.size, 2, none⟩ = some (.int .i64 (c.cnt : Nat)) := ⟨CB75.out.cell 0 (by simp), CB75.out.cell 1 (by simp), CB75.out.cell 2 (by simp)⟩
              refine hK.out _ _ ⟨fun _ => hS76, ?_⟩
              clear hK K hS74
              try simp only [List.getElem_toArray, List.getElem_cons_succ, List.getElem_cons_zero, Act.put, List.setIfInBounds_toArray, List.set_cons_zero, List.set_cons_succ]
              refine anyU_ready (rs := [7]) (by kernel_rfl) (by simp) ?_
              refine ReadyU.cons (i := 7) rfl (fun K hK => ?_) ReadyU.nil
              refine step_append_own2 Tryz.underlying43 infoPt rfl (by omega) (by omega) W75 (by rfl) _ (by rfl) X13.out.row (by rfl) _ R73.out (by rfl) HON.out (by rw [HRL.out, List.length_append, HTL.out]; simp; omega) (by omega) ?_
              intro v2 W77 ho2 hg77 hat2
              have hs77 := hg77.size
              have HF77 := Lib.hid (HF75.out.grown hg77 (fun g e => .inr (by have := HL1.out g e; omega))); clear HF75
              have CB77 := Lib.hid (BoxN.far CB75.out hg77 (fun g e => (HL1.out g e).2))
              have X14 := Lib.hid (CoX.app X13.out hg77 ho2 hat2 HEC4.out)
              clear HEC4 R73 X13 hat2 CB75 ho2
              have hS78 : W77.cell? ⟨wq.heap.size, 0, none⟩ = some (.slice Ac c.code.length cc) ∧ W77.cell? ⟨wq.heap.size, 1, none⟩ = some (.slice Aw c.walk.length cw) ∧ W77.cell? ⟨wq.heap.size, 2, none⟩ = some (.int .i64 (c.cnt : Nat)) := ⟨CB77.out.cell 0 (by simp), CB77.out.cell 1 (by simp), CB77.out.cell 2 (by simp)⟩
              refine hK.out _ _ ⟨fun _ => hS78, ?_⟩
              clear hK K hS76
              try simp only [List.getElem_toArray, List.getElem_cons_succ, List.getElem_cons_zero, Act.put, List.setIfInBounds_toArray, List.set_cons_zero, List.set_cons_succ]
              refine anyU_ready (rs := [8]) (by kernel_rfl) (by simp) ?_
              refine ReadyU.cons (i := 8) rfl (fun K hK => ?_) ReadyU.nil
              simp only [List.getElem_toArray, List.getElem_cons_succ, List.getElem_cons_zero]
              refine ite_is (by rfl) ?_
              simp [go_sem]
              refine hK.out _ _ ⟨fun _ => hS78, ?_⟩
              clear hK K
              try simp only [List.getElem_toArray, List.getElem_cons_succ, List.getElem_cons_zero, Act.put, List.setIfInBounds_toArray, List.set_cons_zero, List.set_cons_succ]
              clear hS78
              refine anyU_done (by kernel_rfl) ?_ _
              go_wp2_with fail
              go_roundw
              case rel => exact ⟨k + 1, sn, _, W77.heap.size, by omega, by go_num, HSN2, hsl2, X14, HINS, HF77⟩
              case measure => simp [intOf]; omega
            | some ad =>
              obtain ⟨bX, rfl, hbX1, hbX2⟩ := HX.out.some_
              by_cases hca : co = a
              case neg =>
                have HINS := Lib.hid (show (xs.take a ++ [(⟨.slice Ac c.code.length cc, .slice Aw c.walk.length cw, c⟩ : CmpV)] ++ xs.drop a).map CmpV.c = partsTo N (k + 1) by
                  have h := insC_at (x := c) (l := partsTo N k) (a := a) (by rw [← HXC.out]; exact HIA.out)
                  rw [HPT.out, HCD.out, h, ← HXC.out]
                  simp [List.map_take, List.map_drop])
                have hrl : (xs.drop a).length = xs.length - a := List.length_drop
                have htl : (xs.take a).length = a := by rw [List.length_take]; omega
                have HRL := Lib.hid hrl; have HTL := Lib.hid htl; clear hrl htl
                have HLX := Lib.hid X69.out.lt
                have HEB := Lib.hid (show ∀ y ∈ xs.drop a, ∃ lo hi, WA.heap.size ≤ lo ∧ hi ≤ top ∧ ElOk W69 lo hi y ∧ (∀ g, Value.ownBlock (.slice (some ⟨bX, 0, none⟩) xs.length co) = some g → g < lo ∨ hi ≤ g) ∧ ∀ g, Value.ownBlock (.slice A5 sn.length c5) = some g → g < lo ∨ hi ≤ g from fun y hy => X69.out.el y (List.mem_of_mem_drop hy))
                have HE1 := Lib.hid (owns_empty W69 W69.heap.size 46 3 rfl (Nat.le_refl _))
                have hax : (a : Int) ≤ xs.length := by omega
                have hay : (a : Int) ≤ co := by omega
                have haz : a ≤ co := by omega
                have HNW := Lib.hid (show ∀ j u, ((xs.drop a).flatMap encS)[j]? = some u → (W69.alloc (.cells #[] 46)).cell? ((⟨bX, a * 3, none⟩ : Addr).add j) = some u from fun j u hj => by
                  rw [Go.WideShapes.add_plain, (below_a1 W69 (.cells #[] 46)).cell (p := ⟨bX, a * 3 + j, none⟩) (by show bX < _; omega)]
                  exact CoS.news X69.out.co (fun _ => rfl) j u hj)
                have HON := Lib.hid (show ∀ u ∈ (xs.drop a).flatMap encS, u.oneCell' = true from fun u hu => by
                  obtain ⟨y, hy1, hy2⟩ := List.mem_flatMap.1 hu
                  obtain ⟨_, _, _, _, hel, _⟩ := HEB.out y hy1
                  exact hel.oneS u hy2)
                have HFL := Lib.hid (show ((xs.drop a).flatMap encS).length = (xs.length - a) * 3 by rw [flat_len (enc := encS) (k := 3) (fun _ => rfl), HRL.out])
                go_upto_region 29 with (at_builtin; refine append_row (s := .tmp 96) (n := 0) (m := xs.length - a) Tryz.underlying43 infoPt rfl (by omega) (by omega) (W69.alloc (.cells #[] 46)) rfl (.tmp 99) rfl HE1.out rfl ((xs.drop a).flatMap encS) rfl HFL.out HNW.out HON.out (by omega) (by simp) ?_; intro rv w70 ho70 hg70 hat70)
                have hg71 := grown_new (grown_alloc W69 (.cells #[] 46)) hg70 (fun g e => (HE1.out.lt g e).1)
                have R70 := Lib.hid (show w70.ownsRow W69.heap.size 46 3 rv (xs.drop a).length ((xs.drop a).flatMap encS) by have h := ho70; rw [Nat.zero_add, ← HRL.out] at h; exact h)
                clear ho70 hg70 hat70 HNW
                obtain ⟨W79, rfl⟩ : ∃ W : World, W = w70 := ⟨_, rfl⟩
                have hs79 := hg71.size
                have HF79 := Lib.hid (HF69.out.still hg71); clear HF69
                have X79 := Lib.hid (CoX.still X69.out hg71); clear X69
                have CB79 := Lib.hid (BoxN.still CB69.out hg71); clear CB69
                have E79 := Lib.hid (ElOk.still E69.out hg71 (by omega)); clear E69
                have HEC := Lib.hid (show ∀ y ∈ xs.drop a, ∃ lo hi, WA.heap.size ≤ lo ∧ hi ≤ W79.heap.size ∧ ElOk W79 lo hi y ∧ (∀ g, Value.ownBlock (.slice (some ⟨bX, 0, none⟩) a co) = some g → g < lo ∨ hi ≤ g) ∧ ∀ g, Value.ownBlock (.slice A5 sn.length c5) = some g → g < lo ∨ hi ≤ g from fun y hy => by
                  obtain ⟨lo', hi', a1, a2, a3, a4, a5⟩ := HEB.out y hy
                  exact ⟨lo', hi', a1, by omega, a3.still hg71 (by omega), a4, a5⟩)
                have X1 := Lib.hid (CoX.first X79.out (fun _ => rfl) hac)
                clear HEB hg71 HE1
                refine wp_region_U (fun w' => w'.cell? ⟨wq.heap.size, 0, none⟩ = some (.slice Ac c.code.length cc) ∧ w'.cell? ⟨wq.heap.size, 1, none⟩ = some (.slice Aw c.walk.length cw) ∧ w'.cell? ⟨wq.heap.size, 2, none⟩ = some (.int .i64 (c.cnt : Nat))) [] (by kernel_rfl) ?_
                refine nameU ?_
                intro W80 HW80
                have hg80 : W79.grownBy W80 none := by rw [HW80.out]; exact grown_drew _
                clear HW80
                have hs80 := hg80.size
                have HF80 := Lib.hid (HF79.out.still hg80); clear HF79
                have X80 := Lib.hid (CoX.still X79.out hg80); clear X79
                have CB80 := Lib.hid (BoxN.still CB79.out hg80); clear CB79
                have E80 := Lib.hid (ElOk.still E79.out hg80 (by omega)); clear E79
                have hS81 : W80.cell? ⟨wq.heap.size, 0, none⟩ = some (.slice Ac c.code.length cc) ∧ W80.cell? ⟨wq.heap.size, 1, none⟩ = some (.slice Aw c.walk.length cw) ∧ W80.cell? ⟨wq.heap.size, 2, none⟩ = some (.int .i64 (c.cnt : Nat)) := ⟨CB80.out.cell 0 (by simp), CB80.out.cell 1 (by simp), CB80.out.cell 2 (by simp)⟩
                have HEC2 := Lib.hid (show ∀ y ∈ xs.drop a, ∃ lo hi, WA.heap.size ≤ lo ∧ hi ≤ W80.heap.size ∧ ElOk W80 lo hi y ∧ (∀ g, Value.ownBlock (.slice (some ⟨bX, 0, none⟩) a co) = some g → g < lo ∨ hi ≤ g) ∧ ∀ g, Value.ownBlock (.slice A5 sn.length c5) = some g → g < lo ∨ hi ≤ g from fun y hy => by
                  obtain ⟨lo', hi', a1, a2, a3, a4, a5⟩ := HEC.out y hy
                  exact ⟨lo', hi', a1, by omega, a3.still hg80 (by omega), a4, a5⟩)
                have R71 := Lib.hid (R70.out.kept hg80 (by cases hrv : Value.ownBlock (rv) with
                  | none => exact .inl rfl
                  | some g => right; simp))
                have X11 := Lib.hid (CoX.still X1.out hg80)
                clear HEC R70 X1
                refine anyU_take (i := 0) (v := .slice (some ⟨bX, 0, none⟩) xs.length co) rfl (by kernel_rfl) (by kernel_rfl) (by kernel_rfl) (fun _ _ _ h => h) ⟨by rfl, fun w' hS' => (by obtain ⟨s1, s2, s3⟩ := hS'; go_simp)⟩ hS81 ?_
                simp only [List.getElem_toArray, List.getElem_cons_zero, Act.put, List.setIfInBounds_toArray, List.set_cons_zero, List.set_cons_succ]
                refine anyU_take (i := 1) (v := .int .i64 a) rfl (by kernel_rfl) (by kernel_rfl) (by kernel_rfl) (fun _ _ _ h => h) ⟨by rfl, fun w' hS' => (by obtain ⟨s1, s2, s3⟩ := hS'; go_simp)⟩ hS81 ?_
                simp only [List.getElem_toArray, List.getElem_cons_succ, List.getElem_cons_zero, Act.put, List.setIfInBounds_toArray, List.set_cons_zero, List.set_cons_succ]
                refine anyU_take (i := 2) (v := .slice (some ⟨bX, 0, none⟩) a co) rfl (by kernel_rfl) (by kernel_rfl) (by kernel_rfl) (fun _ _ _ h => h) ⟨by rfl, fun w' hS' => (by obtain ⟨s1, s2, s3⟩ := hS'; simp [go_sem, hay])⟩ hS81 ?_
                simp only [List.getElem_toArray, List.getElem_cons_succ, List.getElem_cons_zero, Act.put, List.setIfInBounds_toArray, List.set_cons_zero, List.set_cons_succ]
                refine anyU_take (i := 3) (v := .agg #[.slice Ac c.code.length cc, .slice Aw c.walk.length cw, .int .i64 (c.cnt : Nat)]) rfl (by kernel_rfl) (by kernel_rfl) (by kernel_rfl) (fun _ _ _ h => h) ⟨by rfl, fun w' hS' => (by obtain ⟨s1, s2, s3⟩ := hS'; go_simp)⟩ hS81 ?_
                simp only [List.getElem_toArray, List.getElem_cons_succ, List.getElem_cons_zero, Act.put, List.setIfInBounds_toArray, List.set_cons_zero, List.set_cons_succ]
                refine anyU_take (i := 6) (v := rv) rfl (by kernel_rfl) (by kernel_rfl) (by kernel_rfl) (fun _ _ _ h => h) ⟨by rfl, fun w' hS' => (by obtain ⟨s1, s2, s3⟩ := hS'; go_simp)⟩ hS81 ?_
                simp only [List.getElem_toArray, List.getElem_cons_succ, List.getElem_cons_zero, Act.put, List.setIfInBounds_toArray, List.set_cons_zero, List.set_cons_succ]
                refine anyU_ready (rs := [4]) (by kernel_rfl) (by simp) ?_
                refine ReadyU.cons (i := 4) rfl (fun K hK => ?_) ReadyU.nil
                simp only [List.getElem_toArray, List.getElem_cons_succ, List.getElem_cons_zero]
                refine ite_is (by rfl) ?_
                simp [go_sem]
                refine hK.out _ _ ⟨fun _ => ⟨(CB80.out.still (grown_alloc _ _)).cell 0 (by simp), (CB80.out.still (grown_alloc _ _)).cell 1 (by simp), (CB80.out.still (grown_alloc _ _)).cell 2 (by simp)⟩, ?_⟩
                clear hK K
                try simp only [List.getElem_toArray, List.getElem_cons_succ, List.getElem_cons_zero, Act.put, List.setIfInBounds_toArray, List.set_cons_zero, List.set_cons_succ]
                refine nameU ?_
                intro W82 HW82
                have hg82 : W80.grownBy W82 none := by rw [HW82.out]; exact grown_alloc _ _
                have BV := Lib.hid (show BoxN W82 W80.heap.size #[.slice Ac c.code.length cc, .slice Aw c.walk.length cw, .int .i64 (c.cnt : Nat)] 46 by rw [HW82.out]; exact BoxN.new _ _ _)
                have hz82 : W80.heap.size < W82.heap.size := BV.out.lt
                clear HW82
                have hs82 := hg82.size
                have HF82 := Lib.hid (HF80.out.still hg82); clear HF80
                have X82 := Lib.hid (CoX.still X80.out hg82); clear X80
                have CB82 := Lib.hid (BoxN.still CB80.out hg82); clear CB80
                have E82 := Lib.hid (ElOk.still E80.out hg82 (by omega)); clear E80
                have HEC3 := Lib.hid (show ∀ y ∈ xs.drop a, ∃ lo hi, WA.heap.size ≤ lo ∧ hi ≤ W82.heap.size ∧ ElOk W82 lo hi y ∧ (∀ g, Value.ownBlock (.slice (some ⟨bX, 0, none⟩) a co) = some g → g < lo ∨ hi ≤ g) ∧ ∀ g, Value.ownBlock (.slice A5 sn.length c5) = some g → g < lo ∨ hi ≤ g from fun y hy => by
                  obtain ⟨lo', hi', a1, a2, a3, a4, a5⟩ := HEC2.out y hy
                  exact ⟨lo', hi', a1, by omega, a3.still hg82 (by omega), a4, a5⟩)
                have R72 := Lib.hid (R71.out.kept hg82 (by cases hrv : Value.ownBlock (rv) with
                  | none => exact .inl rfl
                  | some g => right; simp))
                have X12 := Lib.hid (CoX.still X11.out hg82)
                clear HEC2 R71 X11
                have hS83 : W82.cell? ⟨wq.heap.size, 0, none⟩ = some (.slice Ac c.code.length cc) ∧ W82.cell? ⟨wq.heap.size, 1, none⟩ = some (.slice Aw c.walk.length cw) ∧ W82.cell? ⟨wq.heap.size, 2, none⟩ = some (.int .i64 (c.cnt : Nat)) := ⟨CB82.out.cell 0 (by simp), CB82.out.cell 1 (by simp), CB82.out.cell 2 (by simp)⟩
                clear hS81
                have hlx : ∀ g, Value.ownBlock (.slice (some ⟨bX, 0, none⟩) a co) = some g → WA.heap.size ≤ g ∧ g < top := fun g e => HLX.out g e
                have HLA := Lib.hid hlx; clear hlx
                have HYE := Lib.hid (show ∀ y ∈ [(⟨.slice Ac c.code.length cc, .slice Aw c.walk.length cw, c⟩ : CmpV)], ∃ lo hi, WA.heap.size ≤ lo ∧ hi ≤ W82.heap.size ∧ ElOk W82 lo hi y ∧ (∀ g, Value.ownBlock (.slice (some ⟨bX, 0, none⟩) a co) = some g → g < lo ∨ hi ≤ g) ∧ ∀ g, Value.ownBlock (.slice A5 sn.length c5) = some g → g < lo ∨ hi ≤ g from fun y hy => by
                  rw [List.mem_singleton] at hy
                  subst hy
                  exact ⟨lo, hi, by omega, by omega, E82.out, fun g e => .inl (by have := HLA.out g e; omega), fun g e => .inl (by have := HUC.out g e; omega)⟩)
                refine anyU_ready (rs := [5]) (by kernel_rfl) (by simp) ?_
                refine ReadyU.cons (i := 5) rfl (fun K hK => ?_) ReadyU.nil
                refine step_append_own2 Tryz.underlying43 infoPt rfl (by omega) (by omega) W82 (by rfl) _ (by rfl) X12.out.row (by rfl) _ (owns_box BV.out rfl 0 (Nat.zero_le _)) (by rfl) (by intro u hu; simp only [List.mem_cons, List.not_mem_nil, or_false] at hu; rcases hu with rfl | rfl | rfl <;> rfl) (by rw [HTL.out]; omega) (by omega) ?_
                intro v1 W84 ho1 hg84 hat1
                have hs84 := hg84.size
                have HF84 := Lib.hid (HF82.out.grown hg84 (fun g e => .inr (by have := HLA.out g e; omega))); clear HF82
                have CB84 := Lib.hid (BoxN.far CB82.out hg84 (fun g e => by have := HLA.out g e; omega))
                have X13 := Lib.hid (CoX.app (ys := [(⟨.slice Ac c.code.length cc, .slice Aw c.walk.length cw, c⟩ : CmpV)]) X12.out hg84 ho1 hat1 HYE.out)
                have R73 := Lib.hid (R72.out.kept hg84 (by
                  cases hrv : Value.ownBlock (rv) with
                  | none => exact .inl rfl
                  | some g =>
                    right
                    intro e
                    have h1 := (R72.out.lt g hrv).1
                    have h2 := HLA.out g e.symm
                    omega))
                have HEC4 := Lib.hid (show ∀ y ∈ xs.drop a, ∃ lo hi, WA.heap.size ≤ lo ∧ hi ≤ W84.heap.size ∧ ElOk W84 lo hi y ∧ (∀ g, v1.ownBlock = some g → g < lo ∨ hi ≤ g) ∧ ∀ g, Value.ownBlock (.slice A5 sn.length c5) = some g → g < lo ∨ hi ≤ g from fun y hy => by
                  obtain ⟨lo', hi', a1, a2, a3, a4, a5⟩ := HEC3.out y hy
                  refine ⟨lo', hi', a1, by omega, a3.far hg84 a2 a4, fun g e => ?_, a5⟩
                  rcases hat1 with e1 | ⟨g', e1, h1⟩
                  · exact a4 g (by rw [← e1]; exact e)
                  · rw [e1] at e; injection e with e; omega)
                have HL1 := Lib.hid (show ∀ g, v1.ownBlock = some g → WA.heap.size ≤ g ∧ g ≠ wq.heap.size from fun g e => by
                  refine ⟨(X13.out.lt g e).1, ?_⟩
                  rcases hat1 with e1 | ⟨g', e1, h1⟩
                  · have := HLA.out g (by rw [← e1]; exact e); omega
                  · rw [e1] at e; injection e with e; omega)
                clear HEC3 R72 X12 hat1 HYE CB82 ho1 BV
                have hS85 : W84.cell? ⟨wq.heap.size, 0, none⟩ = some (.slice Ac c.code.length cc) ∧ W84.cell? ⟨wq.heap.size, 1, none⟩ = some (.slice Aw c.walk.length cw) ∧ W84.cell? ⟨wq.heap.size, 2, none⟩ = some (.int .i64 (c.cnt : Nat)) := ⟨CB84.out.cell 0 (by simp), CB84.out.cell 1 (by simp), CB84.out.cell 2 (by simp)⟩
                refine hK.out _ _ ⟨fun _ => hS85, ?_⟩
                clear hK K hS83
                try simp only [List.getElem_toArray, List.getElem_cons_succ, List.getElem_cons_zero, Act.put, List.setIfInBounds_toArray, List.set_cons_zero, List.set_cons_succ]
                refine anyU_ready (rs := [7]) (by kernel_rfl) (by simp) ?_
                refine ReadyU.cons (i := 7) rfl (fun K hK => ?_) ReadyU.nil
                refine step_append_own2 Tryz.underlying43 infoPt rfl (by omega) (by omega) W84 (by rfl) _ (by rfl) X13.out.row (by rfl) _ R73.out (by rfl) HON.out (by rw [HRL.out, List.length_append, HTL.out]; simp; omega) (by omega) ?_
                intro v2 W86 ho2 hg86 hat2
                have hs86 := hg86.size
                have HF86 := Lib.hid (HF84.out.grown hg86 (fun g e => .inr (by have := HL1.out g e; omega))); clear HF84
                have CB86 := Lib.hid (BoxN.far CB84.out hg86 (fun g e => (HL1.out g e).2))
                have X14 := Lib.hid (CoX.app X13.out hg86 ho2 hat2 HEC4.out)
                clear HEC4 R73 X13 hat2 CB84 ho2
                have hS87 : W86.cell? ⟨wq.heap.size, 0, none⟩ = some (.slice Ac c.code.length cc) ∧ W86.cell? ⟨wq.heap.size, 1, none⟩ = some (.slice Aw c.walk.length cw) ∧ W86.cell? ⟨wq.heap.size, 2, none⟩ = some (.int .i64 (c.cnt : Nat)) := ⟨CB86.out.cell 0 (by simp), CB86.out.cell 1 (by simp), CB86.out.cell 2 (by simp)⟩
                refine hK.out _ _ ⟨fun _ => hS87, ?_⟩
                clear hK K hS85
                try simp only [List.getElem_toArray, List.getElem_cons_succ, List.getElem_cons_zero, Act.put, List.setIfInBounds_toArray, List.set_cons_zero, List.set_cons_succ]
                refine anyU_ready (rs := [8]) (by kernel_rfl) (by simp) ?_
                refine ReadyU.cons (i := 8) rfl (fun K hK => ?_) ReadyU.nil
                simp only [List.getElem_toArray, List.getElem_cons_succ, List.getElem_cons_zero]
                refine ite_is (by rfl) ?_
                simp [go_sem]
                refine hK.out _ _ ⟨fun _ => hS87, ?_⟩
                clear hK K
                try simp only [List.getElem_toArray, List.getElem_cons_succ, List.getElem_cons_zero, Act.put, List.setIfInBounds_toArray, List.set_cons_zero, List.set_cons_succ]
                clear hS87
                refine anyU_done (by kernel_rfl) ?_ _
                go_wp2_with fail
                go_roundw
                case rel => exact ⟨k + 1, sn, _, W86.heap.size, by omega, by go_num, HSN2, hsl2, X14, HINS, HF86⟩
                case measure => simp [intOf]; omega
              have HINS := Lib.hid (show (xs.take a ++ [(⟨.slice Ac c.code.length cc, .slice Aw c.walk.length cw, c⟩ : CmpV)] ++ xs.drop a).map CmpV.c = partsTo N (k + 1) by
                have h := insC_at (x := c) (l := partsTo N k) (a := a) (by rw [← HXC.out]; exact HIA.out)
                rw [HPT.out, HCD.out, h, ← HXC.out]
                simp [List.map_take, List.map_drop])
              have hrl : (xs.drop a).length = xs.length - a := List.length_drop
              have htl : (xs.take a).length = a := by rw [List.length_take]; omega
              have HRL := Lib.hid hrl; have HTL := Lib.hid htl; clear hrl htl
              have HLX := Lib.hid X69.out.lt
              have HEB := Lib.hid (show ∀ y ∈ xs.drop a, ∃ lo hi, WA.heap.size ≤ lo ∧ hi ≤ top ∧ ElOk W69 lo hi y ∧ (∀ g, Value.ownBlock (.slice (some ⟨bX, 0, none⟩) xs.length co) = some g → g < lo ∨ hi ≤ g) ∧ ∀ g, Value.ownBlock (.slice A5 sn.length c5) = some g → g < lo ∨ hi ≤ g from fun y hy => X69.out.el y (List.mem_of_mem_drop hy))
              have HE1 := Lib.hid (owns_empty W69 W69.heap.size 46 3 rfl (Nat.le_refl _))
              have hax : (a : Int) ≤ xs.length := by omega
              have hay : (a : Int) ≤ co := by omega
              have haz : a ≤ co := by omega
              have HNW := Lib.hid (show ∀ j u, ((xs.drop a).flatMap encS)[j]? = some u → (W69.alloc (.cells #[] 46)).cell? ((⟨bX, 0, none⟩ : Addr).add j) = some u from fun j u hj => by
                rw [List.drop_eq_nil_of_le HGE.out] at hj
                simp at hj)
              have HON := Lib.hid (show ∀ u ∈ (xs.drop a).flatMap encS, u.oneCell' = true from fun u hu => by
                obtain ⟨y, hy1, hy2⟩ := List.mem_flatMap.1 hu
                obtain ⟨_, _, _, _, hel, _⟩ := HEB.out y hy1
                exact hel.oneS u hy2)
              have HFL := Lib.hid (show ((xs.drop a).flatMap encS).length = (xs.length - a) * 3 by rw [flat_len (enc := encS) (k := 3) (fun _ => rfl), HRL.out])
              go_upto_region 29 with (at_builtin; refine append_row (s := .tmp 96) (n := 0) (m := xs.length - a) Tryz.underlying43 infoPt rfl (by omega) (by omega) (W69.alloc (.cells #[] 46)) rfl (.tmp 99) rfl HE1.out rfl ((xs.drop a).flatMap encS) rfl HFL.out HNW.out HON.out (by omega) (by simp) ?_; intro rv w70 ho70 hg70 hat70)
              have hg71 := grown_new (grown_alloc W69 (.cells #[] 46)) hg70 (fun g e => (HE1.out.lt g e).1)
              have R70 := Lib.hid (show w70.ownsRow W69.heap.size 46 3 rv (xs.drop a).length ((xs.drop a).flatMap encS) by have h := ho70; rw [Nat.zero_add, ← HRL.out] at h; exact h)
              clear ho70 hg70 hat70 HNW
              obtain ⟨W88, rfl⟩ : ∃ W : World, W = w70 := ⟨_, rfl⟩
              have hs88 := hg71.size
              have HF88 := Lib.hid (HF69.out.still hg71); clear HF69
              have X88 := Lib.hid (CoX.still X69.out hg71); clear X69
              have CB88 := Lib.hid (BoxN.still CB69.out hg71); clear CB69
              have E88 := Lib.hid (ElOk.still E69.out hg71 (by omega)); clear E69
              have HEC := Lib.hid (show ∀ y ∈ xs.drop a, ∃ lo hi, WA.heap.size ≤ lo ∧ hi ≤ W88.heap.size ∧ ElOk W88 lo hi y ∧ (∀ g, Value.ownBlock (.slice (some ⟨bX, 0, none⟩) a co) = some g → g < lo ∨ hi ≤ g) ∧ ∀ g, Value.ownBlock (.slice A5 sn.length c5) = some g → g < lo ∨ hi ≤ g from fun y hy => by
                obtain ⟨lo', hi', a1, a2, a3, a4, a5⟩ := HEB.out y hy
                exact ⟨lo', hi', a1, by omega, a3.still hg71 (by omega), a4, a5⟩)
              have X1 := Lib.hid (CoX.first X88.out (fun _ => rfl) hac)
              clear HEB hg71 HE1
              refine wp_region_U (fun w' => w'.cell? ⟨wq.heap.size, 0, none⟩ = some (.slice Ac c.code.length cc) ∧ w'.cell? ⟨wq.heap.size, 1, none⟩ = some (.slice Aw c.walk.length cw) ∧ w'.cell? ⟨wq.heap.size, 2, none⟩ = some (.int .i64 (c.cnt : Nat))) [] (by kernel_rfl) ?_
              refine nameU ?_
              intro W89 HW89
              have hg89 : W88.grownBy W89 none := by rw [HW89.out]; exact grown_drew _
              clear HW89
              have hs89 := hg89.size
              have HF89 := Lib.hid (HF88.out.still hg89); clear HF88
              have X89 := Lib.hid (CoX.still X88.out hg89); clear X88
              have CB89 := Lib.hid (BoxN.still CB88.out hg89); clear CB88
              have E89 := Lib.hid (ElOk.still E88.out hg89 (by omega)); clear E88
              have hS90 : W89.cell? ⟨wq.heap.size, 0, none⟩ = some (.slice Ac c.code.length cc) ∧ W89.cell? ⟨wq.heap.size, 1, none⟩ = some (.slice Aw c.walk.length cw) ∧ W89.cell? ⟨wq.heap.size, 2, none⟩ = some (.int .i64 (c.cnt : Nat)) := ⟨CB89.out.cell 0 (by simp), CB89.out.cell 1 (by simp), CB89.out.cell 2 (by simp)⟩
              have HEC2 := Lib.hid (show ∀ y ∈ xs.drop a, ∃ lo hi, WA.heap.size ≤ lo ∧ hi ≤ W89.heap.size ∧ ElOk W89 lo hi y ∧ (∀ g, Value.ownBlock (.slice (some ⟨bX, 0, none⟩) a co) = some g → g < lo ∨ hi ≤ g) ∧ ∀ g, Value.ownBlock (.slice A5 sn.length c5) = some g → g < lo ∨ hi ≤ g from fun y hy => by
                obtain ⟨lo', hi', a1, a2, a3, a4, a5⟩ := HEC.out y hy
                exact ⟨lo', hi', a1, by omega, a3.still hg89 (by omega), a4, a5⟩)
              have R71 := Lib.hid (R70.out.kept hg89 (by cases hrv : Value.ownBlock (rv) with
                | none => exact .inl rfl
                | some g => right; simp))
              have X11 := Lib.hid (CoX.still X1.out hg89)
              clear HEC R70 X1
              refine anyU_take (i := 0) (v := .slice (some ⟨bX, 0, none⟩) xs.length co) rfl (by kernel_rfl) (by kernel_rfl) (by kernel_rfl) (fun _ _ _ h => h) ⟨by rfl, fun w' hS' => (by obtain ⟨s1, s2, s3⟩ := hS'; go_simp)⟩ hS90 ?_
              simp only [List.getElem_toArray, List.getElem_cons_zero, Act.put, List.setIfInBounds_toArray, List.set_cons_zero, List.set_cons_succ]
              refine anyU_take (i := 1) (v := .int .i64 a) rfl (by kernel_rfl) (by kernel_rfl) (by kernel_rfl) (fun _ _ _ h => h) ⟨by rfl, fun w' hS' => (by obtain ⟨s1, s2, s3⟩ := hS'; go_simp)⟩ hS90 ?_
              simp only [List.getElem_toArray, List.getElem_cons_succ, List.getElem_cons_zero, Act.put, List.setIfInBounds_toArray, List.set_cons_zero, List.set_cons_succ]
              refine anyU_take (i := 2) (v := .slice (some ⟨bX, 0, none⟩) a co) rfl (by kernel_rfl) (by kernel_rfl) (by kernel_rfl) (fun _ _ _ h => h) ⟨by rfl, fun w' hS' => (by obtain ⟨s1, s2, s3⟩ := hS'; simp [go_sem, hay])⟩ hS90 ?_
              simp only [List.getElem_toArray, List.getElem_cons_succ, List.getElem_cons_zero, Act.put, List.setIfInBounds_toArray, List.set_cons_zero, List.set_cons_succ]
              refine anyU_take (i := 3) (v := .agg #[.slice Ac c.code.length cc, .slice Aw c.walk.length cw, .int .i64 (c.cnt : Nat)]) rfl (by kernel_rfl) (by kernel_rfl) (by kernel_rfl) (fun _ _ _ h => h) ⟨by rfl, fun w' hS' => (by obtain ⟨s1, s2, s3⟩ := hS'; go_simp)⟩ hS90 ?_
              simp only [List.getElem_toArray, List.getElem_cons_succ, List.getElem_cons_zero, Act.put, List.setIfInBounds_toArray, List.set_cons_zero, List.set_cons_succ]
              refine anyU_take (i := 6) (v := rv) rfl (by kernel_rfl) (by kernel_rfl) (by kernel_rfl) (fun _ _ _ h => h) ⟨by rfl, fun w' hS' => (by obtain ⟨s1, s2, s3⟩ := hS'; go_simp)⟩ hS90 ?_
              simp only [List.getElem_toArray, List.getElem_cons_succ, List.getElem_cons_zero, Act.put, List.setIfInBounds_toArray, List.set_cons_zero, List.set_cons_succ]
              refine anyU_ready (rs := [4]) (by kernel_rfl) (by simp) ?_
              refine ReadyU.cons (i := 4) rfl (fun K hK => ?_) ReadyU.nil
              simp only [List.getElem_toArray, List.getElem_cons_succ, List.getElem_cons_zero]
              refine ite_is (by rfl) ?_
              simp [go_sem]
              refine hK.out _ _ ⟨fun _ => ⟨(CB89.out.still (grown_alloc _ _)).cell 0 (by simp), (CB89.out.still (grown_alloc _ _)).cell 1 (by simp), (CB89.out.still (grown_alloc _ _)).cell 2 (by simp)⟩, ?_⟩
              clear hK K
              try simp only [List.getElem_toArray, List.getElem_cons_succ, List.getElem_cons_zero, Act.put, List.setIfInBounds_toArray, List.set_cons_zero, List.set_cons_succ]
              refine nameU ?_
              intro W91 HW91
              have hg91 : W89.grownBy W91 none := by rw [HW91.out]; exact grown_alloc _ _
              have BV := Lib.hid (show BoxN W91 W89.heap.size #[.slice Ac c.code.length cc, .slice Aw c.walk.length cw, .int .i64 (c.cnt : Nat)] 46 by rw [HW91.out]; exact BoxN.new _ _ _)
              have hz91 : W89.heap.size < W91.heap.size := BV.out.lt
              clear HW91
              have hs91 := hg91.size
              have HF91 := Lib.hid (HF89.out.still hg91); clear HF89
              have X91 := Lib.hid (CoX.still X89.out hg91); clear X89
              have CB91 := Lib.hid (BoxN.still CB89.out hg91); clear CB89
              have E91 := Lib.hid (ElOk.still E89.out hg91 (by omega)); clear E89
              have HEC3 := Lib.hid (show ∀ y ∈ xs.drop a, ∃ lo hi, WA.heap.size ≤ lo ∧ hi ≤ W91.heap.size ∧ ElOk W91 lo hi y ∧ (∀ g, Value.ownBlock (.slice (some ⟨bX, 0, none⟩) a co) = some g → g < lo ∨ hi ≤ g) ∧ ∀ g, Value.ownBlock (.slice A5 sn.length c5) = some g → g < lo ∨ hi ≤ g from fun y hy => by
                obtain ⟨lo', hi', a1, a2, a3, a4, a5⟩ := HEC2.out y hy
                exact ⟨lo', hi', a1, by omega, a3.still hg91 (by omega), a4, a5⟩)
              have R72 := Lib.hid (R71.out.kept hg91 (by cases hrv : Value.ownBlock (rv) with
                | none => exact .inl rfl
                | some g => right; simp))
              have X12 := Lib.hid (CoX.still X11.out hg91)
              clear HEC2 R71 X11
              have hS92 : W91.cell? ⟨wq.heap.size, 0, none⟩ = some (.slice Ac c.code.length cc) ∧ W91.cell? ⟨wq.heap.size, 1, none⟩ = some (.slice Aw c.walk.length cw) ∧ W91.cell? ⟨wq.heap.size, 2, none⟩ = some (.int .i64 (c.cnt : Nat)) := ⟨CB91.out.cell 0 (by simp), CB91.out.cell 1 (by simp), CB91.out.cell 2 (by simp)⟩
              clear hS90
              have hlx : ∀ g, Value.ownBlock (.slice (some ⟨bX, 0, none⟩) a co) = some g → WA.heap.size ≤ g ∧ g < top := fun g e => HLX.out g e
              have HLA := Lib.hid hlx; clear hlx
              have HYE := Lib.hid (show ∀ y ∈ [(⟨.slice Ac c.code.length cc, .slice Aw c.walk.length cw, c⟩ : CmpV)], ∃ lo hi, WA.heap.size ≤ lo ∧ hi ≤ W91.heap.size ∧ ElOk W91 lo hi y ∧ (∀ g, Value.ownBlock (.slice (some ⟨bX, 0, none⟩) a co) = some g → g < lo ∨ hi ≤ g) ∧ ∀ g, Value.ownBlock (.slice A5 sn.length c5) = some g → g < lo ∨ hi ≤ g from fun y hy => by
                rw [List.mem_singleton] at hy
                subst hy
                exact ⟨lo, hi, by omega, by omega, E91.out, fun g e => .inl (by have := HLA.out g e; omega), fun g e => .inl (by have := HUC.out g e; omega)⟩)
              refine anyU_ready (rs := [5]) (by kernel_rfl) (by simp) ?_
              refine ReadyU.cons (i := 5) rfl (fun K hK => ?_) ReadyU.nil
              refine step_append_own2 Tryz.underlying43 infoPt rfl (by omega) (by omega) W91 (by rfl) _ (by rfl) X12.out.row (by rfl) _ (owns_box BV.out rfl 0 (Nat.zero_le _)) (by rfl) (by intro u hu; simp only [List.mem_cons, List.not_mem_nil, or_false] at hu; rcases hu with rfl | rfl | rfl <;> rfl) (by rw [HTL.out]; omega) (by omega) ?_
              intro v1 W93 ho1 hg93 hat1
              have hs93 := hg93.size
              have HF93 := Lib.hid (HF91.out.grown hg93 (fun g e => .inr (by have := HLA.out g e; omega))); clear HF91
              have CB93 := Lib.hid (BoxN.far CB91.out hg93 (fun g e => by have := HLA.out g e; omega))
              have X13 := Lib.hid (CoX.app (ys := [(⟨.slice Ac c.code.length cc, .slice Aw c.walk.length cw, c⟩ : CmpV)]) X12.out hg93 ho1 hat1 HYE.out)
              have R73 := Lib.hid (R72.out.kept hg93 (by
                cases hrv : Value.ownBlock (rv) with
                | none => exact .inl rfl
                | some g =>
                  right
                  intro e
                  have h1 := (R72.out.lt g hrv).1
                  have h2 := HLA.out g e.symm
                  omega))
              have HEC4 := Lib.hid (show ∀ y ∈ xs.drop a, ∃ lo hi, WA.heap.size ≤ lo ∧ hi ≤ W93.heap.size ∧ ElOk W93 lo hi y ∧ (∀ g, v1.ownBlock = some g → g < lo ∨ hi ≤ g) ∧ ∀ g, Value.ownBlock (.slice A5 sn.length c5) = some g → g < lo ∨ hi ≤ g from fun y hy => by
                obtain ⟨lo', hi', a1, a2, a3, a4, a5⟩ := HEC3.out y hy
                refine ⟨lo', hi', a1, by omega, a3.far hg93 a2 a4, fun g e => ?_, a5⟩
                rcases hat1 with e1 | ⟨g', e1, h1⟩
                · exact a4 g (by rw [← e1]; exact e)
                · rw [e1] at e; injection e with e; omega)
              have HL1 := Lib.hid (show ∀ g, v1.ownBlock = some g → WA.heap.size ≤ g ∧ g ≠ wq.heap.size from fun g e => by
                refine ⟨(X13.out.lt g e).1, ?_⟩
                rcases hat1 with e1 | ⟨g', e1, h1⟩
                · have := HLA.out g (by rw [← e1]; exact e); omega
                · rw [e1] at e; injection e with e; omega)
              clear HEC3 R72 X12 hat1 HYE CB91 ho1 BV
              have hS94 : W93.cell? ⟨wq.heap.size, 0, none⟩ = some (.slice Ac c.code.length cc) ∧ W93.cell? ⟨wq.heap.size, 1, none⟩ = some (.slice Aw c.walk.length cw) ∧ W93.cell? ⟨wq.heap.size, 2, none⟩ = some (.int .i64 (c.cnt : Nat)) := ⟨CB93.out.cell 0 (by simp), CB93.out.cell 1 (by simp), CB93.out.cell 2 (by simp)⟩
              refine hK.out _ _ ⟨fun _ => hS94, ?_⟩
              clear hK K hS92
              try simp only [List.getElem_toArray, List.getElem_cons_succ, List.getElem_cons_zero, Act.put, List.setIfInBounds_toArray, List.set_cons_zero, List.set_cons_succ]
              refine anyU_ready (rs := [7]) (by kernel_rfl) (by simp) ?_
              refine ReadyU.cons (i := 7) rfl (fun K hK => ?_) ReadyU.nil
              refine step_append_own2 Tryz.underlying43 infoPt rfl (by omega) (by omega) W93 (by rfl) _ (by rfl) X13.out.row (by rfl) _ R73.out (by rfl) HON.out (by rw [HRL.out, List.length_append, HTL.out]; simp; omega) (by omega) ?_
              intro v2 W95 ho2 hg95 hat2
              have hs95 := hg95.size
              have HF95 := Lib.hid (HF93.out.grown hg95 (fun g e => .inr (by have := HL1.out g e; omega))); clear HF93
              have CB95 := Lib.hid (BoxN.far CB93.out hg95 (fun g e => (HL1.out g e).2))
              have X14 := Lib.hid (CoX.app X13.out hg95 ho2 hat2 HEC4.out)
              clear HEC4 R73 X13 hat2 CB93 ho2
              have hS96 : W95.cell? ⟨wq.heap.size, 0, none⟩ = some (.slice Ac c.code.length cc) ∧ W95.cell? ⟨wq.heap.size, 1, none⟩ = some (.slice Aw c.walk.length cw) ∧ W95.cell? ⟨wq.heap.size, 2, none⟩ = some (.int .i64 (c.cnt : Nat)) := ⟨CB95.out.cell 0 (by simp), CB95.out.cell 1 (by simp), CB95.out.cell 2 (by simp)⟩
              refine hK.out _ _ ⟨fun _ => hS96, ?_⟩
              clear hK K hS94
              try simp only [List.getElem_toArray, List.getElem_cons_succ, List.getElem_cons_zero, Act.put, List.setIfInBounds_toArray, List.set_cons_zero, List.set_cons_succ]
              refine anyU_ready (rs := [8]) (by kernel_rfl) (by simp) ?_
              refine ReadyU.cons (i := 8) rfl (fun K hK => ?_) ReadyU.nil
              simp only [List.getElem_toArray, List.getElem_cons_succ, List.getElem_cons_zero]
              refine ite_is (by rfl) ?_
              simp [go_sem]
              refine hK.out _ _ ⟨fun _ => hS96, ?_⟩
              clear hK K
              try simp only [List.getElem_toArray, List.getElem_cons_succ, List.getElem_cons_zero, Act.put, List.setIfInBounds_toArray, List.set_cons_zero, List.set_cons_succ]
              clear hS96
              refine anyU_done (by kernel_rfl) ?_ _
              go_wp2_with fail
              go_roundw
              case rel => exact ⟨k + 1, sn, _, W95.heap.size, by omega, by go_num, HSN2, hsl2, X14, HINS, HF95⟩
              case measure => simp [intOf]; omega
          have hki4 : (a : Int) < xs.length := by omega
          cases Ao with
          | none => exact absurd HX.out.none_.2.2 (by omega)
          | some ad =>
            obtain ⟨bX, rfl, hbX1, hbX2⟩ := HX.out.some_
            obtain ⟨b, cX, eb, _, _, _, _, hcl⟩ := HX.out.co.cells (fun _ => rfl) (by omega) (by omega)
            injection eb with eb1 _ eb2
            injection eb1 with eb1
            injection eb1 with eb1 _ _
            subst eb1 eb2
            have hxm : xs[a] ∈ xs := List.getElem_mem hal
            obtain ⟨lo4, hi4, _, hi4t, hE4, _⟩ := HX.out.co.el _ hxm
            have q0 := (hcl a hal 0 _ (by omega) rfl).1
            rw [Nat.add_zero] at q0
            have hE4c := hE4.code
            clear hcl hxm hE4
            obtain ⟨x, HXK⟩ : ∃ x, Hid (xs[a] = x) := ⟨_, Lib.hid rfl⟩
            rw [HXK.out] at q0 hE4c
            obtain ⟨xc, xw, xd⟩ := x
            dsimp only at q0 hE4c
            obtain ⟨A9, c9, rfl, hc9, hd9⟩ := hE4c.dims
            have HE4 := Lib.hid hE4c; clear hE4c
            obtain ⟨q, HQ⟩ : ∃ q, Hid (ltL c.code xd.code = q) := ⟨_, Lib.hid rfl⟩
            have e0 : ∀ p, (ext wv p).cell? ⟨wq.heap.size, 0, none⟩ = some (.slice Ac c.code.length cc) := ext_cell wv (a := ⟨wq.heap.size, 0, none⟩) hgC2 (HB.out.cell 0 (by simp))
            have e1 : ∀ p, (ext wv p).cell? ⟨wq.heap.size, 1, none⟩ = some (.slice Aw c.walk.length cw) := ext_cell wv (a := ⟨wq.heap.size, 1, none⟩) hgC2 (HB.out.cell 1 (by simp))
            have e2 : ∀ p, (ext wv p).cell? ⟨wq.heap.size, 2, none⟩ = some (.int .i64 (c.cnt : Nat)) := ext_cell wv (a := ⟨wq.heap.size, 2, none⟩) hgC2 (HB.out.cell 2 (by simp))
            have eq0 : ∀ p, (ext wv p).cell? ⟨bX, a * 3, none⟩ = some (.slice A9 xd.code.length c9) := ext_cell wv (a := ⟨bX, a * 3, none⟩) (by show bX < _; omega) q0
            clear q0
            have HBE := Lib.hid (fun p => (isBefore_any _ c.code lo hi (.slice A9 xd.code.length c9) xd.code lo4 hi4 (ext wv p) (IntS.below HE.out.code (ext_below _ _) (by omega)) (by have := ext_size wv p; omega) (IntS.below HE4.out (ext_below _ _) (by omega)) (by have := ext_size wv p; omega)))
            rw [HQ.out] at HBE
            cases q
            case false =>
              go_wp2_with fail
              refine wp_region_ext (by kernel_rfl) (by kernel_rfl) ?_
              repeat (go_big_quiet_step ((first | (go_at_call 42; exact ext_call (HBE.out _)))))
              refine wpQuiet_nil ?_
              rintro w1 ⟨p, rfl⟩
              clear e0 e1 e2 eq0
              obtain ⟨W97, HW97⟩ : ∃ W, Hid (W = ext wv p) := ⟨_, Lib.hid rfl⟩
              rw [← HW97.out]
              have hg97 : wv.grownBy W97 none := by rw [HW97.out]; exact grown_below (ext_below _ _)
              clear HW97
              have hs97 := hg97.size
              have HF97 := Lib.hid (HF68.out.still hg97); clear HF68
              have X97 := Lib.hid (CoX.still HX.out hg97); clear HX
              have CB97 := Lib.hid (BoxN.still HB.out hg97); clear HB
              have E97 := Lib.hid (ElOk.still HE.out hg97 (by omega)); clear HE
              go_wp2_with fail
              go_roundw
              case rel =>
                refine ⟨a + 1, by omega, by go_num, Lib.hid (fun j h hj => ?_), X97, CB97, E97, by omega, HF97⟩
                by_cases e : j = a
                · subst e; rw [HXK.out]; exact HQ.out
                · exact HLT.out j h (by omega)
              case measure => simp [intOf]; omega
            case true =>
              have hac : a ≤ xs.length := by omega
              have HIA := Lib.hid (show InsAt c (xs.map CmpV.c) a from ⟨by simpa using hac, fun j hj hja => by rw [List.getElem_map]; exact HLT.out j (by simpa using hj) hja, fun h => by rw [List.getElem_map, HXK.out]; exact HQ.out⟩)
              go_wp2_with fail
              refine wp_region_ext (by kernel_rfl) (by kernel_rfl) ?_
              repeat (go_big_quiet_step ((first | (go_at_call 42; exact ext_call (HBE.out _)))))
              refine wpQuiet_nil ?_
              rintro w1 ⟨p, rfl⟩
              clear e0 e1 e2 eq0
              obtain ⟨W98, HW98⟩ : ∃ W, Hid (W = ext wv p) := ⟨_, Lib.hid rfl⟩
              rw [← HW98.out]
              have hg98 : wv.grownBy W98 none := by rw [HW98.out]; exact grown_below (ext_below _ _)
              clear HW98
              have hs98 := hg98.size
              have HF98 := Lib.hid (HF68.out.still hg98); clear HF68
              have X98 := Lib.hid (CoX.still HX.out hg98); clear HX
              have CB98 := Lib.hid (BoxN.still HB.out hg98); clear HB
              have E98 := Lib.hid (ElOk.still HE.out hg98 (by omega)); clear HE
              clear HBE HE4
              have HINS := Lib.hid (show (xs.take a ++ [(⟨.slice Ac c.code.length cc, .slice Aw c.walk.length cw, c⟩ : CmpV)] ++ xs.drop a).map CmpV.c = partsTo N (k + 1) by
                have h := insC_at (x := c) (l := partsTo N k) (a := a) (by rw [← HXC.out]; exact HIA.out)
                rw [HPT.out, HCD.out, h, ← HXC.out]
                simp [List.map_take, List.map_drop])
              have hrl : (xs.drop a).length = xs.length - a := List.length_drop
              have htl : (xs.take a).length = a := by rw [List.length_take]; omega
              have HRL := Lib.hid hrl; have HTL := Lib.hid htl; clear hrl htl
              have HLX := Lib.hid X98.out.lt
              have HEB := Lib.hid (show ∀ y ∈ xs.drop a, ∃ lo hi, WA.heap.size ≤ lo ∧ hi ≤ top ∧ ElOk W98 lo hi y ∧ (∀ g, Value.ownBlock (.slice (some ⟨bX, 0, none⟩) xs.length co) = some g → g < lo ∨ hi ≤ g) ∧ ∀ g, Value.ownBlock (.slice A5 sn.length c5) = some g → g < lo ∨ hi ≤ g from fun y hy => X98.out.el y (List.mem_of_mem_drop hy))
              have HE1 := Lib.hid (owns_empty W98 W98.heap.size 46 3 rfl (Nat.le_refl _))
              have hax : (a : Int) ≤ xs.length := by omega
              have hay : (a : Int) ≤ co := by omega
              have haz : a ≤ co := by omega
              have HNW := Lib.hid (show ∀ j u, ((xs.drop a).flatMap encS)[j]? = some u → (W98.alloc (.cells #[] 46)).cell? ((⟨bX, a * 3, none⟩ : Addr).add j) = some u from fun j u hj => by
                rw [Go.WideShapes.add_plain, (below_a1 W98 (.cells #[] 46)).cell (p := ⟨bX, a * 3 + j, none⟩) (by show bX < _; omega)]
                exact CoS.news X98.out.co (fun _ => rfl) j u hj)
              have HON := Lib.hid (show ∀ u ∈ (xs.drop a).flatMap encS, u.oneCell' = true from fun u hu => by
                obtain ⟨y, hy1, hy2⟩ := List.mem_flatMap.1 hu
                obtain ⟨_, _, _, _, hel, _⟩ := HEB.out y hy1
                exact hel.oneS u hy2)
              have HFL := Lib.hid (show ((xs.drop a).flatMap encS).length = (xs.length - a) * 3 by rw [flat_len (enc := encS) (k := 3) (fun _ => rfl), HRL.out])
              go_upto_region 29 with (at_builtin; refine append_row (s := .tmp 96) (n := 0) (m := xs.length - a) Tryz.underlying43 infoPt rfl (by omega) (by omega) (W98.alloc (.cells #[] 46)) rfl (.tmp 99) rfl HE1.out rfl ((xs.drop a).flatMap encS) rfl HFL.out HNW.out HON.out (by omega) (by simp) ?_; intro rv w70 ho70 hg70 hat70)
              have hg71 := grown_new (grown_alloc W98 (.cells #[] 46)) hg70 (fun g e => (HE1.out.lt g e).1)
              have R70 := Lib.hid (show w70.ownsRow W98.heap.size 46 3 rv (xs.drop a).length ((xs.drop a).flatMap encS) by have h := ho70; rw [Nat.zero_add, ← HRL.out] at h; exact h)
              clear ho70 hg70 hat70 HNW
              obtain ⟨W99, rfl⟩ : ∃ W : World, W = w70 := ⟨_, rfl⟩
              have hs99 := hg71.size
              have HF99 := Lib.hid (HF98.out.still hg71); clear HF98
              have X99 := Lib.hid (CoX.still X98.out hg71); clear X98
              have CB99 := Lib.hid (BoxN.still CB98.out hg71); clear CB98
              have E99 := Lib.hid (ElOk.still E98.out hg71 (by omega)); clear E98
              have HEC := Lib.hid (show ∀ y ∈ xs.drop a, ∃ lo hi, WA.heap.size ≤ lo ∧ hi ≤ W99.heap.size ∧ ElOk W99 lo hi y ∧ (∀ g, Value.ownBlock (.slice (some ⟨bX, 0, none⟩) a co) = some g → g < lo ∨ hi ≤ g) ∧ ∀ g, Value.ownBlock (.slice A5 sn.length c5) = some g → g < lo ∨ hi ≤ g from fun y hy => by
                obtain ⟨lo', hi', a1, a2, a3, a4, a5⟩ := HEB.out y hy
                exact ⟨lo', hi', a1, by omega, a3.still hg71 (by omega), a4, a5⟩)
              have X1 := Lib.hid (CoX.first X99.out (fun _ => rfl) hac)
              clear HEB hg71 HE1
              refine wp_region_U (fun w' => w'.cell? ⟨wq.heap.size, 0, none⟩ = some (.slice Ac c.code.length cc) ∧ w'.cell? ⟨wq.heap.size, 1, none⟩ = some (.slice Aw c.walk.length cw) ∧ w'.cell? ⟨wq.heap.size, 2, none⟩ = some (.int .i64 (c.cnt : Nat))) [] (by kernel_rfl) ?_
              refine nameU ?_
              intro W100 HW100
              have hg100 : W99.grownBy W100 none := by rw [HW100.out]; exact grown_drew _
              clear HW100
              have hs100 := hg100.size
              have HF100 := Lib.hid (HF99.out.still hg100); clear HF99
              have X100 := Lib.hid (CoX.still X99.out hg100); clear X99
              have CB100 := Lib.hid (BoxN.still CB99.out hg100); clear CB99
              have E100 := Lib.hid (ElOk.still E99.out hg100 (by omega)); clear E99
              have hS101 : W100.cell? ⟨wq.heap.size, 0, none⟩ = some (.slice Ac c.code.length cc) ∧ W100.cell? ⟨wq.heap.size, 1, none⟩ = some (.slice Aw c.walk.length cw) ∧ W100.cell? ⟨wq.heap.size, 2, none⟩ = some (.int .i64 (c.cnt : Nat)) := ⟨CB100.out.cell 0 (by simp), CB100.out.cell 1 (by simp), CB100.out.cell 2 (by simp)⟩
              have HEC2 := Lib.hid (show ∀ y ∈ xs.drop a, ∃ lo hi, WA.heap.size ≤ lo ∧ hi ≤ W100.heap.size ∧ ElOk W100 lo hi y ∧ (∀ g, Value.ownBlock (.slice (some ⟨bX, 0, none⟩) a co) = some g → g < lo ∨ hi ≤ g) ∧ ∀ g, Value.ownBlock (.slice A5 sn.length c5) = some g → g < lo ∨ hi ≤ g from fun y hy => by
                obtain ⟨lo', hi', a1, a2, a3, a4, a5⟩ := HEC.out y hy
                exact ⟨lo', hi', a1, by omega, a3.still hg100 (by omega), a4, a5⟩)
              have R71 := Lib.hid (R70.out.kept hg100 (by cases hrv : Value.ownBlock (rv) with
                | none => exact .inl rfl
                | some g => right; simp))
              have X11 := Lib.hid (CoX.still X1.out hg100)
              clear HEC R70 X1
              refine anyU_take (i := 0) (v := .slice (some ⟨bX, 0, none⟩) xs.length co) rfl (by kernel_rfl) (by kernel_rfl) (by kernel_rfl) (fun _ _ _ h => h) ⟨by rfl, fun w' hS' => (by obtain ⟨s1, s2, s3⟩ := hS'; go_simp)⟩ hS101 ?_
              simp only [List.getElem_toArray, List.getElem_cons_zero, Act.put, List.setIfInBounds_toArray, List.set_cons_zero, List.set_cons_succ]
              refine anyU_take (i := 1) (v := .int .i64 a) rfl (by kernel_rfl) (by kernel_rfl) (by kernel_rfl) (fun _ _ _ h => h) ⟨by rfl, fun w' hS' => (by obtain ⟨s1, s2, s3⟩ := hS'; go_simp)⟩ hS101 ?_
              simp only [List.getElem_toArray, List.getElem_cons_succ, List.getElem_cons_zero, Act.put, List.setIfInBounds_toArray, List.set_cons_zero, List.set_cons_succ]
              refine anyU_take (i := 2) (v := .slice (some ⟨bX, 0, none⟩) a co) rfl (by kernel_rfl) (by kernel_rfl) (by kernel_rfl) (fun _ _ _ h => h) ⟨by rfl, fun w' hS' => (by obtain ⟨s1, s2, s3⟩ := hS'; simp [go_sem, hay])⟩ hS101 ?_
              simp only [List.getElem_toArray, List.getElem_cons_succ, List.getElem_cons_zero, Act.put, List.setIfInBounds_toArray, List.set_cons_zero, List.set_cons_succ]
              refine anyU_take (i := 3) (v := .agg #[.slice Ac c.code.length cc, .slice Aw c.walk.length cw, .int .i64 (c.cnt : Nat)]) rfl (by kernel_rfl) (by kernel_rfl) (by kernel_rfl) (fun _ _ _ h => h) ⟨by rfl, fun w' hS' => (by obtain ⟨s1, s2, s3⟩ := hS'; go_simp)⟩ hS101 ?_
              simp only [List.getElem_toArray, List.getElem_cons_succ, List.getElem_cons_zero, Act.put, List.setIfInBounds_toArray, List.set_cons_zero, List.set_cons_succ]
              refine anyU_take (i := 6) (v := rv) rfl (by kernel_rfl) (by kernel_rfl) (by kernel_rfl) (fun _ _ _ h => h) ⟨by rfl, fun w' hS' => (by obtain ⟨s1, s2, s3⟩ := hS'; go_simp)⟩ hS101 ?_
              simp only [List.getElem_toArray, List.getElem_cons_succ, List.getElem_cons_zero, Act.put, List.setIfInBounds_toArray, List.set_cons_zero, List.set_cons_succ]
              refine anyU_ready (rs := [4]) (by kernel_rfl) (by simp) ?_
              refine ReadyU.cons (i := 4) rfl (fun K hK => ?_) ReadyU.nil
              simp only [List.getElem_toArray, List.getElem_cons_succ, List.getElem_cons_zero]
              refine ite_is (by rfl) ?_
              simp [go_sem]
              refine hK.out _ _ ⟨fun _ => ⟨(CB100.out.still (grown_alloc _ _)).cell 0 (by simp), (CB100.out.still (grown_alloc _ _)).cell 1 (by simp), (CB100.out.still (grown_alloc _ _)).cell 2 (by simp)⟩, ?_⟩
              clear hK K
              try simp only [List.getElem_toArray, List.getElem_cons_succ, List.getElem_cons_zero, Act.put, List.setIfInBounds_toArray, List.set_cons_zero, List.set_cons_succ]
              refine nameU ?_
              intro W102 HW102
              have hg102 : W100.grownBy W102 none := by rw [HW102.out]; exact grown_alloc _ _
              have BV := Lib.hid (show BoxN W102 W100.heap.size #[.slice Ac c.code.length cc, .slice Aw c.walk.length cw, .int .i64 (c.cnt : Nat)] 46 by rw [HW102.out]; exact BoxN.new _ _ _)
              have hz102 : W100.heap.size < W102.heap.size := BV.out.lt
              clear HW102
              have hs102 := hg102.size
              have HF102 := Lib.hid (HF100.out.still hg102); clear HF100
              have X102 := Lib.hid (CoX.still X100.out hg102); clear X100
              have CB102 := Lib.hid (BoxN.still CB100.out hg102); clear CB100
              have E102 := Lib.hid (ElOk.still E100.out hg102 (by omega)); clear E100
              have HEC3 := Lib.hid (show ∀ y ∈ xs.drop a, ∃ lo hi, WA.heap.size ≤ lo ∧ hi ≤ W102.heap.size ∧ ElOk W102 lo hi y ∧ (∀ g, Value.ownBlock (.slice (some ⟨bX, 0, none⟩) a co) = some g → g < lo ∨ hi ≤ g) ∧ ∀ g, Value.ownBlock (.slice A5 sn.length c5) = some g → g < lo ∨ hi ≤ g from fun y hy => by
                obtain ⟨lo', hi', a1, a2, a3, a4, a5⟩ := HEC2.out y hy
                exact ⟨lo', hi', a1, by omega, a3.still hg102 (by omega), a4, a5⟩)
              have R72 := Lib.hid (R71.out.kept hg102 (by cases hrv : Value.ownBlock (rv) with
                | none => exact .inl rfl
                | some g => right; simp))
              have X12 := Lib.hid (CoX.still X11.out hg102)
              clear HEC2 R71 X11
              have hS103 : W102.cell? ⟨wq.heap.size, 0, none⟩ = some (.slice Ac c.code.length cc) ∧ W102.cell? ⟨wq.heap.size, 1, none⟩ = some (.slice Aw c.walk.length cw) ∧ W102.cell? ⟨wq.heap.size, 2, none⟩ = some (.int .i64 (c.cnt : Nat)) := ⟨CB102.out.cell 0 (by simp), CB102.out.cell 1 (by simp), CB102.out.cell 2 (by simp)⟩
              clear hS101
              have hlx : ∀ g, Value.ownBlock (.slice (some ⟨bX, 0, none⟩) a co) = some g → WA.heap.size ≤ g ∧ g < top := fun g e => HLX.out g e
              have HLA := Lib.hid hlx; clear hlx
              have HYE := Lib.hid (show ∀ y ∈ [(⟨.slice Ac c.code.length cc, .slice Aw c.walk.length cw, c⟩ : CmpV)], ∃ lo hi, WA.heap.size ≤ lo ∧ hi ≤ W102.heap.size ∧ ElOk W102 lo hi y ∧ (∀ g, Value.ownBlock (.slice (some ⟨bX, 0, none⟩) a co) = some g → g < lo ∨ hi ≤ g) ∧ ∀ g, Value.ownBlock (.slice A5 sn.length c5) = some g → g < lo ∨ hi ≤ g from fun y hy => by
                rw [List.mem_singleton] at hy
                subst hy
                exact ⟨lo, hi, by omega, by omega, E102.out, fun g e => .inl (by have := HLA.out g e; omega), fun g e => .inl (by have := HUC.out g e; omega)⟩)
              refine anyU_ready (rs := [5]) (by kernel_rfl) (by simp) ?_
              refine ReadyU.cons (i := 5) rfl (fun K hK => ?_) ReadyU.nil
              refine step_append_own2 Tryz.underlying43 infoPt rfl (by omega) (by omega) W102 (by rfl) _ (by rfl) X12.out.row (by rfl) _ (owns_box BV.out rfl 0 (Nat.zero_le _)) (by rfl) (by intro u hu; simp only [List.mem_cons, List.not_mem_nil, or_false] at hu; rcases hu with rfl | rfl | rfl <;> rfl) (by rw [HTL.out]; omega) (by omega) ?_
              intro v1 W104 ho1 hg104 hat1
              have hs104 := hg104.size
              have HF104 := Lib.hid (HF102.out.grown hg104 (fun g e => .inr (by have := HLA.out g e; omega))); clear HF102
              have CB104 := Lib.hid (BoxN.far CB102.out hg104 (fun g e => by have := HLA.out g e; omega))
              have X13 := Lib.hid (CoX.app (ys := [(⟨.slice Ac c.code.length cc, .slice Aw c.walk.length cw, c⟩ : CmpV)]) X12.out hg104 ho1 hat1 HYE.out)
              have R73 := Lib.hid (R72.out.kept hg104 (by
                cases hrv : Value.ownBlock (rv) with
                | none => exact .inl rfl
                | some g =>
                  right
                  intro e
                  have h1 := (R72.out.lt g hrv).1
                  have h2 := HLA.out g e.symm
                  omega))
              have HEC4 := Lib.hid (show ∀ y ∈ xs.drop a, ∃ lo hi, WA.heap.size ≤ lo ∧ hi ≤ W104.heap.size ∧ ElOk W104 lo hi y ∧ (∀ g, v1.ownBlock = some g → g < lo ∨ hi ≤ g) ∧ ∀ g, Value.ownBlock (.slice A5 sn.length c5) = some g → g < lo ∨ hi ≤ g from fun y hy => by
                obtain ⟨lo', hi', a1, a2, a3, a4, a5⟩ := HEC3.out y hy
                refine ⟨lo', hi', a1, by omega, a3.far hg104 a2 a4, fun g e => ?_, a5⟩
                rcases hat1 with e1 | ⟨g', e1, h1⟩
                · exact a4 g (by rw [← e1]; exact e)
                · rw [e1] at e; injection e with e; omega)
              have HL1 := Lib.hid (show ∀ g, v1.ownBlock = some g → WA.heap.size ≤ g ∧ g ≠ wq.heap.size from fun g e => by
                refine ⟨(X13.out.lt g e).1, ?_⟩
                rcases hat1 with e1 | ⟨g', e1, h1⟩
                · have := HLA.out g (by rw [← e1]; exact e); omega
                · rw [e1] at e; injection e with e; omega)
              clear HEC3 R72 X12 hat1 HYE CB102 ho1 BV
              have hS105 : W104.cell? ⟨wq.heap.size, 0, none⟩ = some (.slice Ac c.code.length cc) ∧ W104.cell? ⟨wq.heap.size, 1, none⟩ = some (.slice Aw c.walk.length cw) ∧ W104.cell? ⟨wq.heap.size, 2, none⟩ = some (.int .i64 (c.cnt : Nat)) := ⟨CB104.out.cell 0 (by simp), CB104.out.cell 1 (by simp), CB104.out.cell 2 (by simp)⟩
              refine hK.out _ _ ⟨fun _ => hS105, ?_⟩
              clear hK K hS103
              try simp only [List.getElem_toArray, List.getElem_cons_succ, List.getElem_cons_zero, Act.put, List.setIfInBounds_toArray, List.set_cons_zero, List.set_cons_succ]
              refine anyU_ready (rs := [7]) (by kernel_rfl) (by simp) ?_
              refine ReadyU.cons (i := 7) rfl (fun K hK => ?_) ReadyU.nil
              refine step_append_own2 Tryz.underlying43 infoPt rfl (by omega) (by omega) W104 (by rfl) _ (by rfl) X13.out.row (by rfl) _ R73.out (by rfl) HON.out (by rw [HRL.out, List.length_append, HTL.out]; simp; omega) (by omega) ?_
              intro v2 W106 ho2 hg106 hat2
              have hs106 := hg106.size
              have HF106 := Lib.hid (HF104.out.grown hg106 (fun g e => .inr (by have := HL1.out g e; omega))); clear HF104
              have CB106 := Lib.hid (BoxN.far CB104.out hg106 (fun g e => (HL1.out g e).2))
              have X14 := Lib.hid (CoX.app X13.out hg106 ho2 hat2 HEC4.out)
              clear HEC4 R73 X13 hat2 CB104 ho2
              have hS107 : W106.cell? ⟨wq.heap.size, 0, none⟩ = some (.slice Ac c.code.length cc) ∧ W106.cell? ⟨wq.heap.size, 1, none⟩ = some (.slice Aw c.walk.length cw) ∧ W106.cell? ⟨wq.heap.size, 2, none⟩ = some (.int .i64 (c.cnt : Nat)) := ⟨CB106.out.cell 0 (by simp), CB106.out.cell 1 (by simp), CB106.out.cell 2 (by simp)⟩
              refine hK.out _ _ ⟨fun _ => hS107, ?_⟩
              clear hK K hS105
              try simp only [List.getElem_toArray, List.getElem_cons_succ, List.getElem_cons_zero, Act.put, List.setIfInBounds_toArray, List.set_cons_zero, List.set_cons_succ]
              refine anyU_ready (rs := [8]) (by kernel_rfl) (by simp) ?_
              refine ReadyU.cons (i := 8) rfl (fun K hK => ?_) ReadyU.nil
              simp only [List.getElem_toArray, List.getElem_cons_succ, List.getElem_cons_zero]
              refine ite_is (by rfl) ?_
              simp [go_sem]
              refine hK.out _ _ ⟨fun _ => hS107, ?_⟩
              clear hK K
              try simp only [List.getElem_toArray, List.getElem_cons_succ, List.getElem_cons_zero, Act.put, List.setIfInBounds_toArray, List.set_cons_zero, List.set_cons_succ]
              clear hS107
              refine anyU_done (by kernel_rfl) ?_ _
              go_wp2_with fail
              go_roundw
              case rel => exact ⟨k + 1, sn, _, W106.heap.size, by omega, by go_num, HSN2, hsl2, X14, HINS, HF106⟩
              case measure => simp [intOf]; omega

end Go.Proofs.YtmdlginjblnfoaaGreat
