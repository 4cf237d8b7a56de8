/-
  Several texts in one: Cde. No condition on any program.
-/
import Derived.Test.YtmdlginjblnfoaaGreatCzH
import Derived.Test.YtmdlginjblnfoaaGreatCzE
import Derived.Deep.AppendLies

/- Contracts: the code of a walk, the reference's and the program's. -/
namespace Go.Proofs.YtmdlginjblnfoaaGreat
open Go.ChangeShapes Go.WideShapes Go.ChangeAt Go.RowKit
set_option linter.unusedVariables false

theorem own_appL {w : World} {base : Nat} {e : TypeId} {v : Value} {ps qs : List Int} {n : Nat} (hn : qs.length = n) (h : w.ownsRow base e 1 v (ps.length + n) (ps.map (Value.int .i64) ++ qs.map (Value.int .i64))) : OwnI w base e v (ps ++ qs) := by
  subst hn
  unfold OwnI Own
  rw [List.map_append, List.length_append, List.length_map, List.length_map]
  exact h
/-- append of two numbers, just laid in a block of their own -/
theorem append_int2 {P : Program} {ops : Array Oper} {rest : List Oper} {o : Oper} {a : Act} {Q : Exit → Act → World → Prop} {t e : TypeId} {bytes : Nat}
    (ht : P.underlying t = some (.slice e)) (hinfo : (P.info? e).map (fun i => (i.zero, i.size, i.bytes)) = some (some (.int .i64 0), 1, bytes)) (hby : bytes ≤ 64)
    (w : World) (hgd : o.guard = none) {s : Operand} (x : Operand) (ho : o.op = .call { callee := .builtin .append, args := #[s, x], argTypes := #[t, t] })
    {base : Nat} {v : Value} {zs : List Int} (hown : OwnI w base e v zs) (y z : Int) (te : TypeId) (hs : a.eval s = v) (hx : a.eval x = .slice (some ⟨w.heap.size, 0, none⟩) 2 2)
    (hlen : zs.length < 1099511627000) (hbase : base ≤ w.heap.size)
    (h : ∀ v' w', OwnI w' base e v' (zs ++ [y, z]) → w.grownBy w' v.ownBlock → (v'.ownBlock = v.ownBlock ∨ v'.ownBlock = some (w.heap.size + 1)) → wpList P ops Q rest (a.put o.dst v') w') :
    wpList P ops Q (o :: rest) a (w.alloc (.cells #[.int .i64 y, .int .i64 z] te)) := by
  refine append_row (m := 2) ht hinfo rfl (by omega) hby _ hgd x ho (World.ownsRow.alloc hown _) hs [.int .i64 y, .int .i64 z] hx rfl ?_ ?_ (by rw [List.length_map]; omega) (by simp; omega) fun v' w' a1 a2 a3 => h v' w' ?_ ?_ ?_
  · intro j u hj
    rw [show (⟨w.heap.size, 0, none⟩ : Addr).add j = ⟨w.heap.size, j, none⟩ by simp [Addr.add, eq_comm], World.cell?_alloc_at _ _ _ _ rfl]
    simpa using hj
  · intro u hu
    simp only [List.mem_cons, List.not_mem_nil, or_false] at hu
    rcases hu with rfl | rfl <;> rfl
  · refine own_appL (qs := [y, z]) (n := 2) rfl ?_
    rw [List.length_map] at a1
    exact a1
  · exact ⟨a2.os, a2.tape, a2.output, Nat.le_trans (by simp) a2.size, fun k hk hne => (a2.block k (by simp; omega) hne).trans (Below.heap_alloc _ _ _ hk)⟩
  · simpa using a3
theorem netIdsW {w : World} {lo hi : Nat} {v1 v2 v3 : Value} {N : NetD} (h : Net w lo hi (.agg #[v1, v2, v3]) N) : IntS w lo hi v2 N.ids := by
  obtain ⟨a, b, c, e, _, h1, _⟩ := h
  simp only [Value.agg.injEq, Array.mk.injEq, List.cons.injEq, and_true] at e
  obtain ⟨rfl, rfl, rfl⟩ := e
  exact h1
theorem netInsW {w : World} {lo hi : Nat} {v1 v2 v3 : Value} {N : NetD} (h : Net w lo hi (.agg #[v1, v2, v3]) N) : IntS w lo hi v3 N.inputs := by
  obtain ⟨a, b, c, e, _, _, h1⟩ := h
  simp only [Value.agg.injEq, Array.mk.injEq, List.cons.injEq, and_true] at e
  obtain ⟨rfl, rfl, rfl⟩ := e
  exact h1
theorem good_inslW {N : NetD} (hg : N.good = true) : N.inputs.length = N.ends.length := by
  unfold NetD.good NetD.headOk at hg
  simp only [Bool.and_eq_true] at hg
  have hi := hg.1.2.2
  unfold insGood at hi
  simp only [Bool.and_eq_true, decide_eq_true_eq] at hi
  omega
theorem good_idslW {N : NetD} (hg : N.good = true) : N.ids.length = 0 ∨ N.ids.length = N.ends.length := by
  unfold NetD.good NetD.headOk at hg
  simp only [Bool.and_eq_true] at hg
  have hi := hg.1.2.1
  unfold idsGood at hi
  simp only [Bool.and_eq_true, Bool.or_eq_true, decide_eq_true_eq] at hi
  omega
theorem numV_take {L : List Int} (hn : L.Nodup) {k : Nat} (hk : k < L.length) (x : Int) : numV (L.take (k + 1)) x = if x = nth L k then (k : Int) else numV (L.take k) x := by
  have ht : L.take (k + 1) = L.take k ++ [nth L k] := by rw [List.take_succ_eq_append_getElem hk, nth_eq hk]
  have hnk : nth L k ∉ L.take k := fun h => by
    obtain ⟨j, hj, e⟩ := List.mem_iff_getElem.1 h
    rw [List.length_take] at hj
    rw [List.getElem_take, nth_eq hk] at e
    exact (List.pairwise_iff_getElem.1 hn) j k (by omega) hk (by omega) e
  rw [ht]
  unfold numV
  by_cases e : x = nth L k
  · rw [if_pos e, if_pos (by simp [e]), e, List.idxOf_append, if_neg hnk]
    simp; omega
  · rw [if_neg e]
    by_cases hm : x ∈ L.take k
    · rw [if_pos hm, if_pos (by simp [hm]), List.idxOf_append, if_pos hm]
    · rw [if_neg hm, if_neg (by simp [hm, e])]
set_option maxHeartbeats 8000000 in
set_option maxRecDepth 100000 in
theorem isCode_any (v1 : Value) (N : NetD) (lo1 hi1 : Nat) (v2 : Value) (L : List Int) (lo2 hi2 : Nat) (w : World) (h1 : Net w lo1 hi1 v1 N) (hh1 : hi1 ≤ w.heap.size) (h2 : IntS w lo2 hi2 v2 L) (hh2 : hi2 ≤ w.heap.size) (hg : N.good = true) (hL : WkOk N L) :
    Calls Tryz.prog 40 #[v1, v2] w fun e w' => ∃ r, e = .returned (r) ∧ IntS w' w.heap.size w'.heap.size r (codeN N L) ∧ Below w.heap.size w w' := by
  obtain ⟨n1, n40⟩ := good_n hg
  have HG := Lib.hid hg; clear hg
  have HL := Lib.hid hL; clear hL
  have hL40 := HL.out.len
  have HNI := Lib.hid (good_idslW HG.out)
  have HNN := Lib.hid (good_inslW HG.out)
  have hmk := fun W => run_make_row' (P := Tryz.prog) 23 3 (.int .i64 0) 8 Tryz.underlying23 Tryz.info3 rfl .i64 .i64 N.ends.length (by omega) (by omega) W
  have F1 := Lib.hid h1
  obtain ⟨A1, c1, A1', c1', A1'', c1'', rfl, hc1, hd1, _⟩ := h1.parts
  obtain ⟨b1, o1, _, _, rfl, _⟩ := Net.rowAt F1.out (u := 0) (by omega)
  clear h1
  have F2 := Lib.hid h2
  obtain ⟨A2, c2, rfl, hc2, hd2⟩ := h2.dims
  clear h2
  obtain ⟨WA, HWA⟩ : ∃ W, Hid (W = (w.alloc (.cells #[.slice (some ⟨b1, o1, none⟩) N.ends.length c1, .slice A1' N.ids.length c1', .slice A1'' N.inputs.length c1''] 32))) := ⟨_, Lib.hid rfl⟩
  have hbA : Below w.heap.size w WA := by rw [HWA.out]; exact ((Below.refl _ _).alloc (Nat.le_refl _) _)
  have hsA : w.heap.size + 1 ≤ WA.heap.size := by rw [HWA.out]; simp; try omega
  have bx1 : BoxN WA (w.heap.size) #[.slice (some ⟨b1, o1, none⟩) N.ends.length c1, .slice A1' N.ids.length c1', .slice A1'' N.inputs.length c1''] 32 := by rw [HWA.out]; exact (BoxN.new' _ _ _ (by simp))
  have G1 := Lib.hid (Net.below F1.out hbA hh1); clear F1
  have G2 := Lib.hid (IntS.below F2.out hbA hh2); clear F2
  go_enter Tryz.func40, Tryz.ntmps40
  go_upto_region 1 with (fail)
  rw [← HWA.out]; clear HWA
  obtain ⟨bI, oI, rfl, _, hbI, _, _⟩ := (netInsW G1.out).opened (j := 0) (by rw [HNN.out]; omega)
  have kbx1_0 : WA.cell? ⟨w.heap.size, 0, none⟩ = some (.slice (some ⟨b1, o1, none⟩) N.ends.length c1) := bx1.cell 0 (by simp)
  have kbx1_1 : WA.cell? ⟨w.heap.size, 1, none⟩ = some (.slice A1' N.ids.length c1') := bx1.cell 1 (by simp)
  have kbx1_2 : WA.cell? ⟨w.heap.size, 2, none⟩ = some (.slice (some ⟨bI, oI, none⟩) N.inputs.length c1'') := bx1.cell 2 (by simp)
  go_upto_region 2 with (fail)
  clear kbx1_0 kbx1_1 kbx1_2
  refine nameC ?_
  intro W1 HW1
  have hg1 : WA.grownBy W1 none := by rw [HW1.out]; exact grown_alloc _ _
  have hs1 := hg1.size
  have HF1 := Lib.hid ((Turned.refl WA.heap.size WA.heap.size WA).still hg1)
  have HO := Lib.hid (show IntS W1 WA.heap.size (WA.heap.size + 1) (.slice (some ⟨WA.heap.size, 0, none⟩) N.ends.length N.ends.length) (List.replicate N.ends.length 0) by rw [HW1.out]; exact made_ints _ _ _ rfl (by omega))
  have hz : WA.heap.size + 1 ≤ W1.heap.size := by rw [HW1.out]; simp
  clear HW1 hmk
  go_wp2_with fail
  go_loopw [20] (fun i wr => ∃ (k : Nat) (zs : List Int), k ≤ L.length ∧ i = .int .i64 k ∧ Hid (IntS wr WA.heap.size (WA.heap.size + 1) (.slice (some ⟨WA.heap.size, 0, none⟩) N.ends.length N.ends.length) zs) ∧ Hid (zs.length = N.ends.length) ∧ Hid (∀ x : Nat, x < N.ends.length → nth zs x = numV (L.take k) x) ∧ WA.heap.size + 1 ≤ wr.heap.size ∧ Hid (Turned WA.heap.size WA.heap.size WA wr)) (fun i _ => L.length - (intOf i).toNat)
  case atStart => exact ⟨0, List.replicate N.ends.length 0, Nat.zero_le _, rfl, HO, Lib.hid (by simp), Lib.hid fun j hj => by rw [nth_replicate _ _ hj]; simp [numV], hz, HF1⟩
  case round =>
    clear HF1
    obtain ⟨k, zs, hk, rfl, HO, HLN, HZ, hz, HF2⟩ := hrel
    have hs2 := HF2.out.size
    by_cases hlt : k < L.length
    case pos =>
      obtain ⟨u, hu, hun⟩ := HL.out.at_ hlt
      obtain ⟨b5, o5, rfl, _, _, x5, _⟩ := IntS.opened (IntS.turned G2.out HF2.out (by omega) (by omega)) hlt
      have HZN := Lib.hid (numV_take HL.out.nodup hlt)
      rw [hu] at x5 HZN
      clear hu
      obtain ⟨x1, x2⟩ := HO.out.at0 (j := u) (by rw [HLN.out]; exact hun)
      have HS := Lib.hid (HO.out.set0 (j := u) (by rw [HLN.out]; exact hun) (k : Int))
      obtain ⟨y, HY⟩ : ∃ y, Hid (nth zs u = y) := ⟨_, Lib.hid rfl⟩
      rw [HY.out] at x1
      have hui : (u : Int) < N.ends.length := by omega
      have hki : (k : Int) < L.length := by omega
      go_wp2_with fail
      go_roundw
      case rel =>
        refine ⟨k + 1, _, by omega, by go_num, HS, Lib.hid (by rw [List.length_set]; exact HLN.out), Lib.hid fun x hx => ?_, by rw [size_setCell]; exact hz, Lib.hid (HF2.out.grown (grown_set _ ⟨WA.heap.size, u, none⟩ _) fun g hg => .inr (by cases hg; show _ ≤ WA.heap.size; omega))⟩
        rw [nth_set _ _ _ _ (by rw [HLN.out]; exact hun), HZN.out]
        by_cases e : x = u
        · rw [if_pos e, if_pos (by rw [e])]
        · rw [if_neg e, if_neg (by omega)]; exact HZ.out x hx
      case measure => simp [intOf]; omega
    obtain rfl : k = L.length := by omega
    rw [List.take_length] at HZ
    clear hlt hk
    obtain ⟨wm, rfl⟩ : ∃ wm : World, wm = wr := ⟨_, rfl⟩
    have N_2 := Lib.hid (Net.turned G1.out HF2.out (by omega) (by omega)); clear G1
    have L_2 := Lib.hid (IntS.turned G2.out HF2.out (by omega) (by omega)); clear G2
    have bx1_2 := HF2.out.boxN bx1 (by omega); clear bx1
    have hbA2 : Below w.heap.size w wm := (HF2.out.below_of hbA (by omega) (by omega)); clear hbA HF2
    obtain ⟨i1, hi1', hz1⟩ := Option.map_eq_some_iff.1 Tryz.info3
    simp only [Prod.mk.injEq] at hz1
    obtain ⟨hz1a, hz1b, hz1c⟩ := hz1
    have HI1 := Lib.hid hz1a; have HI2 := Lib.hid hz1b; have HI3 := Lib.hid hz1c; have HII := Lib.hid hi1'
    clear hz1a hz1b hz1c hi1'
    go_wp2_with fail
    go_loopw [32, 8] (fun kv ov wr => ∃ (k : Nat) (cs : List Int), k ≤ L.length ∧ kv = .int .i64 k ∧ Hid (OwnI wr wm.heap.size 3 ov cs) ∧ Hid (cs = codeTo N L k) ∧ Hid (Turned wm.heap.size wm.heap.size wm wr)) (fun kv ov _ => L.length - (intOf kv).toNat)
    case atStart => exact ⟨0, [], Nat.zero_le _, rfl, Lib.hid (OwnI.nil _ _ _), Lib.hid rfl, Lib.hid (Turned.refl wm.heap.size wm.heap.size wm)⟩
    case round =>
      obtain ⟨k, cs, hk, rfl, HV, HC, HF3⟩ := hrel
      have hs3 := HF3.out.size
      obtain ⟨wq, rfl⟩ : ∃ wq : World, wq = wr := ⟨_, rfl⟩
      have hcl := codeTo_len HG.out HL.out k hk
      rw [← HC.out] at hcl
      obtain ⟨Az, cz, rfl, hcz, hdz⟩ := HV.out.ints.dims
      by_cases hlt : k < L.length
      case neg =>
        obtain rfl : k = L.length := by omega
        have HCE := Lib.hid (show codeN N L = cs by rw [HC.out]; rfl)
        go_wp2_with fail
        go_ret
        refine ⟨_, rfl, ?_, (HF3.out.below_of hbA2 (by omega) (by omega))⟩
        rw [HCE.out]
        exact HV.out.ints.mono (by omega) (Nat.le_refl _)
      obtain ⟨u, hu, hun⟩ := HL.out.at_ hlt
      obtain ⟨b5, o5, rfl, _, _, x5, _⟩ := IntS.opened (IntS.turned L_2.out HF3.out (by omega) (by omega)) hlt
      have HCS := Lib.hid (codeTo_succ N L hlt hu)
      rw [← HC.out] at HCS
      rw [hu] at x5
      clear hu
      have hki : (k : Int) < L.length := by omega
      have hui : (u : Int) < N.ends.length := by omega
      have hd6 := good_deg HG.out hun
      obtain ⟨hd, HHD⟩ : ∃ hd, Hid (codeHead N u = hd) := ⟨_, Lib.hid rfl⟩
      have hvin : (u : Int) < N.inputs.length := by rw [HNN.out]; exact hui
      have hvinn : u < N.inputs.length := by rw [HNN.out]; exact hun
      have GI := Lib.hid (netInsW N_2.out)
      obtain ⟨xi, HXI⟩ : ∃ x, Hid (nth N.inputs u = x) := ⟨_, Lib.hid rfl⟩
      obtain ⟨Aa, ca, hba, qa, hca, hda, hRa⟩ := Net.rowIn N_2.out hun
      have QA := Lib.hid qa
      have Ra := Lib.hid hRa; clear hRa qa
      go_upto_region 12 with (fail)
      clear x5
      by_cases hid : 0 < N.ids.length
      case neg =>
        have kbx1_0 : wq.cell? ⟨w.heap.size, 0, none⟩ = some (.slice (some ⟨b1, o1, none⟩) N.ends.length c1) := (HF3.out.boxN bx1_2 (by omega)).cell 0 (by simp)
        have kbx1_1 : wq.cell? ⟨w.heap.size, 1, none⟩ = some (.slice A1' N.ids.length c1') := (HF3.out.boxN bx1_2 (by omega)).cell 1 (by simp)
        have kbx1_2 : wq.cell? ⟨w.heap.size, 2, none⟩ = some (.slice (some ⟨bI, oI, none⟩) N.inputs.length c1'') := (HF3.out.boxN bx1_2 (by omega)).cell 2 (by simp)
        have hidi : ¬ (0 : Int) < N.ids.length := by omega
        have HIDE := Lib.hid (show [((nthL N.ends u).length : Int), xi, (0 : Int)] = hd by rw [← HHD.out]; unfold codeHead; rw [if_neg hid, HXI.out])
        go_wp2_with fail
        clear kbx1_0 kbx1_1 kbx1_2
        refine wp_region_U (fun w' => w'.cell? ⟨w.heap.size, 0, none⟩ = some (.slice (some ⟨b1, o1, none⟩) N.ends.length c1) ∧ w'.cell? ⟨w.heap.size, 1, none⟩ = some (.slice A1' N.ids.length c1') ∧ w'.cell? ⟨w.heap.size, 2, none⟩ = some (.slice (some ⟨bI, oI, none⟩) N.inputs.length c1'') ∧ w'.cell? ⟨b1, o1 + u, none⟩ = some (Value.slice Aa (nthL N.ends u).length ca) ∧ w'.cell? ⟨bI, oI + u, none⟩ = some (.int .i64 xi)) [] (by kernel_rfl) ?_
        refine nameU ?_
        intro W4 HW4
        have hg4 : wq.grownBy W4 none := by rw [HW4.out]; exact grown_drew _
        clear HW4
        have hs4 := hg4.size
        have HF4 := Lib.hid (HF3.out.still hg4); clear HF3
        have O4 := Lib.hid (OwnI.still HV.out hg4); clear HV
        have hS5 : W4.cell? ⟨w.heap.size, 0, none⟩ = some (.slice (some ⟨b1, o1, none⟩) N.ends.length c1) ∧ W4.cell? ⟨w.heap.size, 1, none⟩ = some (.slice A1' N.ids.length c1') ∧ W4.cell? ⟨w.heap.size, 2, none⟩ = some (.slice (some ⟨bI, oI, none⟩) N.inputs.length c1'') ∧ W4.cell? ⟨b1, o1 + u, none⟩ = some (Value.slice Aa (nthL N.ends u).length ca) ∧ W4.cell? ⟨bI, oI + u, none⟩ = some (.int .i64 xi) := ⟨(HF4.out.boxN bx1_2 (by omega)).cell 0 (by simp), (HF4.out.boxN bx1_2 (by omega)).cell 1 (by simp), (HF4.out.boxN bx1_2 (by omega)).cell 2 (by simp), ((HF4.out.cell (by omega) (by omega)).trans QA.out), (by have := (IntS.at_ (IntS.turned GI.out HF4.out (by omega) (by omega)) hvinn).1; rw [HXI.out] at this; exact this)⟩
        refine anyU_take (i := 0) (v := .slice Az cs.length cz) rfl (by kernel_rfl) (by kernel_rfl) (by kernel_rfl) (fun _ _ _ h => h) ⟨by rfl, fun w' hS' => (by obtain ⟨s1, s2, s3, s4, s5⟩ := hS'; go_simp)⟩ hS5 ?_
        simp only [List.getElem_toArray, List.getElem_cons_zero, Act.put, List.setIfInBounds_toArray, List.set_cons_zero, List.set_cons_succ]
        refine anyU_take (i := 1) (v := .pointer (some ⟨w.heap.size, 0, none⟩)) rfl (by kernel_rfl) (by kernel_rfl) (by kernel_rfl) (fun _ _ _ h => h) ⟨by rfl, fun w' hS' => (by obtain ⟨s1, s2, s3, s4, s5⟩ := hS'; go_simp)⟩ hS5 ?_
        simp only [List.getElem_toArray, List.getElem_cons_succ, List.getElem_cons_zero, Act.put, List.setIfInBounds_toArray, List.set_cons_zero, List.set_cons_succ]
        refine anyU_take (i := 2) (v := .slice (some ⟨b1, o1, none⟩) N.ends.length c1) rfl (by kernel_rfl) (by kernel_rfl) (by kernel_rfl) (fun _ _ _ h => h) ⟨by rfl, fun w' hS' => (by obtain ⟨s1, s2, s3, s4, s5⟩ := hS'; go_simp)⟩ hS5 ?_
        simp only [List.getElem_toArray, List.getElem_cons_succ, List.getElem_cons_zero, Act.put, List.setIfInBounds_toArray, List.set_cons_zero, List.set_cons_succ]
        refine anyU_take (i := 3) (v := .int .i64 u) rfl (by kernel_rfl) (by kernel_rfl) (by kernel_rfl) (fun _ _ _ h => h) ⟨by rfl, fun w' hS' => (by obtain ⟨s1, s2, s3, s4, s5⟩ := hS'; go_simp)⟩ hS5 ?_
        simp only [List.getElem_toArray, List.getElem_cons_succ, List.getElem_cons_zero, Act.put, List.setIfInBounds_toArray, List.set_cons_zero, List.set_cons_succ]
        refine anyU_take (i := 4) (v := .pointer (some ⟨b1, o1 + u, none⟩)) rfl (by kernel_rfl) (by kernel_rfl) (by kernel_rfl) (fun _ _ _ h => h) ⟨by rfl, fun w' hS' => (by obtain ⟨s1, s2, s3, s4, s5⟩ := hS'; simp [go_sem, hui])⟩ hS5 ?_
        simp only [List.getElem_toArray, List.getElem_cons_succ, List.getElem_cons_zero, Act.put, List.setIfInBounds_toArray, List.set_cons_zero, List.set_cons_succ]
        refine anyU_take (i := 5) (v := Value.slice Aa (nthL N.ends u).length ca) rfl (by kernel_rfl) (by kernel_rfl) (by kernel_rfl) (fun _ _ _ h => h) ⟨by rfl, fun w' hS' => (by obtain ⟨s1, s2, s3, s4, s5⟩ := hS'; go_simp)⟩ hS5 ?_
        simp only [List.getElem_toArray, List.getElem_cons_succ, List.getElem_cons_zero, Act.put, List.setIfInBounds_toArray, List.set_cons_zero, List.set_cons_succ]
        refine anyU_take (i := 6) (v := .int .i64 (nthL N.ends u).length) rfl (by kernel_rfl) (by kernel_rfl) (by kernel_rfl) (fun _ _ _ h => h) ⟨by rfl, fun w' hS' => (by obtain ⟨s1, s2, s3, s4, s5⟩ := hS'; go_simp)⟩ hS5 ?_
        simp only [List.getElem_toArray, List.getElem_cons_succ, List.getElem_cons_zero, Act.put, List.setIfInBounds_toArray, List.set_cons_zero, List.set_cons_succ]
        refine anyU_take (i := 7) (v := .pointer (some ⟨w.heap.size, 2, none⟩)) rfl (by kernel_rfl) (by kernel_rfl) (by kernel_rfl) (fun _ _ _ h => h) ⟨by rfl, fun w' hS' => (by obtain ⟨s1, s2, s3, s4, s5⟩ := hS'; go_simp)⟩ hS5 ?_
        simp only [List.getElem_toArray, List.getElem_cons_succ, List.getElem_cons_zero, Act.put, List.setIfInBounds_toArray, List.set_cons_zero, List.set_cons_succ]
        refine anyU_take (i := 8) (v := .slice (some ⟨bI, oI, none⟩) N.inputs.length c1'') rfl (by kernel_rfl) (by kernel_rfl) (by kernel_rfl) (fun _ _ _ h => h) ⟨by rfl, fun w' hS' => (by obtain ⟨s1, s2, s3, s4, s5⟩ := hS'; go_simp)⟩ hS5 ?_
        simp only [List.getElem_toArray, List.getElem_cons_succ, List.getElem_cons_zero, Act.put, List.setIfInBounds_toArray, List.set_cons_zero, List.set_cons_succ]
        refine anyU_take (i := 9) (v := .int .i64 u) rfl (by kernel_rfl) (by kernel_rfl) (by kernel_rfl) (fun _ _ _ h => h) ⟨by rfl, fun w' hS' => (by obtain ⟨s1, s2, s3, s4, s5⟩ := hS'; go_simp)⟩ hS5 ?_
        simp only [List.getElem_toArray, List.getElem_cons_succ, List.getElem_cons_zero, Act.put, List.setIfInBounds_toArray, List.set_cons_zero, List.set_cons_succ]
        refine anyU_take (i := 10) (v := .pointer (some ⟨bI, oI + u, none⟩)) rfl (by kernel_rfl) (by kernel_rfl) (by kernel_rfl) (fun _ _ _ h => h) ⟨by rfl, fun w' hS' => (by obtain ⟨s1, s2, s3, s4, s5⟩ := hS'; simp [go_sem, hvin])⟩ hS5 ?_
        simp only [List.getElem_toArray, List.getElem_cons_succ, List.getElem_cons_zero, Act.put, List.setIfInBounds_toArray, List.set_cons_zero, List.set_cons_succ]
        refine anyU_take (i := 11) (v := .int .i64 xi) rfl (by kernel_rfl) (by kernel_rfl) (by kernel_rfl) (fun _ _ _ h => h) ⟨by rfl, fun w' hS' => (by obtain ⟨s1, s2, s3, s4, s5⟩ := hS'; go_simp)⟩ hS5 ?_
        simp only [List.getElem_toArray, List.getElem_cons_succ, List.getElem_cons_zero, Act.put, List.setIfInBounds_toArray, List.set_cons_zero, List.set_cons_succ]
        refine anyU_take (i := 12) (v := .int .i64 (0 : Int)) rfl (by kernel_rfl) (by kernel_rfl) (by kernel_rfl) (fun _ _ _ h => h) ⟨by rfl, fun w' hS' => (by obtain ⟨s1, s2, s3, s4, s5⟩ := hS'; go_simp)⟩ hS5 ?_
        simp only [List.getElem_toArray, List.getElem_cons_succ, List.getElem_cons_zero, Act.put, List.setIfInBounds_toArray, List.set_cons_zero, List.set_cons_succ]
        refine anyU_ready (rs := [13]) (by kernel_rfl) (by simp) ?_
        refine ReadyU.cons (i := 13) rfl (fun K hK => ?_) ReadyU.nil
        simp only [List.getElem_toArray, List.getElem_cons_succ, List.getElem_cons_zero]
        refine ite_is (by rfl) ?_
        simp [go_sem]
        refine hK.out _ _ ⟨fun _ => ⟨((HF4.out.boxN bx1_2 (by omega)).still (grown_alloc _ _)).cell 0 (by simp), ((HF4.out.boxN bx1_2 (by omega)).still (grown_alloc _ _)).cell 1 (by simp), ((HF4.out.boxN bx1_2 (by omega)).still (grown_alloc _ _)).cell 2 (by simp), (((HF4.out.still (grown_alloc W4 (.cells #[.int .i64 ((nthL N.ends u).length : Int), .int .i64 xi, .int .i64 (0 : Int)] 3))).cell (by omega) (by omega)).trans QA.out), (by have := (IntS.at_ (IntS.turned GI.out (HF4.out.still (grown_alloc W4 (.cells #[.int .i64 ((nthL N.ends u).length : Int), .int .i64 xi, .int .i64 (0 : Int)] 3))) (by omega) (by omega)) hvinn).1; rw [HXI.out] at this; exact this)⟩, ?_⟩
        clear hK K
        try simp only [List.getElem_toArray, List.getElem_cons_succ, List.getElem_cons_zero, Act.put, List.setIfInBounds_toArray, List.set_cons_zero, List.set_cons_succ]
        refine nameU ?_
        intro W6 HW6
        have hg6 : W4.grownBy W6 none := by rw [HW6.out]; exact grown_alloc _ _
        have BV6 := Lib.hid (show BoxN W6 W4.heap.size #[.int .i64 ((nthL N.ends u).length : Int), .int .i64 xi, .int .i64 (0 : Int)] 3 by rw [HW6.out]; exact BoxN.new _ _ _)
        have hz6 : W4.heap.size < W6.heap.size := BV6.out.lt
        clear HW6
        have hs6 := hg6.size
        have HF6 := Lib.hid (HF4.out.still hg6); clear HF4
        have O6 := Lib.hid (OwnI.still O4.out hg6); clear O4
        have hS7 : W6.cell? ⟨w.heap.size, 0, none⟩ = some (.slice (some ⟨b1, o1, none⟩) N.ends.length c1) ∧ W6.cell? ⟨w.heap.size, 1, none⟩ = some (.slice A1' N.ids.length c1') ∧ W6.cell? ⟨w.heap.size, 2, none⟩ = some (.slice (some ⟨bI, oI, none⟩) N.inputs.length c1'') ∧ W6.cell? ⟨b1, o1 + u, none⟩ = some (Value.slice Aa (nthL N.ends u).length ca) ∧ W6.cell? ⟨bI, oI + u, none⟩ = some (.int .i64 xi) := ⟨(HF6.out.boxN bx1_2 (by omega)).cell 0 (by simp), (HF6.out.boxN bx1_2 (by omega)).cell 1 (by simp), (HF6.out.boxN bx1_2 (by omega)).cell 2 (by simp), ((HF6.out.cell (by omega) (by omega)).trans QA.out), (by have := (IntS.at_ (IntS.turned GI.out HF6.out (by omega) (by omega)) hvinn).1; rw [HXI.out] at this; exact this)⟩
        clear hS5
        have LOX := Lib.hid O6.out.lt
        refine anyU_ready (rs := [14]) (by kernel_rfl) (by simp) ?_
        refine ReadyU.cons (i := 14) rfl (fun K hK => ?_) ReadyU.nil
        refine step_append_lies W6 (by rfl) _ _ _ (by rfl) wm.heap.size 3 i1 _ 1 _ Tryz.underlying23 HII.out HI1.out HI2.out HI3.out rfl (by omega) (.slice Az cs.length cz) _ (cs.map (Value.int .i64)) (by rfl) O6.out ⟨W4.heap.size, 0, none⟩ 3 3 [.int .i64 ((nthL N.ends u).length : Int), .int .i64 xi, .int .i64 (0 : Int)] (by rfl) (by rfl) (World.news_of_block BV6.out) (by simp [Value.oneCell']) (by omega) (by rw [List.length_map]; unfold maxLen; omega) (by rw [List.length_map]; omega) (by omega) _ rfl ?_
        intro gp cp W8 hown hg8 hatp hltp
        simp only [List.length_map] at hown ⊢
        have hs8 := hg8.size
        have HF8 := Lib.hid (HF6.out.grown hg8 (fun g e => by have := LOX.out g e; omega)); clear HF6
        have HOO8 := Lib.hid (own_appL (qs := [((nthL N.ends u).length : Int), xi, (0 : Int)]) (n := 3) rfl hown)
        clear hown LOX hatp hltp BV6
        have hS9 : W8.cell? ⟨w.heap.size, 0, none⟩ = some (.slice (some ⟨b1, o1, none⟩) N.ends.length c1) ∧ W8.cell? ⟨w.heap.size, 1, none⟩ = some (.slice A1' N.ids.length c1') ∧ W8.cell? ⟨w.heap.size, 2, none⟩ = some (.slice (some ⟨bI, oI, none⟩) N.inputs.length c1'') ∧ W8.cell? ⟨b1, o1 + u, none⟩ = some (Value.slice Aa (nthL N.ends u).length ca) ∧ W8.cell? ⟨bI, oI + u, none⟩ = some (.int .i64 xi) := ⟨(HF8.out.boxN bx1_2 (by omega)).cell 0 (by simp), (HF8.out.boxN bx1_2 (by omega)).cell 1 (by simp), (HF8.out.boxN bx1_2 (by omega)).cell 2 (by simp), ((HF8.out.cell (by omega) (by omega)).trans QA.out), (by have := (IntS.at_ (IntS.turned GI.out HF8.out (by omega) (by omega)) hvinn).1; rw [HXI.out] at this; exact this)⟩
        refine hK.out _ _ ⟨fun _ => hS9, ?_⟩
        clear hK K hS7
        try simp only [List.getElem_toArray, List.getElem_cons_succ, List.getElem_cons_zero, Act.put, List.setIfInBounds_toArray, List.set_cons_zero, List.set_cons_succ]
        refine anyU_ready (rs := [15]) (by kernel_rfl) (by simp) ?_
        refine ReadyU.cons (i := 15) rfl (fun K hK => ?_) ReadyU.nil
        simp only [List.getElem_toArray, List.getElem_cons_succ, List.getElem_cons_zero]
        refine ite_is (by rfl) ?_
        simp [go_sem]
        refine hK.out _ _ ⟨fun _ => hS9, ?_⟩
        clear hK K
        try simp only [List.getElem_toArray, List.getElem_cons_succ, List.getElem_cons_zero, Act.put, List.setIfInBounds_toArray, List.set_cons_zero, List.set_cons_succ]
        clear hS9
        refine anyU_done (by kernel_rfl) ?_ _
        have HHE := Lib.hid (show [((nthL N.ends u).length : Int), xi, (0 : Int)] = hd from HIDE.out)
        have hhl : hd.length = 3 := by rw [← HHE.out]; rfl
        have hcsl : (cs ++ [((nthL N.ends u).length : Int), xi, (0 : Int)]).length = cs.length + 3 := by simp
        rw [HHE.out] at HOO8 hcsl
        have kbx1_0 : W8.cell? ⟨w.heap.size, 0, none⟩ = some (.slice (some ⟨b1, o1, none⟩) N.ends.length c1) := (HF8.out.boxN bx1_2 (by omega)).cell 0 (by simp)
        have kbx1_1 : W8.cell? ⟨w.heap.size, 1, none⟩ = some (.slice A1' N.ids.length c1') := (HF8.out.boxN bx1_2 (by omega)).cell 1 (by simp)
        have kbx1_2 : W8.cell? ⟨w.heap.size, 2, none⟩ = some (.slice (some ⟨bI, oI, none⟩) N.inputs.length c1'') := (HF8.out.boxN bx1_2 (by omega)).cell 2 (by simp)
        have qa2 : W8.cell? ⟨b1, o1 + u, none⟩ = some (Value.slice Aa (nthL N.ends u).length ca) := ((HF8.out.cell (by omega) (by omega)).trans QA.out)
        go_wp2_with fail
        clear qa2 kbx1_0 kbx1_1 kbx1_2
        go_loopw [66, 8] (fun mv ov wr => ∃ (m : Nat) (ds : List Int), m ≤ (nthL N.ends u).length ∧ mv = .int .i64 m ∧ Hid (OwnI wr wm.heap.size 3 ov ds) ∧ Hid (ds = cs ++ hd ++ codeRow N L u m) ∧ Hid (Turned wm.heap.size wm.heap.size wm wr)) (fun mv ov _ => (nthL N.ends u).length - (intOf mv).toNat)
        case atStart => exact ⟨0, _, Nat.zero_le _, rfl, HOO8, Lib.hid (by simp [codeRow]), HF8⟩
        case round =>
          clear HF8
          obtain ⟨m, ds, hm, rfl, HV, HD, HF10⟩ := hrel
          have hs10 := HF10.out.size
          obtain ⟨wt, rfl⟩ : ∃ wt : World, wt = wr := ⟨_, rfl⟩
          have hcr := codeRow_len N L u m
          have hdl : ds.length ≤ 700 := by rw [HD.out, List.length_append, List.length_append]; omega
          obtain ⟨Ay, cy, rfl, hcy, hdy⟩ := HV.out.ints.dims
          have HLV := Lib.hid HV.out.lt
          by_cases hml : m < (nthL N.ends u).length
          case neg =>
            obtain rfl : m = (nthL N.ends u).length := by omega
            have HDE := Lib.hid (show ds = codeTo N L (k + 1) by rw [HD.out, HCS.out, HHD.out, List.append_assoc])
            go_wp2_with fail
            go_roundw
            case rel => exact ⟨k + 1, ds, by omega, by go_num, HV, HDE, HF10⟩
            case measure => simp [intOf]; omega
          obtain ⟨ba, oa, rfl, _, hba', ea, ea'⟩ := (EndS.turned Ra.out HF10.out (by omega) (by omega)).opened hml
          obtain ⟨t, r, eta, ht, hr, eua⟩ := good_end HG.out hun hml
          rw [eta] at ea ea'
          dsimp only at ea ea'
          have ETa := Lib.hid eta
          have EUa := Lib.hid eua
          clear eta eua
          go_upto_region 18 with (fail)
          refine nameC ?_
          intro W11 HW11
          have hg11 : wt.grownBy W11 none := by rw [HW11.out]; exact grown_alloc _ _
          have hs11 := hg11.size
          have HF11 := Lib.hid (HF10.out.still hg11); clear HF10
          have O11 := Lib.hid (OwnI.still HV.out hg11); clear HV
          have bxe11 := Lib.hid (show BoxN W11 wt.heap.size #[.int .i64 t, .int .i64 r] 66 by rw [HW11.out]; exact BoxN.new _ _ _)
          clear HW11
          clear ea ea'
          have hti : (t : Int) < N.ends.length := by omega
          obtain ⟨num, HNUM⟩ : ∃ x, Hid (numV L (t : Int) = x) := ⟨_, Lib.hid rfl⟩
          have HZT := Lib.hid (show nth zs t = num by rw [HZ.out t ht, HNUM.out])
          have HRS := Lib.hid (show cs ++ hd ++ codeRow N L u (m + 1) = ds ++ [num, (r : Int)] by rw [codeRow_succ N L u hml, ETa.out, HD.out]; simp only [List.append_assoc]; rw [HNUM.out])
          have htz : t < zs.length := by rw [HLN.out]; exact ht
          go_wp2_with fail
          refine wp_region_U (fun w' => w'.cell? ⟨wt.heap.size, 0, none⟩ = some (.int .i64 t) ∧ w'.cell? ⟨wt.heap.size, 1, none⟩ = some (.int .i64 r) ∧ w'.cell? ⟨WA.heap.size, t, none⟩ = some (.int .i64 num)) [] (by kernel_rfl) ?_
          refine nameU ?_
          intro W12 HW12
          have hg12 : W11.grownBy W12 none := by rw [HW12.out]; exact grown_drew _
          clear HW12
          have hs12 := hg12.size
          have HF12 := Lib.hid (HF11.out.still hg12); clear HF11
          have O12 := Lib.hid (OwnI.still O11.out hg12); clear O11
          have bxe12 := Lib.hid (BoxN.still bxe11.out hg12); clear bxe11
          have hS13 : W12.cell? ⟨wt.heap.size, 0, none⟩ = some (.int .i64 t) ∧ W12.cell? ⟨wt.heap.size, 1, none⟩ = some (.int .i64 r) ∧ W12.cell? ⟨WA.heap.size, t, none⟩ = some (.int .i64 num) := ⟨bxe12.out.cell 0 (by simp), bxe12.out.cell 1 (by simp), (by have := (IntS.at_ (IntS.turned HO.out HF12.out (by omega) (by omega)) htz).1; rw [HZT.out, Nat.zero_add] at this; exact this)⟩
          refine anyU_take (i := 0) (v := .slice Ay ds.length cy) rfl (by kernel_rfl) (by kernel_rfl) (by kernel_rfl) (fun _ _ _ h => h) ⟨by rfl, fun w' hS' => (by obtain ⟨s1, s2, s3⟩ := hS'; go_simp)⟩ hS13 ?_
          simp only [List.getElem_toArray, List.getElem_cons_zero, Act.put, List.setIfInBounds_toArray, List.set_cons_zero, List.set_cons_succ]
          refine anyU_take (i := 1) (v := .slice (some ⟨WA.heap.size, 0, none⟩) N.ends.length N.ends.length) rfl (by kernel_rfl) (by kernel_rfl) (by kernel_rfl) (fun _ _ _ h => h) ⟨by rfl, fun w' hS' => (by obtain ⟨s1, s2, s3⟩ := hS'; go_simp)⟩ hS13 ?_
          simp only [List.getElem_toArray, List.getElem_cons_succ, List.getElem_cons_zero, Act.put, List.setIfInBounds_toArray, List.set_cons_zero, List.set_cons_succ]
          refine anyU_take (i := 2) (v := .pointer (some ⟨wt.heap.size, 0, none⟩)) rfl (by kernel_rfl) (by kernel_rfl) (by kernel_rfl) (fun _ _ _ h => h) ⟨by rfl, fun w' hS' => (by obtain ⟨s1, s2, s3⟩ := hS'; go_simp)⟩ hS13 ?_
          simp only [List.getElem_toArray, List.getElem_cons_succ, List.getElem_cons_zero, Act.put, List.setIfInBounds_toArray, List.set_cons_zero, List.set_cons_succ]
          refine anyU_take (i := 3) (v := .int .i64 t) rfl (by kernel_rfl) (by kernel_rfl) (by kernel_rfl) (fun _ _ _ h => h) ⟨by rfl, fun w' hS' => (by obtain ⟨s1, s2, s3⟩ := hS'; go_simp)⟩ hS13 ?_
          simp only [List.getElem_toArray, List.getElem_cons_succ, List.getElem_cons_zero, Act.put, List.setIfInBounds_toArray, List.set_cons_zero, List.set_cons_succ]
          refine anyU_take (i := 4) (v := .pointer (some ⟨WA.heap.size, t, none⟩)) rfl (by kernel_rfl) (by kernel_rfl) (by kernel_rfl) (fun _ _ _ h => h) ⟨by rfl, fun w' hS' => (by obtain ⟨s1, s2, s3⟩ := hS'; simp [go_sem, hti])⟩ hS13 ?_
          simp only [List.getElem_toArray, List.getElem_cons_succ, List.getElem_cons_zero, Act.put, List.setIfInBounds_toArray, List.set_cons_zero, List.set_cons_succ]
          refine anyU_take (i := 5) (v := .int .i64 num) rfl (by kernel_rfl) (by kernel_rfl) (by kernel_rfl) (fun _ _ _ h => h) ⟨by rfl, fun w' hS' => (by obtain ⟨s1, s2, s3⟩ := hS'; go_simp)⟩ hS13 ?_
          simp only [List.getElem_toArray, List.getElem_cons_succ, List.getElem_cons_zero, Act.put, List.setIfInBounds_toArray, List.set_cons_zero, List.set_cons_succ]
          refine anyU_take (i := 6) (v := .pointer (some ⟨wt.heap.size, 1, none⟩)) rfl (by kernel_rfl) (by kernel_rfl) (by kernel_rfl) (fun _ _ _ h => h) ⟨by rfl, fun w' hS' => (by obtain ⟨s1, s2, s3⟩ := hS'; go_simp)⟩ hS13 ?_
          simp only [List.getElem_toArray, List.getElem_cons_succ, List.getElem_cons_zero, Act.put, List.setIfInBounds_toArray, List.set_cons_zero, List.set_cons_succ]
          refine anyU_take (i := 7) (v := .int .i64 r) rfl (by kernel_rfl) (by kernel_rfl) (by kernel_rfl) (fun _ _ _ h => h) ⟨by rfl, fun w' hS' => (by obtain ⟨s1, s2, s3⟩ := hS'; go_simp)⟩ hS13 ?_
          simp only [List.getElem_toArray, List.getElem_cons_succ, List.getElem_cons_zero, Act.put, List.setIfInBounds_toArray, List.set_cons_zero, List.set_cons_succ]
          refine anyU_ready (rs := [8]) (by kernel_rfl) (by simp) ?_
          refine ReadyU.cons (i := 8) rfl (fun K hK => ?_) ReadyU.nil
          simp only [List.getElem_toArray, List.getElem_cons_succ, List.getElem_cons_zero]
          refine ite_is (by rfl) ?_
          simp [go_sem]
          refine hK.out _ _ ⟨fun _ => ⟨(bxe12.out.still (grown_alloc _ _)).cell 0 (by simp), (bxe12.out.still (grown_alloc _ _)).cell 1 (by simp), (by have := (IntS.at_ (IntS.turned HO.out (HF12.out.still (grown_alloc W12 (.cells #[.int .i64 num, .int .i64 (r : Int)] 3))) (by omega) (by omega)) htz).1; rw [HZT.out, Nat.zero_add] at this; exact this)⟩, ?_⟩
          clear hK K
          try simp only [List.getElem_toArray, List.getElem_cons_succ, List.getElem_cons_zero, Act.put, List.setIfInBounds_toArray, List.set_cons_zero, List.set_cons_succ]
          refine nameU ?_
          intro W14 HW14
          have hg14 : W12.grownBy W14 none := by rw [HW14.out]; exact grown_alloc _ _
          have BV14 := Lib.hid (show BoxN W14 W12.heap.size #[.int .i64 num, .int .i64 (r : Int)] 3 by rw [HW14.out]; exact BoxN.new _ _ _)
          have hz14 : W12.heap.size < W14.heap.size := BV14.out.lt
          clear HW14
          have hs14 := hg14.size
          have HF14 := Lib.hid (HF12.out.still hg14); clear HF12
          have O14 := Lib.hid (OwnI.still O12.out hg14); clear O12
          have bxe14 := Lib.hid (BoxN.still bxe12.out hg14); clear bxe12
          have hS15 : W14.cell? ⟨wt.heap.size, 0, none⟩ = some (.int .i64 t) ∧ W14.cell? ⟨wt.heap.size, 1, none⟩ = some (.int .i64 r) ∧ W14.cell? ⟨WA.heap.size, t, none⟩ = some (.int .i64 num) := ⟨bxe14.out.cell 0 (by simp), bxe14.out.cell 1 (by simp), (by have := (IntS.at_ (IntS.turned HO.out HF14.out (by omega) (by omega)) htz).1; rw [HZT.out, Nat.zero_add] at this; exact this)⟩
          clear hS13
          have LOX := HLV
          refine anyU_ready (rs := [9]) (by kernel_rfl) (by simp) ?_
          refine ReadyU.cons (i := 9) rfl (fun K hK => ?_) ReadyU.nil
          refine step_append_lies W14 (by rfl) _ _ _ (by rfl) wm.heap.size 3 i1 _ 1 _ Tryz.underlying23 HII.out HI1.out HI2.out HI3.out rfl (by omega) (.slice Ay ds.length cy) _ (ds.map (Value.int .i64)) (by rfl) O14.out ⟨W12.heap.size, 0, none⟩ 2 2 [.int .i64 num, .int .i64 (r : Int)] (by rfl) (by rfl) (World.news_of_block BV14.out) (by simp [Value.oneCell']) (by omega) (by rw [List.length_map]; unfold maxLen; omega) (by rw [List.length_map]; omega) (by omega) _ rfl ?_
          intro gp cp W16 hown hg16 hatp hltp
          simp only [List.length_map] at hown ⊢
          have hs16 := hg16.size
          have HF16 := Lib.hid (HF14.out.grown hg16 (fun g e => by have := LOX.out g e; omega)); clear HF14
          have bxe16 := Lib.hid (BoxN.far bxe14.out hg16 (fun g e => by have := LOX.out g e; omega)); clear bxe14
          have HOO16 := Lib.hid (own_appL (qs := [num, (r : Int)]) (n := 2) rfl hown)
          clear hown LOX hatp hltp BV14
          have hS17 : W16.cell? ⟨wt.heap.size, 0, none⟩ = some (.int .i64 t) ∧ W16.cell? ⟨wt.heap.size, 1, none⟩ = some (.int .i64 r) ∧ W16.cell? ⟨WA.heap.size, t, none⟩ = some (.int .i64 num) := ⟨bxe16.out.cell 0 (by simp), bxe16.out.cell 1 (by simp), (by have := (IntS.at_ (IntS.turned HO.out HF16.out (by omega) (by omega)) htz).1; rw [HZT.out, Nat.zero_add] at this; exact this)⟩
          refine hK.out _ _ ⟨fun _ => hS17, ?_⟩
          clear hK K hS15
          try simp only [List.getElem_toArray, List.getElem_cons_succ, List.getElem_cons_zero, Act.put, List.setIfInBounds_toArray, List.set_cons_zero, List.set_cons_succ]
          refine anyU_ready (rs := [10]) (by kernel_rfl) (by simp) ?_
          refine ReadyU.cons (i := 10) rfl (fun K hK => ?_) ReadyU.nil
          simp only [List.getElem_toArray, List.getElem_cons_succ, List.getElem_cons_zero]
          refine ite_is (by rfl) ?_
          simp [go_sem]
          refine hK.out _ _ ⟨fun _ => hS17, ?_⟩
          clear hK K
          try simp only [List.getElem_toArray, List.getElem_cons_succ, List.getElem_cons_zero, Act.put, List.setIfInBounds_toArray, List.set_cons_zero, List.set_cons_succ]
          clear hS17
          refine anyU_done (by kernel_rfl) ?_ _
          go_wp2_with fail
          go_roundw
          case rel => exact ⟨m + 1, _, by omega, by go_num, HOO16, Lib.hid HRS.out.symm, HF16⟩
          case measure => simp [intOf]; omega
      have hidi : (0 : Int) < N.ids.length := by omega
      have hidn : N.ids.length = N.ends.length := by have := HNI.out; omega
      have hvid : (u : Int) < N.ids.length := by rw [hidn]; exact hui
      have hvidn : u < N.ids.length := by rw [hidn]; exact hun
      have HIDN := Lib.hid hidn; clear hidn
      have GD := Lib.hid (netIdsW N_2.out)
      obtain ⟨bD, oD, rfl, _, hbD, _, _⟩ := GD.out.opened (j := 0) hid
      obtain ⟨xd, HXD⟩ : ∃ x, Hid (nth N.ids u = x) := ⟨_, Lib.hid rfl⟩
      have HIDE := Lib.hid (show [((nthL N.ends u).length : Int), xi, xd] = hd by rw [← HHD.out]; unfold codeHead; rw [if_pos hid, HXI.out, HXD.out])
      have xd1 := (IntS.at_ (IntS.turned GD.out HF3.out (by omega) (by omega)) hvidn).1
      rw [HXD.out] at xd1
      have kbx1_0 : wq.cell? ⟨w.heap.size, 0, none⟩ = some (.slice (some ⟨b1, o1, none⟩) N.ends.length c1) := (HF3.out.boxN bx1_2 (by omega)).cell 0 (by simp)
      have kbx1_1 : wq.cell? ⟨w.heap.size, 1, none⟩ = some (.slice (some ⟨bD, oD, none⟩) N.ids.length c1') := (HF3.out.boxN bx1_2 (by omega)).cell 1 (by simp)
      have kbx1_2 : wq.cell? ⟨w.heap.size, 2, none⟩ = some (.slice (some ⟨bI, oI, none⟩) N.inputs.length c1'') := (HF3.out.boxN bx1_2 (by omega)).cell 2 (by simp)
      go_wp2_with fail
      clear xd1 kbx1_0 kbx1_1 kbx1_2
      refine wp_region_U (fun w' => w'.cell? ⟨w.heap.size, 0, none⟩ = some (.slice (some ⟨b1, o1, none⟩) N.ends.length c1) ∧ w'.cell? ⟨w.heap.size, 1, none⟩ = some (.slice (some ⟨bD, oD, none⟩) N.ids.length c1') ∧ w'.cell? ⟨w.heap.size, 2, none⟩ = some (.slice (some ⟨bI, oI, none⟩) N.inputs.length c1'') ∧ w'.cell? ⟨b1, o1 + u, none⟩ = some (Value.slice Aa (nthL N.ends u).length ca) ∧ w'.cell? ⟨bI, oI + u, none⟩ = some (.int .i64 xi)) [] (by kernel_rfl) ?_
      refine nameU ?_
      intro W18 HW18
      have hg18 : wq.grownBy W18 none := by rw [HW18.out]; exact grown_drew _
      clear HW18
      have hs18 := hg18.size
      have HF18 := Lib.hid (HF3.out.still hg18); clear HF3
      have O18 := Lib.hid (OwnI.still HV.out hg18); clear HV
      have hS19 : W18.cell? ⟨w.heap.size, 0, none⟩ = some (.slice (some ⟨b1, o1, none⟩) N.ends.length c1) ∧ W18.cell? ⟨w.heap.size, 1, none⟩ = some (.slice (some ⟨bD, oD, none⟩) N.ids.length c1') ∧ W18.cell? ⟨w.heap.size, 2, none⟩ = some (.slice (some ⟨bI, oI, none⟩) N.inputs.length c1'') ∧ W18.cell? ⟨b1, o1 + u, none⟩ = some (Value.slice Aa (nthL N.ends u).length ca) ∧ W18.cell? ⟨bI, oI + u, none⟩ = some (.int .i64 xi) := ⟨(HF18.out.boxN bx1_2 (by omega)).cell 0 (by simp), (HF18.out.boxN bx1_2 (by omega)).cell 1 (by simp), (HF18.out.boxN bx1_2 (by omega)).cell 2 (by simp), ((HF18.out.cell (by omega) (by omega)).trans QA.out), (by have := (IntS.at_ (IntS.turned GI.out HF18.out (by omega) (by omega)) hvinn).1; rw [HXI.out] at this; exact this)⟩
      refine anyU_take (i := 0) (v := .slice Az cs.length cz) rfl (by kernel_rfl) (by kernel_rfl) (by kernel_rfl) (fun _ _ _ h => h) ⟨by rfl, fun w' hS' => (by obtain ⟨s1, s2, s3, s4, s5⟩ := hS'; go_simp)⟩ hS19 ?_
      simp only [List.getElem_toArray, List.getElem_cons_zero, Act.put, List.setIfInBounds_toArray, List.set_cons_zero, List.set_cons_succ]
      refine anyU_take (i := 1) (v := .pointer (some ⟨w.heap.size, 0, none⟩)) rfl (by kernel_rfl) (by kernel_rfl) (by kernel_rfl) (fun _ _ _ h => h) ⟨by rfl, fun w' hS' => (by obtain ⟨s1, s2, s3, s4, s5⟩ := hS'; go_simp)⟩ hS19 ?_
      simp only [List.getElem_toArray, List.getElem_cons_succ, List.getElem_cons_zero, Act.put, List.setIfInBounds_toArray, List.set_cons_zero, List.set_cons_succ]
      refine anyU_take (i := 2) (v := .slice (some ⟨b1, o1, none⟩) N.ends.length c1) rfl (by kernel_rfl) (by kernel_rfl) (by kernel_rfl) (fun _ _ _ h => h) ⟨by rfl, fun w' hS' => (by obtain ⟨s1, s2, s3, s4, s5⟩ := hS'; go_simp)⟩ hS19 ?_
      simp only [List.getElem_toArray, List.getElem_cons_succ, List.getElem_cons_zero, Act.put, List.setIfInBounds_toArray, List.set_cons_zero, List.set_cons_succ]
      refine anyU_take (i := 3) (v := .int .i64 u) rfl (by kernel_rfl) (by kernel_rfl) (by kernel_rfl) (fun _ _ _ h => h) ⟨by rfl, fun w' hS' => (by obtain ⟨s1, s2, s3, s4, s5⟩ := hS'; go_simp)⟩ hS19 ?_
      simp only [List.getElem_toArray, List.getElem_cons_succ, List.getElem_cons_zero, Act.put, List.setIfInBounds_toArray, List.set_cons_zero, List.set_cons_succ]
      refine anyU_take (i := 4) (v := .pointer (some ⟨b1, o1 + u, none⟩)) rfl (by kernel_rfl) (by kernel_rfl) (by kernel_rfl) (fun _ _ _ h => h) ⟨by rfl, fun w' hS' => (by obtain ⟨s1, s2, s3, s4, s5⟩ := hS'; simp [go_sem, hui])⟩ hS19 ?_
      simp only [List.getElem_toArray, List.getElem_cons_succ, List.getElem_cons_zero, Act.put, List.setIfInBounds_toArray, List.set_cons_zero, List.set_cons_succ]
      refine anyU_take (i := 5) (v := Value.slice Aa (nthL N.ends u).length ca) rfl (by kernel_rfl) (by kernel_rfl) (by kernel_rfl) (fun _ _ _ h => h) ⟨by rfl, fun w' hS' => (by obtain ⟨s1, s2, s3, s4, s5⟩ := hS'; go_simp)⟩ hS19 ?_
      simp only [List.getElem_toArray, List.getElem_cons_succ, List.getElem_cons_zero, Act.put, List.setIfInBounds_toArray, List.set_cons_zero, List.set_cons_succ]
      refine anyU_take (i := 6) (v := .int .i64 (nthL N.ends u).length) rfl (by kernel_rfl) (by kernel_rfl) (by kernel_rfl) (fun _ _ _ h => h) ⟨by rfl, fun w' hS' => (by obtain ⟨s1, s2, s3, s4, s5⟩ := hS'; go_simp)⟩ hS19 ?_
      simp only [List.getElem_toArray, List.getElem_cons_succ, List.getElem_cons_zero, Act.put, List.setIfInBounds_toArray, List.set_cons_zero, List.set_cons_succ]
      refine anyU_take (i := 7) (v := .pointer (some ⟨w.heap.size, 2, none⟩)) rfl (by kernel_rfl) (by kernel_rfl) (by kernel_rfl) (fun _ _ _ h => h) ⟨by rfl, fun w' hS' => (by obtain ⟨s1, s2, s3, s4, s5⟩ := hS'; go_simp)⟩ hS19 ?_
      simp only [List.getElem_toArray, List.getElem_cons_succ, List.getElem_cons_zero, Act.put, List.setIfInBounds_toArray, List.set_cons_zero, List.set_cons_succ]
      refine anyU_take (i := 8) (v := .slice (some ⟨bI, oI, none⟩) N.inputs.length c1'') rfl (by kernel_rfl) (by kernel_rfl) (by kernel_rfl) (fun _ _ _ h => h) ⟨by rfl, fun w' hS' => (by obtain ⟨s1, s2, s3, s4, s5⟩ := hS'; go_simp)⟩ hS19 ?_
      simp only [List.getElem_toArray, List.getElem_cons_succ, List.getElem_cons_zero, Act.put, List.setIfInBounds_toArray, List.set_cons_zero, List.set_cons_succ]
      refine anyU_take (i := 9) (v := .int .i64 u) rfl (by kernel_rfl) (by kernel_rfl) (by kernel_rfl) (fun _ _ _ h => h) ⟨by rfl, fun w' hS' => (by obtain ⟨s1, s2, s3, s4, s5⟩ := hS'; go_simp)⟩ hS19 ?_
      simp only [List.getElem_toArray, List.getElem_cons_succ, List.getElem_cons_zero, Act.put, List.setIfInBounds_toArray, List.set_cons_zero, List.set_cons_succ]
      refine anyU_take (i := 10) (v := .pointer (some ⟨bI, oI + u, none⟩)) rfl (by kernel_rfl) (by kernel_rfl) (by kernel_rfl) (fun _ _ _ h => h) ⟨by rfl, fun w' hS' => (by obtain ⟨s1, s2, s3, s4, s5⟩ := hS'; simp [go_sem, hvin])⟩ hS19 ?_
      simp only [List.getElem_toArray, List.getElem_cons_succ, List.getElem_cons_zero, Act.put, List.setIfInBounds_toArray, List.set_cons_zero, List.set_cons_succ]
      refine anyU_take (i := 11) (v := .int .i64 xi) rfl (by kernel_rfl) (by kernel_rfl) (by kernel_rfl) (fun _ _ _ h => h) ⟨by rfl, fun w' hS' => (by obtain ⟨s1, s2, s3, s4, s5⟩ := hS'; go_simp)⟩ hS19 ?_
      simp only [List.getElem_toArray, List.getElem_cons_succ, List.getElem_cons_zero, Act.put, List.setIfInBounds_toArray, List.set_cons_zero, List.set_cons_succ]
      refine anyU_take (i := 12) (v := .int .i64 xd) rfl (by kernel_rfl) (by kernel_rfl) (by kernel_rfl) (fun _ _ _ h => h) ⟨by rfl, fun w' hS' => (by obtain ⟨s1, s2, s3, s4, s5⟩ := hS'; go_simp)⟩ hS19 ?_
      simp only [List.getElem_toArray, List.getElem_cons_succ, List.getElem_cons_zero, Act.put, List.setIfInBounds_toArray, List.set_cons_zero, List.set_cons_succ]
      refine anyU_ready (rs := [13]) (by kernel_rfl) (by simp) ?_
      refine ReadyU.cons (i := 13) rfl (fun K hK => ?_) ReadyU.nil
      simp only [List.getElem_toArray, List.getElem_cons_succ, List.getElem_cons_zero]
      refine ite_is (by rfl) ?_
      simp [go_sem]
      refine hK.out _ _ ⟨fun _ => ⟨((HF18.out.boxN bx1_2 (by omega)).still (grown_alloc _ _)).cell 0 (by simp), ((HF18.out.boxN bx1_2 (by omega)).still (grown_alloc _ _)).cell 1 (by simp), ((HF18.out.boxN bx1_2 (by omega)).still (grown_alloc _ _)).cell 2 (by simp), (((HF18.out.still (grown_alloc W18 (.cells #[.int .i64 ((nthL N.ends u).length : Int), .int .i64 xi, .int .i64 xd] 3))).cell (by omega) (by omega)).trans QA.out), (by have := (IntS.at_ (IntS.turned GI.out (HF18.out.still (grown_alloc W18 (.cells #[.int .i64 ((nthL N.ends u).length : Int), .int .i64 xi, .int .i64 xd] 3))) (by omega) (by omega)) hvinn).1; rw [HXI.out] at this; exact this)⟩, ?_⟩
      clear hK K
      try simp only [List.getElem_toArray, List.getElem_cons_succ, List.getElem_cons_zero, Act.put, List.setIfInBounds_toArray, List.set_cons_zero, List.set_cons_succ]
      refine nameU ?_
      intro W20 HW20
      have hg20 : W18.grownBy W20 none := by rw [HW20.out]; exact grown_alloc _ _
      have BV20 := Lib.hid (show BoxN W20 W18.heap.size #[.int .i64 ((nthL N.ends u).length : Int), .int .i64 xi, .int .i64 xd] 3 by rw [HW20.out]; exact BoxN.new _ _ _)
      have hz20 : W18.heap.size < W20.heap.size := BV20.out.lt
      clear HW20
      have hs20 := hg20.size
      have HF20 := Lib.hid (HF18.out.still hg20); clear HF18
      have O20 := Lib.hid (OwnI.still O18.out hg20); clear O18
      have hS21 : W20.cell? ⟨w.heap.size, 0, none⟩ = some (.slice (some ⟨b1, o1, none⟩) N.ends.length c1) ∧ W20.cell? ⟨w.heap.size, 1, none⟩ = some (.slice (some ⟨bD, oD, none⟩) N.ids.length c1') ∧ W20.cell? ⟨w.heap.size, 2, none⟩ = some (.slice (some ⟨bI, oI, none⟩) N.inputs.length c1'') ∧ W20.cell? ⟨b1, o1 + u, none⟩ = some (Value.slice Aa (nthL N.ends u).length ca) ∧ W20.cell? ⟨bI, oI + u, none⟩ = some (.int .i64 xi) := ⟨(HF20.out.boxN bx1_2 (by omega)).cell 0 (by simp), (HF20.out.boxN bx1_2 (by omega)).cell 1 (by simp), (HF20.out.boxN bx1_2 (by omega)).cell 2 (by simp), ((HF20.out.cell (by omega) (by omega)).trans QA.out), (by have := (IntS.at_ (IntS.turned GI.out HF20.out (by omega) (by omega)) hvinn).1; rw [HXI.out] at this; exact this)⟩
      clear hS19
      have LOX := Lib.hid O20.out.lt
      refine anyU_ready (rs := [14]) (by kernel_rfl) (by simp) ?_
      refine ReadyU.cons (i := 14) rfl (fun K hK => ?_) ReadyU.nil
      refine step_append_lies W20 (by rfl) _ _ _ (by rfl) wm.heap.size 3 i1 _ 1 _ Tryz.underlying23 HII.out HI1.out HI2.out HI3.out rfl (by omega) (.slice Az cs.length cz) _ (cs.map (Value.int .i64)) (by rfl) O20.out ⟨W18.heap.size, 0, none⟩ 3 3 [.int .i64 ((nthL N.ends u).length : Int), .int .i64 xi, .int .i64 xd] (by rfl) (by rfl) (World.news_of_block BV20.out) (by simp [Value.oneCell']) (by omega) (by rw [List.length_map]; unfold maxLen; omega) (by rw [List.length_map]; omega) (by omega) _ rfl ?_
      intro gp cp W22 hown hg22 hatp hltp
      simp only [List.length_map] at hown ⊢
      have hs22 := hg22.size
      have HF22 := Lib.hid (HF20.out.grown hg22 (fun g e => by have := LOX.out g e; omega)); clear HF20
      have HOO22 := Lib.hid (own_appL (qs := [((nthL N.ends u).length : Int), xi, xd]) (n := 3) rfl hown)
      clear hown LOX hatp hltp BV20
      have hS23 : W22.cell? ⟨w.heap.size, 0, none⟩ = some (.slice (some ⟨b1, o1, none⟩) N.ends.length c1) ∧ W22.cell? ⟨w.heap.size, 1, none⟩ = some (.slice (some ⟨bD, oD, none⟩) N.ids.length c1') ∧ W22.cell? ⟨w.heap.size, 2, none⟩ = some (.slice (some ⟨bI, oI, none⟩) N.inputs.length c1'') ∧ W22.cell? ⟨b1, o1 + u, none⟩ = some (Value.slice Aa (nthL N.ends u).length ca) ∧ W22.cell? ⟨bI, oI + u, none⟩ = some (.int .i64 xi) := ⟨(HF22.out.boxN bx1_2 (by omega)).cell 0 (by simp), (HF22.out.boxN bx1_2 (by omega)).cell 1 (by simp), (HF22.out.boxN bx1_2 (by omega)).cell 2 (by simp), ((HF22.out.cell (by omega) (by omega)).trans QA.out), (by have := (IntS.at_ (IntS.turned GI.out HF22.out (by omega) (by omega)) hvinn).1; rw [HXI.out] at this; exact this)⟩
      refine hK.out _ _ ⟨fun _ => hS23, ?_⟩
      clear hK K hS21
      try simp only [List.getElem_toArray, List.getElem_cons_succ, List.getElem_cons_zero, Act.put, List.setIfInBounds_toArray, List.set_cons_zero, List.set_cons_succ]
      refine anyU_ready (rs := [15]) (by kernel_rfl) (by simp) ?_
      refine ReadyU.cons (i := 15) rfl (fun K hK => ?_) ReadyU.nil
      simp only [List.getElem_toArray, List.getElem_cons_succ, List.getElem_cons_zero]
      refine ite_is (by rfl) ?_
      simp [go_sem]
      refine hK.out _ _ ⟨fun _ => hS23, ?_⟩
      clear hK K
      try simp only [List.getElem_toArray, List.getElem_cons_succ, List.getElem_cons_zero, Act.put, List.setIfInBounds_toArray, List.set_cons_zero, List.set_cons_succ]
      clear hS23
      refine anyU_done (by kernel_rfl) ?_ _
      have HHE := Lib.hid (show [((nthL N.ends u).length : Int), xi, xd] = hd from HIDE.out)
      have hhl : hd.length = 3 := by rw [← HHE.out]; rfl
      have hcsl : (cs ++ [((nthL N.ends u).length : Int), xi, xd]).length = cs.length + 3 := by simp
      rw [HHE.out] at HOO22 hcsl
      have kbx1_0 : W22.cell? ⟨w.heap.size, 0, none⟩ = some (.slice (some ⟨b1, o1, none⟩) N.ends.length c1) := (HF22.out.boxN bx1_2 (by omega)).cell 0 (by simp)
      have kbx1_1 : W22.cell? ⟨w.heap.size, 1, none⟩ = some (.slice (some ⟨bD, oD, none⟩) N.ids.length c1') := (HF22.out.boxN bx1_2 (by omega)).cell 1 (by simp)
      have kbx1_2 : W22.cell? ⟨w.heap.size, 2, none⟩ = some (.slice (some ⟨bI, oI, none⟩) N.inputs.length c1'') := (HF22.out.boxN bx1_2 (by omega)).cell 2 (by simp)
      have qa2 : W22.cell? ⟨b1, o1 + u, none⟩ = some (Value.slice Aa (nthL N.ends u).length ca) := ((HF22.out.cell (by omega) (by omega)).trans QA.out)
      go_wp2_with fail
      clear qa2 kbx1_0 kbx1_1 kbx1_2
      go_loopw [66, 8] (fun mv ov wr => ∃ (m : Nat) (ds : List Int), m ≤ (nthL N.ends u).length ∧ mv = .int .i64 m ∧ Hid (OwnI wr wm.heap.size 3 ov ds) ∧ Hid (ds = cs ++ hd ++ codeRow N L u m) ∧ Hid (Turned wm.heap.size wm.heap.size wm wr)) (fun mv ov _ => (nthL N.ends u).length - (intOf mv).toNat)
      case atStart => exact ⟨0, _, Nat.zero_le _, rfl, HOO22, Lib.hid (by simp [codeRow]), HF22⟩
      case round =>
        clear HF22
        obtain ⟨m, ds, hm, rfl, HV, HD, HF24⟩ := hrel
        have hs24 := HF24.out.size
        obtain ⟨wt, rfl⟩ : ∃ wt : World, wt = wr := ⟨_, rfl⟩
        have hcr := codeRow_len N L u m
        have hdl : ds.length ≤ 700 := by rw [HD.out, List.length_append, List.length_append]; omega
        obtain ⟨Ay, cy, rfl, hcy, hdy⟩ := HV.out.ints.dims
        have HLV := Lib.hid HV.out.lt
        by_cases hml : m < (nthL N.ends u).length
        case neg =>
          obtain rfl : m = (nthL N.ends u).length := by omega
          have HDE := Lib.hid (show ds = codeTo N L (k + 1) by rw [HD.out, HCS.out, HHD.out, List.append_assoc])
          go_wp2_with fail
          go_roundw
          case rel => exact ⟨k + 1, ds, by omega, by go_num, HV, HDE, HF24⟩
          case measure => simp [intOf]; omega
        obtain ⟨ba, oa, rfl, _, hba', ea, ea'⟩ := (EndS.turned Ra.out HF24.out (by omega) (by omega)).opened hml
        obtain ⟨t, r, eta, ht, hr, eua⟩ := good_end HG.out hun hml
        rw [eta] at ea ea'
        dsimp only at ea ea'
        have ETa := Lib.hid eta
        have EUa := Lib.hid eua
        clear eta eua
        go_upto_region 18 with (fail)
        refine nameC ?_
        intro W25 HW25
        have hg25 : wt.grownBy W25 none := by rw [HW25.out]; exact grown_alloc _ _
        have hs25 := hg25.size
        have HF25 := Lib.hid (HF24.out.still hg25); clear HF24
        have O25 := Lib.hid (OwnI.still HV.out hg25); clear HV
        have bxe25 := Lib.hid (show BoxN W25 wt.heap.size #[.int .i64 t, .int .i64 r] 66 by rw [HW25.out]; exact BoxN.new _ _ _)
        clear HW25
        clear ea ea'
        have hti : (t : Int) < N.ends.length := by omega
        obtain ⟨num, HNUM⟩ : ∃ x, Hid (numV L (t : Int) = x) := ⟨_, Lib.hid rfl⟩
        have HZT := Lib.hid (show nth zs t = num by rw [HZ.out t ht, HNUM.out])
        have HRS := Lib.hid (show cs ++ hd ++ codeRow N L u (m + 1) = ds ++ [num, (r : Int)] by rw [codeRow_succ N L u hml, ETa.out, HD.out]; simp only [List.append_assoc]; rw [HNUM.out])
        have htz : t < zs.length := by rw [HLN.out]; exact ht
        go_wp2_with fail
        refine wp_region_U (fun w' => w'.cell? ⟨wt.heap.size, 0, none⟩ = some (.int .i64 t) ∧ w'.cell? ⟨wt.heap.size, 1, none⟩ = some (.int .i64 r) ∧ w'.cell? ⟨WA.heap.size, t, none⟩ = some (.int .i64 num)) [] (by kernel_rfl) ?_
        refine nameU ?_
        intro W26 HW26
        have hg26 : W25.grownBy W26 none := by rw [HW26.out]; exact grown_drew _
        clear HW26
        have hs26 := hg26.size
        have HF26 := Lib.hid (HF25.out.still hg26); clear HF25
        have O26 := Lib.hid (OwnI.still O25.out hg26); clear O25
        have bxe26 := Lib.hid (BoxN.still bxe25.out hg26); clear bxe25
        have hS27 : W26.cell? ⟨wt.heap.size, 0, none⟩ = some (.int .i64 t) ∧ W26.cell? ⟨wt.heap.size, 1, none⟩ = some (.int .i64 r) ∧ W26.cell? ⟨WA.heap.size, t, none⟩ = some (.int .i64 num) := ⟨bxe26.out.cell 0 (by simp), bxe26.out.cell 1 (by simp), (by have := (IntS.at_ (IntS.turned HO.out HF26.out (by omega) (by omega)) htz).1; rw [HZT.out, Nat.zero_add] at this; exact this)⟩
        refine anyU_take (i := 0) (v := .slice Ay ds.length cy) rfl (by kernel_rfl) (by kernel_rfl) (by kernel_rfl) (fun _ _ _ h => h) ⟨by rfl, fun w' hS' => (by obtain ⟨s1, s2, s3⟩ := hS'; go_simp)⟩ hS27 ?_
        simp only [List.getElem_toArray, List.getElem_cons_zero, Act.put, List.setIfInBounds_toArray, List.set_cons_zero, List.set_cons_succ]
        refine anyU_take (i := 1) (v := .slice (some ⟨WA.heap.size, 0, none⟩) N.ends.length N.ends.length) rfl (by kernel_rfl) (by kernel_rfl) (by kernel_rfl) (fun _ _ _ h => h) ⟨by rfl, fun w' hS' => (by obtain ⟨s1, s2, s3⟩ := hS'; go_simp)⟩ hS27 ?_
        simp only [List.getElem_toArray, List.getElem_cons_succ, List.getElem_cons_zero, Act.put, List.setIfInBounds_toArray, List.set_cons_zero, List.set_cons_succ]
        refine anyU_take (i := 2) (v := .pointer (some ⟨wt.heap.size, 0, none⟩)) rfl (by kernel_rfl) (by kernel_rfl) (by kernel_rfl) (fun _ _ _ h => h) ⟨by rfl, fun w' hS' => (by obtain ⟨s1, s2, s3⟩ := hS'; go_simp)⟩ hS27 ?_
        simp only [List.getElem_toArray, List.getElem_cons_succ, List.getElem_cons_zero, Act.put, List.setIfInBounds_toArray, List.set_cons_zero, List.set_cons_succ]
        refine anyU_take (i := 3) (v := .int .i64 t) rfl (by kernel_rfl) (by kernel_rfl) (by kernel_rfl) (fun _ _ _ h => h) ⟨by rfl, fun w' hS' => (by obtain ⟨s1, s2, s3⟩ := hS'; go_simp)⟩ hS27 ?_
        simp only [List.getElem_toArray, List.getElem_cons_succ, List.getElem_cons_zero, Act.put, List.setIfInBounds_toArray, List.set_cons_zero, List.set_cons_succ]
        refine anyU_take (i := 4) (v := .pointer (some ⟨WA.heap.size, t, none⟩)) rfl (by kernel_rfl) (by kernel_rfl) (by kernel_rfl) (fun _ _ _ h => h) ⟨by rfl, fun w' hS' => (by obtain ⟨s1, s2, s3⟩ := hS'; simp [go_sem, hti])⟩ hS27 ?_
        simp only [List.getElem_toArray, List.getElem_cons_succ, List.getElem_cons_zero, Act.put, List.setIfInBounds_toArray, List.set_cons_zero, List.set_cons_succ]
        refine anyU_take (i := 5) (v := .int .i64 num) rfl (by kernel_rfl) (by kernel_rfl) (by kernel_rfl) (fun _ _ _ h => h) ⟨by rfl, fun w' hS' => (by obtain ⟨s1, s2, s3⟩ := hS'; go_simp)⟩ hS27 ?_
        simp only [List.getElem_toArray, List.getElem_cons_succ, List.getElem_cons_zero, Act.put, List.setIfInBounds_toArray, List.set_cons_zero, List.set_cons_succ]
        refine anyU_take (i := 6) (v := .pointer (some ⟨wt.heap.size, 1, none⟩)) rfl (by kernel_rfl) (by kernel_rfl) (by kernel_rfl) (fun _ _ _ h => h) ⟨by rfl, fun w' hS' => (by obtain ⟨s1, s2, s3⟩ := hS'; go_simp)⟩ hS27 ?_
        simp only [List.getElem_toArray, List.getElem_cons_succ, List.getElem_cons_zero, Act.put, List.setIfInBounds_toArray, List.set_cons_zero, List.set_cons_succ]
        refine anyU_take (i := 7) (v := .int .i64 r) rfl (by kernel_rfl) (by kernel_rfl) (by kernel_rfl) (fun _ _ _ h => h) ⟨by rfl, fun w' hS' => (by obtain ⟨s1, s2, s3⟩ := hS'; go_simp)⟩ hS27 ?_
        simp only [List.getElem_toArray, List.getElem_cons_succ, List.getElem_cons_zero, Act.put, List.setIfInBounds_toArray, List.set_cons_zero, List.set_cons_succ]
        refine anyU_ready (rs := [8]) (by kernel_rfl) (by simp) ?_
        refine ReadyU.cons (i := 8) rfl (fun K hK => ?_) ReadyU.nil
        simp only [List.getElem_toArray, List.getElem_cons_succ, List.getElem_cons_zero]
        refine ite_is (by rfl) ?_
        simp [go_sem]
        refine hK.out _ _ ⟨fun _ => ⟨(bxe26.out.still (grown_alloc _ _)).cell 0 (by simp), (bxe26.out.still (grown_alloc _ _)).cell 1 (by simp), (by have := (IntS.at_ (IntS.turned HO.out (HF26.out.still (grown_alloc W26 (.cells #[.int .i64 num, .int .i64 (r : Int)] 3))) (by omega) (by omega)) htz).1; rw [HZT.out, Nat.zero_add] at this; exact this)⟩, ?_⟩
        clear hK K
        try simp only [List.getElem_toArray, List.getElem_cons_succ, List.getElem_cons_zero, Act.put, List.setIfInBounds_toArray, List.set_cons_zero, List.set_cons_succ]
        refine nameU ?_
        intro W28 HW28
        have hg28 : W26.grownBy W28 none := by rw [HW28.out]; exact grown_alloc _ _
        have BV28 := Lib.hid (show BoxN W28 W26.heap.size #[.int .i64 num, .int .i64 (r : Int)] 3 by rw [HW28.out]; exact BoxN.new _ _ _)
        have hz28 : W26.heap.size < W28.heap.size := BV28.out.lt
        clear HW28
        have hs28 := hg28.size
        have HF28 := Lib.hid (HF26.out.still hg28); clear HF26
        have O28 := Lib.hid (OwnI.still O26.out hg28); clear O26
        have bxe28 := Lib.hid (BoxN.still bxe26.out hg28); clear bxe26
        have hS29 : W28.cell? ⟨wt.heap.size, 0, none⟩ = some (.int .i64 t) ∧ W28.cell? ⟨wt.heap.size, 1, none⟩ = some (.int .i64 r) ∧ W28.cell? ⟨WA.heap.size, t, none⟩ = some (.int .i64 num) := ⟨bxe28.out.cell 0 (by simp), bxe28.out.cell 1 (by simp), (by have := (IntS.at_ (IntS.turned HO.out HF28.out (by omega) (by omega)) htz).1; rw [HZT.out, Nat.zero_add] at this; exact this)⟩
        clear hS27
        have LOX := HLV
        refine anyU_ready (rs := [9]) (by kernel_rfl) (by simp) ?_
        refine ReadyU.cons (i := 9) rfl (fun K hK => ?_) ReadyU.nil
        refine step_append_lies W28 (by rfl) _ _ _ (by rfl) wm.heap.size 3 i1 _ 1 _ Tryz.underlying23 HII.out HI1.out HI2.out HI3.out rfl (by omega) (.slice Ay ds.length cy) _ (ds.map (Value.int .i64)) (by rfl) O28.out ⟨W26.heap.size, 0, none⟩ 2 2 [.int .i64 num, .int .i64 (r : Int)] (by rfl) (by rfl) (World.news_of_block BV28.out) (by simp [Value.oneCell']) (by omega) (by rw [List.length_map]; unfold maxLen; omega) (by rw [List.length_map]; omega) (by omega) _ rfl ?_
        intro gp cp W30 hown hg30 hatp hltp
        simp only [List.length_map] at hown ⊢
        have hs30 := hg30.size
        have HF30 := Lib.hid (HF28.out.grown hg30 (fun g e => by have := LOX.out g e; omega)); clear HF28
        have bxe30 := Lib.hid (BoxN.far bxe28.out hg30 (fun g e => by have := LOX.out g e; omega)); clear bxe28
        have HOO30 := Lib.hid (own_appL (qs := [num, (r : Int)]) (n := 2) rfl hown)
        clear hown LOX hatp hltp BV28
        have hS31 : W30.cell? ⟨wt.heap.size, 0, none⟩ = some (.int .i64 t) ∧ W30.cell? ⟨wt.heap.size, 1, none⟩ = some (.int .i64 r) ∧ W30.cell? ⟨WA.heap.size, t, none⟩ = some (.int .i64 num) := ⟨bxe30.out.cell 0 (by simp), bxe30.out.cell 1 (by simp), (by have := (IntS.at_ (IntS.turned HO.out HF30.out (by omega) (by omega)) htz).1; rw [HZT.out, Nat.zero_add] at this; exact this)⟩
        refine hK.out _ _ ⟨fun _ => hS31, ?_⟩
        clear hK K hS29
        try simp only [List.getElem_toArray, List.getElem_cons_succ, List.getElem_cons_zero, Act.put, List.setIfInBounds_toArray, List.set_cons_zero, List.set_cons_succ]
        refine anyU_ready (rs := [10]) (by kernel_rfl) (by simp) ?_
        refine ReadyU.cons (i := 10) rfl (fun K hK => ?_) ReadyU.nil
        simp only [List.getElem_toArray, List.getElem_cons_succ, List.getElem_cons_zero]
        refine ite_is (by rfl) ?_
        simp [go_sem]
        refine hK.out _ _ ⟨fun _ => hS31, ?_⟩
        clear hK K
        try simp only [List.getElem_toArray, List.getElem_cons_succ, List.getElem_cons_zero, Act.put, List.setIfInBounds_toArray, List.set_cons_zero, List.set_cons_succ]
        clear hS31
        refine anyU_done (by kernel_rfl) ?_ _
        go_wp2_with fail
        go_roundw
        case rel => exact ⟨m + 1, _, by omega, by go_num, HOO30, Lib.hid HRS.out.symm, HF30⟩
        case measure => simp [intOf]; omega

end Go.Proofs.YtmdlginjblnfoaaGreat
