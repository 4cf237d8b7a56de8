/-
  Several texts in one: Cpj, Stp, Rn1, Rn2, Put, Rn3. No condition on any program.
-/
import Derived.Test.YtmdlginjblnfoaaGreatCzM
import Derived.Test.YtmdlginjblnfoaaGreatCzN
import Derived.Test.YtmdlginjblnfoaaGreatCzH
import Derived.Test.YtmdlginjblnfoaaGreatCzK
import Derived.Test.YtmdlginjblnfoaaGreatCzE
import Derived.Test.YtmdlginjblnfoaaGreatCzF
import Derived.Test.YtmdlginjblnfoaaGreatCzD
import Derived.Laws.AppendOwnNone

/- Contract: CanonicalComponents (program). -/
namespace Go.Proofs.YtmdlginjblnfoaaGreat
open Go.ChangeShapes Go.WideShapes Go.ChangeAt Go.RowKit
set_option linter.unusedVariables false

set_option maxHeartbeats 8000000 in
set_option maxRecDepth 100000 in
theorem CanonicalComponents_impl (v1 : Value) (N : NetD) (lo1 hi1 : Nat) (w : World) (h1 : Net w lo1 hi1 v1 N) (hh1 : hi1 ≤ w.heap.size) (hz1 : N.sz ≤ 1048576) (ok1 : N.Ok) :
    Calls Tryz.prog 7 #[v1] w fun e w' => ∃ r, e = .returned (.tuple #[r, .bool N.good]) ∧ NetSX w' w.heap.size w'.heap.size r (ccOut N) ∧ Below w.heap.size w w' := by
  clear ok1
  have F1 := Lib.hid h1
  obtain ⟨A1, c1, A1', c1', A1'', c1'', rfl, hc1, hd1, _⟩ := h1.parts
  clear h1
  obtain ⟨WA, HWA⟩ : ∃ W, Hid (W = (w.alloc (.cells #[.slice A1 N.ends.length c1, .slice A1' N.ids.length c1', .slice A1'' N.inputs.length c1''] 32))) := ⟨_, Lib.hid rfl⟩
  have hbA : Below w.heap.size w WA := by rw [HWA.out]; exact ((Below.refl _ _).alloc (Nat.le_refl _) _)
  have hsA : w.heap.size + 1 ≤ WA.heap.size := by rw [HWA.out]; simp; try omega
  have bx1 : BoxN WA (w.heap.size) #[.slice A1 N.ends.length c1, .slice A1' N.ids.length c1', .slice A1'' N.inputs.length c1''] 32 := by rw [HWA.out]; exact (BoxN.new' _ _ _ (by simp))
  have G1 := Lib.hid (Net.below F1.out hbA hh1); clear F1
  go_enter Tryz.func7, Tryz.ntmps7
  go_upto_region 1 with (fail)
  rw [← HWA.out]; clear HWA
  have kbx1_0 : WA.cell? ⟨w.heap.size, 0, none⟩ = some (.slice A1 N.ends.length c1) := bx1.cell 0 (by simp)
  have kbx1_1 : WA.cell? ⟨w.heap.size, 1, none⟩ = some (.slice A1' N.ids.length c1') := bx1.cell 1 (by simp)
  have kbx1_2 : WA.cell? ⟨w.heap.size, 2, none⟩ = some (.slice A1'' N.inputs.length c1'') := bx1.cell 2 (by simp)
  go_wp2_with fail
  clear kbx1_0 kbx1_1 kbx1_2
  refine (IsNetwork_any _ N lo1 hi1 _ G1.out (by omega) hz1).mono ?_
  rintro e W1 ⟨rfl, hb1⟩
  have hg1 := grown_below hb1; clear hb1
  have hs1 := hg1.size
  have HF1 := Lib.hid ((Turned.refl WA.heap.size WA.heap.size WA).still hg1)
  by_cases hg : N.good = true
  case neg =>
    have hg' : N.good = false := by simpa using hg
    rw [hg']
    have HG := Lib.hid hg'; clear hg hg'
    go_wp2_with fail
    go_ret2
    exact ⟨_, ret_vb HG.out.symm, by rw [ccOut_no HG.out]; exact NetSX.nil _ _ _, (HF1.out.below_of hbA (by omega) (by omega))⟩
  rw [hg]
  have HG := Lib.hid hg; clear hg
  obtain ⟨n1, n40⟩ := good_n HG.out
  have HWK := Lib.hid (sortedC_wok HG.out)
  have kbx1_0 : W1.cell? ⟨w.heap.size, 0, none⟩ = some (.slice A1 N.ends.length c1) := (HF1.out.boxN bx1 (by omega)).cell 0 (by simp)
  have kbx1_1 : W1.cell? ⟨w.heap.size, 1, none⟩ = some (.slice A1' N.ids.length c1') := (HF1.out.boxN bx1 (by omega)).cell 1 (by simp)
  have kbx1_2 : W1.cell? ⟨w.heap.size, 2, none⟩ = some (.slice A1'' N.inputs.length c1'') := (HF1.out.boxN bx1 (by omega)).cell 2 (by simp)
  go_wp2_with fail
  clear kbx1_0 kbx1_1 kbx1_2
  refine (componentsOf_any _ N lo1 hi1 _ (Net.turned G1.out HF1.out (by omega) (by omega)) (by omega) HG.out sortC_any).mono ?_
  rintro e W2 ⟨r0, xs, rfl, hxs, hX, hb2⟩
  have hg2 := grown_below hb2; clear hb2
  have hs2 := hg2.size
  have HF2 := Lib.hid (HF1.out.still hg2); clear HF1
  have HX := Lib.hid hX; have HXS := Lib.hid hxs; clear hX
  have hxl : xs.length ≤ 40 := by
    have h := congrArg List.length hxs
    rw [List.length_map] at h
    have := HWK.out.2
    omega
  clear hxs
  obtain ⟨Ao, co, rfl, hco, hdo⟩ := HX.out.len
  have hlowX : W1.heap.size ≤ W2.heap.size := HX.out.low
  go_wp2_with fail
  go_loopw [13, 4] (fun kv ov wr => ∃ (k tp : Nat) (Ns : List NetD), k ≤ xs.length ∧ kv = .int .i64 k ∧ Hid (Ns = (ccL N).take k) ∧ Hid (OwnNS wr W2.heap.size tp 32 ov Ns) ∧ Hid (CoS encI 4 wr W1.heap.size W2.heap.size 53 (.slice Ao xs.length co) xs) ∧ Hid (Turned WA.heap.size WA.heap.size WA wr)) (fun kv ov _ => xs.length - (intOf kv).toNat)
  case atStart => exact ⟨0, W2.heap.size, [], Nat.zero_le _, rfl, Lib.hid (by simp), Lib.hid (OwnNS.nil (Nat.le_refl _) (Nat.le_refl _)), HX, HF2⟩
  case round =>
    clear HF2
    obtain ⟨k, tp, Ns, hk, rfl, HNS, HO, HX, HF3⟩ := hrel
    have hs3 := HF3.out.size
    obtain ⟨wq, rfl⟩ : ∃ wq : World, wq = wr := ⟨_, rfl⟩
    have hxh := HX.out.high
    have hsl : (sortedC N).length = xs.length := by rw [← HXS.out, List.length_map]
    by_cases hkn : k < xs.length
    case neg =>
      obtain rfl : k = xs.length := by omega
      have HR := Lib.hid (show Ns = ccL N by rw [HNS.out, ← hsl, ← ccL_length, List.take_length])
      obtain ⟨Av, cv, rfl, hcv, hdv⟩ := HO.out.len
      go_wp2_with fail
      go_ret2
      exact ⟨_, ret_vb HG.out.symm, by rw [ccOut_yes HG.out, ← HR.out]; exact NetSX.mono HO.out.netSX (by omega) (Nat.le_refl _), (HF3.out.below_of hbA (by omega) (by omega))⟩
    obtain ⟨b, c, eb, hc1, hc2, hb1, hb2, hcl⟩ := HX.out.cells (fun _ => rfl) (by omega) (by omega)
    injection eb with eb1 _ eb2
    subst eb1 eb2
    have hxm : xs[k] ∈ xs := List.getElem_mem hkn
    have hxc : xs[k].c ∈ sortedC N := by rw [← HXS.out]; exact List.mem_map.2 ⟨_, hxm, rfl⟩
    have hks : k < (sortedC N).length := by omega
    have hxe : (sortedC N)[k] = xs[k].c := by
      have : (sortedC N)[k]? = (xs.map CmpV.c)[k]? := by rw [HXS.out]
      rw [List.getElem?_eq_getElem hks, List.getElem?_eq_getElem (by simpa using hkn)] at this
      simpa using this
    have HWC := Lib.hid (HWK.out.1 _ hxc)
    have HSW := Lib.hid (sorted_walk HG.out hxc)
    have HTK := Lib.hid (show (ccL N).take (k + 1) = (ccL N).take k ++ [partN N xs[k].c.walk kpT] by rw [ccL_take hks, hxe])
    have HEQ := Lib.hid hxe
    obtain ⟨lo, hi, a1, a2, hE, a4⟩ := HX.out.el _ hxm
    have q0 := hcl k hkn 0 _ (by omega) rfl
    have q1 := hcl k hkn 1 _ (by omega) rfl
    have q2 := hcl k hkn 2 _ (by omega) rfl
    have q3 := hcl k hkn 3 _ (by omega) rfl
    clear hcl hxm hxc hxe
    have hE2 := hE.walk
    have hE1 := hE.code
    clear hE
    obtain ⟨x, HXK⟩ : ∃ x, Hid (xs[k] = x) := ⟨_, Lib.hid rfl⟩
    rw [HXK.out] at q0 q1 q2 q3 hE1 hE2 HWC HTK HSW HEQ
    obtain ⟨vc, vw, cc⟩ := x
    dsimp only at q0 q1 q2 q3 hE1 hE2 HWC HTK HSW HEQ
    obtain ⟨Aq, cq, rfl, _, _⟩ := hE1.dims
    obtain ⟨Ar, cr, rfl, hw1, hw2⟩ := hE2.dims
    have HE2 := Lib.hid hE2; clear hE1 hE2
    have q0' := q0.1; have q1' := q1.1; have q2' := q2.1; have q3' := q3.1
    clear q0 q1 q2 q3
    have hki : (k : Int) < xs.length := by omega
    rw [Nat.add_zero] at q0'
    have hwl : cc.walk.length ≤ 40 := by have := HWC.out.1; omega
    have HZN := Lib.hid (show ∀ j, j < cc.walk.length → ∃ t : Nat, nth cc.walk j = t ∧ t < N.ends.length from fun j hj => HWC.out.2 _ (nth_mem hj))
    have hot := HO.out.top
    have HLB := Lib.hid HO.out.ltB
    have hnl : Ns.length ≤ 40 := by rw [HNS.out, List.length_take]; omega
    go_upto_region 7 with (fail)
    refine nameC ?_
    intro W4 HW4
    have hg4 : wq.grownBy W4 none := by rw [HW4.out]; exact grown_alloc _ _
    have hs4 := hg4.size
    have HF4 := Lib.hid (HF3.out.still hg4); clear HF3
    have O4 := Lib.hid (OwnNS.still HO.out hg4); clear HO
    have X4 := Lib.hid (CoS.still HX.out hg4); clear HX
    have E4 := Lib.hid (IntS.still HE2.out hg4 (by omega)); clear HE2
    have CB4 := Lib.hid (show BoxN W4 wq.heap.size #[.slice Aq cc.code.length cq, .slice Ar cc.walk.length cr, .int .i64 (cc.least : Nat), .int .i64 (cc.cnt : Nat)] 53 by rw [HW4.out]; exact BoxN.new _ _ _)
    clear HW4
    have kb1 := CB4.out.cell 1 (by simp)
    have kbx1_0 : W4.cell? ⟨w.heap.size, 0, none⟩ = some (.slice A1 N.ends.length c1) := (HF4.out.boxN bx1 (by omega)).cell 0 (by simp)
    have kbx1_1 : W4.cell? ⟨w.heap.size, 1, none⟩ = some (.slice A1' N.ids.length c1') := (HF4.out.boxN bx1 (by omega)).cell 1 (by simp)
    have kbx1_2 : W4.cell? ⟨w.heap.size, 2, none⟩ = some (.slice A1'' N.inputs.length c1'') := (HF4.out.boxN bx1 (by omega)).cell 2 (by simp)
    go_wp2_with fail
    clear kb1 kbx1_0 kbx1_1 kbx1_2
    refine (partB_any _ N lo1 hi1 _ cc.walk _ _ 24 #[] _ (Net.turned G1.out HF4.out (by omega) (by omega)) (by omega) E4.out (by omega) (enters_of Tryz.func24 (by kernel_rfl) rfl) kpT (fun v i _ _ W _ => cc1_any v i W) HG.out HZN.out hwl).mono ?_
    obtain ⟨P, HP⟩ : ∃ P, Hid (partN N cc.walk kpT = P) := ⟨_, Lib.hid rfl⟩
    rw [HP.out]
    rintro e W5 ⟨rp, rfl, hrp, hb5⟩
    have hg5 := grown_below hb5; clear hb5
    have hs5 := hg5.size
    have HF5 := Lib.hid (HF4.out.still hg5); clear HF4
    have O5 := Lib.hid (OwnNS.still O4.out hg5); clear O4
    have X5 := Lib.hid (CoS.still X4.out hg5); clear X4
    have E5 := Lib.hid (IntS.still E4.out hg5 (by omega)); clear E4
    obtain ⟨B5, c5', B6, c6', B7, c7', rfl, hc5', hd5', _⟩ := hrp.net.parts
    have HB := Lib.hid hrp; clear hrp
    rw [HP.out] at HTK
    go_wp2_with (at_builtin; refine append_net (s := .tmp 17) Tryz.underlying27 infoNet rfl (by decide) W5 rfl _ rfl O5.out HB.out (by omega) (Nat.le_refl _) (by omega) (fun g hg => by have := (HLB.out g hg).2; omega) rfl rfl rfl _ (by simp [Act.eval, go_sem]) (by simp [Act.eval, go_sem]) (by omega) ?_; intro v' w' hns' hv' hg')
    go_roundw
    case rel => exact ⟨k + 1, W5.heap.size, Ns ++ [P], by omega, by go_num, Lib.hid (by rw [HTK.out, HNS.out]), Lib.hid hns', Lib.hid (CoS.far X5.out hg' (fun g e => .inr (HLB.out g e).1)), Lib.hid (HF5.out.grown hg' fun g e => .inr (by have := (HLB.out g e).1; omega))⟩
    case measure => simp [intOf]; omega

end Go.Proofs.YtmdlginjblnfoaaGreat

/- Steps of regions that draw their order: an append of a row that the call owns too; a region cut behind its operations. No condition on any program. -/
namespace Go.Proofs.YtmdlginjblnfoaaGreat
open Go.ChangeShapes Go.WideShapes Go.ChangeAt Go.RowKit
set_option linter.unusedVariables false

/-- append, at a step of a region that draws its order, of a row that the call owns too -/
theorem step_append_own2 {P : Program} {ops : Array Oper} {o : Oper} {a : Act} {K : Act → World → Prop} {Q : Exit → Act → World → Prop} {E : Prop} {t e : TypeId} {z : Value} {sz bytes : Nat}
    (ht : P.underlying t = some (.slice e)) (hinfo : (P.info? e).map (fun i => (i.zero, i.size, i.bytes)) = some (some z, sz, bytes)) (hz1 : z.cells.size = sz) (hsz : 0 < sz) (hby : bytes ≤ 64)
    (w : World) (hgd : o.guard = none) {s : Operand} (x : Operand) (ho : o.op = .call { callee := .builtin .append, args := #[s, x], argTypes := #[t, t] })
    {base : Nat} {v : Value} {n : Nat} {xs : List Value} (hown : w.ownsRow base e sz v n xs) (hs : a.eval s = v) {base2 : Nat} {e2 : TypeId} {v2 : Value} {m : Nat} (news : List Value) (hown2 : w.ownsRow base2 e2 sz v2 m news) (hx : a.eval x = v2)
    (h1 : ∀ u ∈ news, u.oneCell' = true) (hlen : n + m ≤ 1099511627776) (hbase : base ≤ w.heap.size)
    (h : ∀ v' w', w'.ownsRow base e sz v' (n + m) (xs ++ news) → w.grownBy w' v.ownBlock → (v'.ownBlock = v.ownBlock ∨ ∃ g, v'.ownBlock = some g ∧ w.heap.size ≤ g) → K (a.put o.dst v') w') :
    if Region.wanted o (yielded ops a.tmps) = true then Oper.wp P o a w K Q else E := by
  have hw : Region.wanted o (yielded ops a.tmps) = true := by simp [Region.wanted, hgd]
  rw [if_pos hw]
  obtain ⟨i, hi, hzz⟩ := Option.map_eq_some_iff.1 hinfo
  simp only [Prod.mk.injEq] at hzz
  obtain ⟨hz, hsz2, hb⟩ := hzz
  obtain ⟨hl2, h2⟩ := hown2
  rcases h2 with ⟨rfl, hm0⟩ | ⟨g2, cap2, cur2, rfl, hg2, hh2, hn2, hm2, hs2, ht2⟩
  · subst hm0
    have hnil : news = [] := List.eq_nil_of_length_eq_zero (by rw [hl2, Nat.zero_mul])
    subst hnil
    have hrun := run_append_owned_none (P := P) (w := w) base t o.type e i sz ht hi v n xs hown
    have h3 := h v w (by simpa using hown) ⟨rfl, rfl, rfl, Nat.le_refl _, fun _ _ _ => rfl⟩ (.inl rfl)
    unfold Oper.wp
    simp [execOp, ho, resolve, invoke, builtin, hs, hx, hrun, Result.andThen]
    exact h3
  · have hnews : ∀ j u, news[j]? = some u → w.cell? ((⟨g2, 0, none⟩ : Addr).add j) = some u := fun j u hj => by
      have hjl : j < m * sz := by rw [← hl2]; exact (List.getElem?_eq_some_iff.1 hj).1
      rw [Go.WideShapes.add_plain g2 0 j, cell_of_row w g2 _ cur2 e2 (0, 0) hh2, Nat.zero_add]
      rw [← ht2, List.getElem?_take_of_lt hjl] at hj
      simpa using hj
    obtain ⟨v', w', hr, a1, a2, _, a4⟩ := run_append_own_at (P := P) w base t o.type e i z sz bytes ht hi hz hsz2 hb hz1 hsz v n xs hown ⟨g2, 0, none⟩ m cap2 news hl2 hnews h1 (by unfold maxLen; omega) (by
      have : (n + m) * bytes ≤ 1099511627776 * 64 := Nat.mul_le_mul hlen hby
      omega) hbase
    have h3 := h v' w' a1 a2 (a4.imp id fun e => ⟨_, e, Nat.le_refl _⟩)
    unfold Oper.wp execOp
    simp only [ho, resolve, invoke, builtin, Sem.run_bind, Sem.run_pure, Result.andThen_ok, List.map_toArray, List.map_cons, List.map_nil, hs, hx, hr]
    exact h3
/-- an empty row in a block of its own -/
theorem owns_empty (w : World) (base : Nat) (e : TypeId) (k : Nat) {g : Nat} (hg : w.heap.size = g) (hb : base ≤ g) : (w.alloc (.cells #[] e)).ownsRow base e k (.slice (some ⟨g, 0, none⟩) 0 0) 0 [] := by
  subst hg
  refine ⟨by simp, .inr ⟨w.heap.size, 0, #[], by simp, hb, heap_alloc_new w _, by simp, by simp, by simp, by simp⟩⟩
/-- a block known whole is a row of one -/
theorem owns_box {w : World} {g : Nat} {cs : Array Value} {e : TypeId} (h : BoxN w g cs e) {k : Nat} (hk : cs.size = k) (base : Nat) (hb : base ≤ g) : w.ownsRow base e k (.slice (some ⟨g, 0, none⟩) 1 1) 1 cs.toList := by
  have h' : w.heap[g]? = some (.cells cs e (0, 0)) := h
  exact ⟨by simp [hk], .inr ⟨g, 1, cs, rfl, hb, h', Nat.le_refl _, by unfold maxLen; omega, by omega, List.take_of_length_le (by simp [hk])⟩⟩
theorem grown_new {a b c : World} {row : Option Nat} (h : a.grownBy b none) (k : b.grownBy c row) (hr : ∀ g, row = some g → a.heap.size ≤ g) : a.grownBy c none :=
  ⟨k.os.trans h.os, k.tape.trans h.tape, k.output.trans h.output, Nat.le_trans h.size k.size, fun i hi _ => (k.block i (Nat.lt_of_lt_of_le hi h.size) (fun e => by have := hr i e.symm; omega)).trans (h.block i hi (by simp))⟩
theorem run_append_zero {P : Program} {w : World} (base : Nat) (t ty e : TypeId) (i : TypeInfo) (size : Nat) (ht : P.underlying t = some (.slice e)) (hi : P.info? e = some i)
    (v : Value) (n : Nat) (xs : List Value) (hown : w.ownsRow base e size v n xs) (A : Option Addr) (c : Nat) :
    (Builtin.append_ #[t, t] ty #[v, .slice A 0 c]).run P w = .ok v w := by
  rcases hown.2 with ⟨rfl, rfl⟩ | ⟨g, cap, cur, rfl, _, _, hnc, _⟩
  · cases A <;> simp [Builtin.append_, run_underlying ht, sizeOf, typeInfo, hi, Builtin.lenOf, Builtin.firstCells, loadCells, loadCellsFrom]
  · cases A <;> simp [Builtin.append_, run_underlying ht, sizeOf, typeInfo, hi, Builtin.lenOf, Builtin.firstCells, hnc, storeCells, loadCells, loadCellsFrom]
/-- append of nothing, wherever it lies -/
theorem append_zero {P : Program} {ops : Array Oper} {rest : List Oper} {o : Oper} {a : Act} {Q : Exit → Act → World → Prop} {t e : TypeId} {i : TypeInfo} {size : Nat}
    (ht : P.underlying t = some (.slice e)) (hi : P.info? e = some i) (w : World) (hgd : o.guard = none) {s : Operand} (x : Operand) (ho : o.op = .call { callee := .builtin .append, args := #[s, x], argTypes := #[t, t] })
    {base : Nat} {v : Value} {n : Nat} {xs : List Value} (hown : w.ownsRow base e size v n xs) (hs : a.eval s = v) {A : Option Addr} {c : Nat} (hx : a.eval x = .slice A 0 c)
    (h : wpList P ops Q rest (a.put o.dst v) w) : wpList P ops Q (o :: rest) a w := by
  refine wpList_plain hgd fun K hK => ?_
  have hrun := run_append_zero (P := P) (w := w) base t o.type e i size ht hi v n xs hown A c
  unfold Oper.wp
  simp [execOp, ho, resolve, invoke, builtin, hs, hx, hrun, Result.andThen]
  exact hK _ _ h
theorem nameA {K : Act → World → Prop} {a : Act} {w : World} (h : ∀ W, Hid (W = w) → K a W) : K a w := h w (Lib.hid rfl)
/-- a cell that is known -/
structure CellH (w : World) (p : Addr) (v : Value) : Prop where
  cell : w.cell? p = some v
  lt : p.block < w.heap.size
theorem CellH.far {w w' : World} {p : Addr} {v : Value} {row : Option Nat} (h : CellH w p v) (hg : w.grownBy w' row) (hr : ∀ g, row = some g → g ≠ p.block) : CellH w' p v :=
  ⟨(World.cell?_of_block (hg.block p.block h.lt (fun e => hr _ e.symm rfl))).trans h.cell, Nat.lt_of_lt_of_le h.lt hg.size⟩
theorem CellH.still {w w' : World} {p : Addr} {v : Value} (h : CellH w p v) (hg : w.grownBy w' none) : CellH w' p v := h.far hg (fun g e => by cases e)
/-- values put into slots, one after another -/
def puts (a : Act) : List Nat → List Value → Act
  | d :: ds, v :: vs => puts (a.put (some d) v) ds vs
  | _, _ => a
/-- whatever order the operations came up in: what is known behind them -/
theorem region_cut {P : Program} {id : Nat} {ops : Array Oper} {b : Bool} {Q : Exit → Act → World → Prop} {a0 : Act} {w : World} (ds : List Nat) (R : List Value → World → Prop)
    (h1 : (Code.region id ops b).wp P (fun e a w' => ∃ vs, R vs w' ∧ e = .normal ∧ a = puts a0 ds vs) a0 w)
    (h2 : ∀ vs w', R vs w' → Q .normal (puts a0 ds vs) w') : (Code.region id ops b).wp P Q a0 w :=
  Code.wp_mono (fun e a w' ⟨vs, hr, he, ha⟩ => by subst he ha; exact h2 vs w' hr) h1
end Go.Proofs.YtmdlginjblnfoaaGreat

/- Contracts: slices.Clone at ends, copyNetwork (program). -/
namespace Go.Proofs.YtmdlginjblnfoaaGreat
open Go.ChangeShapes Go.WideShapes Go.ChangeAt Go.RowKit
set_option linter.unusedVariables false

theorem infoEndR : (Tryz.prog.info? 66).map (fun i => (i.zero, i.size, i.bytes)) = some (some (.agg #[.int .i64 0, .int .i64 0]), 2, 16) := by kernel_rfl
theorem infoRowR : (Tryz.prog.info? 64).map (fun i => (i.zero, i.size, i.bytes)) = some (some (.slice none 0 0), 1, 24) := by kernel_rfl
/-- the cells of a row of ends, as a list -/
def flatZ (es : List (Int × Int)) : List Value := (List.range (es.length * 2)).map (endCell es)
theorem flatZ_length (es : List (Int × Int)) : (flatZ es).length = es.length * 2 := by simp [flatZ]
theorem flatZ_get (es : List (Int × Int)) {j : Nat} (h : j < es.length * 2) : (flatZ es)[j]? = some (endCell es j) := by simp [flatZ, h]
theorem EndS.ofOwn {w : World} {base : Nat} {e : TypeId} {v : Value} {es : List (Int × Int)} (h : w.ownsRow base e 2 v es.length (flatZ es)) : EndS w base w.heap.size v es := Sl.of_own h fun j hj => flatZ_get es hj
end Go.Proofs.YtmdlginjblnfoaaGreat

/- Contract: renumber (program). -/
namespace Go.Proofs.YtmdlginjblnfoaaGreat
open Go.ChangeShapes Go.WideShapes Go.ChangeAt Go.RowKit
set_option linter.unusedVariables false

theorem EndS.still {w w' : World} {lo hi : Nat} {v : Value} {es : List (Int × Int)} (h : EndS w lo hi v es) (hg : w.grownBy w' none) (hB : hi ≤ w.heap.size) : EndS w' lo hi v es := EndS.far h hg hB (no_row _ _)
theorem EndS.at2 {w : World} {lo hi b off n c : Nat} {es : List (Int × Int)} (h : EndS w lo hi (.slice (some ⟨b, off, none⟩) n c) es) {j : Nat} (hj : j < es.length) : w.cell? ⟨b, off + j * 2, none⟩ = some (.int .i64 (nthE es j).1) ∧ w.frozen? ⟨b, off + j * 2, none⟩ = false := by
  obtain ⟨A, c', e, _⟩ := h.form
  injection e with e1 e2 e3
  subst e2
  have := Sl.at_ h (j := j * 2) (by omega)
  rw [endCell_fst] at this
  exact this

end Go.Proofs.YtmdlginjblnfoaaGreat

/- Appends of whole slices of numbers onto rows of a call's own; the reference's l1Put: a number put into an increasing list. -/
namespace Go.Proofs.YtmdlginjblnfoaaGreat
open Go.ChangeShapes Go.WideShapes Go.ChangeAt Go.RowKit
set_option linter.unusedVariables false

theorem OwnI.lower {w : World} {base b' : Nat} {e : TypeId} {v : Value} {zs : List Int} (h : OwnI w base e v zs) (hb : b' ≤ base) : OwnI w b' e v zs := by
  obtain ⟨h1, h2⟩ := h
  refine ⟨h1, ?_⟩
  rcases h2 with h2 | ⟨g, cap, cur, e1, hg, r⟩
  · exact .inl h2
  · exact .inr ⟨g, cap, cur, e1, by omega, r⟩
theorem OwnI.empty (w : World) (base : Nat) (e : TypeId) {g : Nat} (hg : w.heap.size = g) (hb : base ≤ g) : OwnI (w.alloc (.cells #[] e)) base e (.slice (some ⟨g, 0, none⟩) 0 0) [] := by
  subst hg
  refine ⟨by simp, .inr ⟨w.heap.size, 0, #[], by simp, hb, heap_alloc_new w _, by simp, by simp, by simp, by simp⟩⟩
/-- append of a slice of numbers that is known cell by cell -/
theorem append_ints {P : Program} {ops : Array Oper} {rest : List Oper} {o : Oper} {a : Act} {Q : Exit → Act → World → Prop} {t e : TypeId} {bytes : Nat}
    (ht : P.underlying t = some (.slice e)) (hinfo : (P.info? e).map (fun i => (i.zero, i.size, i.bytes)) = some (some (.int .i64 0), 1, bytes)) (hby : bytes ≤ 64)
    (w : World) (hgd : o.guard = none) {s : Operand} (x : Operand) (ho : o.op = .call { callee := .builtin .append, args := #[s, x], argTypes := #[t, t] })
    {base : Nat} {v : Value} {zs : List Int} (hown : OwnI w base e v zs) (hs : a.eval s = v) {g off m c : Nat} (ys : List Int) (hm : ys.length = m) (hx : a.eval x = .slice (some ⟨g, off, none⟩) m c)
    (hcell : ∀ j, j < m → w.cell? ⟨g, off + j, none⟩ = some (.int .i64 (nth ys j))) (hlen : zs.length + m ≤ 1099511627776) (hbase : base ≤ w.heap.size)
    (h : ∀ v' w', OwnI w' base e v' (zs ++ ys) → w.grownBy w' v.ownBlock → wpList P ops Q rest (a.put o.dst v') w') :
    wpList P ops Q (o :: rest) a w := by
  refine append_row ht hinfo rfl (by omega) hby w hgd x ho hown hs (ys.map (Value.int .i64)) hx (by simp [hm]) ?_ ?_ (by simpa using hlen) hbase fun v' w' a1 a2 _ => h v' w' ?_ a2
  · intro j u hj
    have hjl : j < ys.length := by have := (List.getElem?_eq_some_iff.1 hj).1; simpa using this
    rw [List.getElem?_map, nth_get? hjl] at hj
    rw [show (⟨g, off, none⟩ : Addr).add j = ⟨g, off + j, none⟩ from Go.WideShapes.add_plain g off j, hcell j (by omega)]
    exact hj
  · intro u hu
    obtain ⟨z, _, rfl⟩ := List.mem_map.1 hu
    rfl
  · unfold OwnI Own
    rw [List.map_append]
    simpa [hm] using a1
/-- how many numbers at the head of a list are less -/
def putK (zs : List Int) (x : Int) : Nat := (zs.takeWhile fun y => decide (y < x)).length
theorem putK_is {zs : List Int} {x : Int} {k : Nat} (hk : k ≤ zs.length) (h1 : ∀ j, j < k → nth zs j < x) (h2 : k < zs.length → ¬ nth zs k < x) : putK zs x = k := by
  unfold putK
  induction zs generalizing k with
  | nil => simp at hk; simp [hk]
  | cons z zs ih =>
    cases k with
    | zero =>
      have := h2 (by simp)
      rw [nth_cons_zero] at this
      simp [this]
    | succ k =>
      have h0 := h1 0 (by omega)
      rw [nth_cons_zero] at h0
      rw [List.takeWhile_cons, if_pos (by simpa using h0), List.length_cons, ih (k := k) (by simpa using hk) (fun j hj => by have := h1 (j + 1) (by omega); rwa [nth_cons_succ] at this) (fun hl => by have := h2 (by simpa using hl); rwa [nth_cons_succ] at this)]
def putL (zs : List Int) (x : Int) : List Int := if putK zs x < zs.length ∧ nth zs (putK zs x) = x then zs else zs.take (putK zs x) ++ [x] ++ zs.drop (putK zs x)
end Go.Proofs.YtmdlginjblnfoaaGreat

/- Contracts: neOwn, neRenumber (reference). -/
namespace Go.Proofs.YtmdlginjblnfoaaGreat
open Go.ChangeShapes Go.WideShapes Go.ChangeAt Go.RowKit
set_option linter.unusedVariables false

set_option maxHeartbeats 1000000 in
theorem l1OwnR (v : Value) (zs : List Int) (lo hi : Nat) (w : World) (h : IntS w lo hi v zs) (hhi : hi ≤ w.heap.size) (hl : zs.length ≤ 1048576) :
    Calls Tryz.prog 62 #[v] w fun e w' => ∃ r, e = .returned r ∧ IntS w' w.heap.size w'.heap.size r zs ∧ Below w.heap.size w w' := by
  have F := Lib.hid h
  obtain ⟨A, c, rfl, hc, hd⟩ := h.dims
  have HE := Lib.hid (OwnI.empty w w.heap.size 3 rfl (Nat.le_refl _))
  obtain ⟨i0, hi0, _⟩ := Option.map_eq_some_iff.1 Tryz.info3
  have HI0 := Lib.hid hi0; clear hi0
  by_cases h0 : 0 < zs.length
  · obtain ⟨b, off, rfl, _, hb, _, _⟩ := h.opened (j := 0) h0
    have HC := Lib.hid (show ∀ j, j < zs.length → (w.alloc (.cells #[] 3)).cell? ⟨b, off + j, none⟩ = some (.int .i64 (nth zs j)) from fun j hj => (IntS.at_ (F.out.alloc hhi _) hj).1)
    clear h
    go_enter Tryz.func62, Tryz.ntmps62
    go_wp2_with (at_builtin; refine append_ints (s := .tmp 3) Tryz.underlying23 Tryz.info3 (by decide) (w.alloc (.cells #[] 3)) rfl (.tmp 4) rfl HE.out rfl (g := b) (off := off) zs rfl rfl HC.out (by simp; omega) (by simp) ?_; intro v1 w1 ho1 hg1; have HO := Lib.hid ho1; have HG1 := Lib.hid hg1; clear ho1 hg1)
    go_ret
    refine ⟨_, rfl, ?_, ((Below.refl _ _).alloc (Nat.le_refl _) _).grown HG1.out (by simp) (fun g hg => by have := HE.out.lt g hg; omega)⟩
    have := HO.out.ints; simpa using this
  · have hz0 : zs.length = 0 := by omega
    have hz : zs = [] := List.eq_nil_of_length_eq_zero hz0
    subst hz
    clear h h0 hz0
    go_enter Tryz.func62, Tryz.ntmps62
    go_wp2_with (at_builtin; refine append_zero (s := .tmp 3) Tryz.underlying23 HI0.out (w.alloc (.cells #[] 3)) rfl (.tmp 4) rfl HE.out rfl rfl ?_)
    go_ret
    exact ⟨_, rfl, HE.out.ints, below_a1 w _⟩

/-- append, at a step of a region that draws its order, of cells that are known -/
theorem step_append_src {P : Program} {ops : Array Oper} {o : Oper} {a : Act} {K : Act → World → Prop} {Q : Exit → Act → World → Prop} {E : Prop} {t e : TypeId} {z : Value} {sz bytes : Nat}
    (ht : P.underlying t = some (.slice e)) (hinfo : (P.info? e).map (fun i => (i.zero, i.size, i.bytes)) = some (some z, sz, bytes)) (hz1 : z.cells.size = sz) (hsz : 0 < sz) (hby : bytes ≤ 64)
    (w : World) (hgd : o.guard = none) {s : Operand} (x : Operand) (ho : o.op = .call { callee := .builtin .append, args := #[s, x], argTypes := #[t, t] })
    {base : Nat} {v : Value} {n : Nat} {xs : List Value} (hown : w.ownsRow base e sz v n xs) (hs : a.eval s = v) {v2 : Value} {m : Nat} (news : List Value) (hl : news.length = m * sz)
    (hv2 : (∃ A c, v2 = .slice A 0 c ∧ m = 0) ∨ ∃ ad c, v2 = .slice (some ad) m c ∧ ∀ j u, news[j]? = some u → w.cell? (ad.add j) = some u) (hx : a.eval x = v2)
    (h1 : ∀ u ∈ news, u.oneCell' = true) (hlen : n + m ≤ 1099511627776) (hbase : base ≤ w.heap.size)
    (h : ∀ v' w', w'.ownsRow base e sz v' (n + m) (xs ++ news) → w.grownBy w' v.ownBlock → (v'.ownBlock = v.ownBlock ∨ ∃ g, v'.ownBlock = some g ∧ w.heap.size ≤ g) → K (a.put o.dst v') w') :
    if Region.wanted o (yielded ops a.tmps) = true then Oper.wp P o a w K Q else E := by
  have hw : Region.wanted o (yielded ops a.tmps) = true := by simp [Region.wanted, hgd]
  rw [if_pos hw]
  obtain ⟨i, hi, hzz⟩ := Option.map_eq_some_iff.1 hinfo
  simp only [Prod.mk.injEq] at hzz
  obtain ⟨hz, hsz2, hb⟩ := hzz
  rcases hv2 with ⟨A, c, rfl, rfl⟩ | ⟨ad, c, rfl, hnews⟩
  · have hnil : news = [] := List.eq_nil_of_length_eq_zero (by rw [hl, Nat.zero_mul])
    subst hnil
    have hrun := run_append_zero (P := P) (w := w) base t o.type e i sz ht hi v n xs hown A c
    have h3 := h v w (by simpa using hown) ⟨rfl, rfl, rfl, Nat.le_refl _, fun _ _ _ => rfl⟩ (.inl rfl)
    unfold Oper.wp
    simp [execOp, ho, resolve, invoke, builtin, hs, hx, hrun, Result.andThen]
    exact h3
  · obtain ⟨v', w', hr, a1, a2, _, a4⟩ := run_append_own_at (P := P) w base t o.type e i z sz bytes ht hi hz hsz2 hb hz1 hsz v n xs hown ad m c news hl hnews h1 (by unfold maxLen; omega) (by
      have : (n + m) * bytes ≤ 1099511627776 * 64 := Nat.mul_le_mul hlen hby
      omega) hbase
    have h3 := h v' w' a1 a2 (a4.imp id fun e => ⟨_, e, Nat.le_refl _⟩)
    unfold Oper.wp execOp
    simp only [ho, resolve, invoke, builtin, Sem.run_bind, Sem.run_pure, Result.andThen_ok, List.map_toArray, List.map_cons, List.map_nil, hs, hx, hr]
    exact h3
theorem EndS.src {w : World} {lo hi : Nat} {A : Option Addr} {n c : Nat} {es : List (Int × Int)} (h : EndS w lo hi (.slice A n c) es) (hn : es.length = n) : (∃ A' c', Value.slice A n c = .slice A' 0 c' ∧ n = 0) ∨ ∃ ad c', Value.slice A n c = .slice (some ad) n c' ∧ ∀ j u, (flatZ es)[j]? = some u → w.cell? (ad.add j) = some u := by
  by_cases h0 : n = 0
  · subst h0; exact .inl ⟨A, c, rfl, rfl⟩
  · right
    obtain ⟨b, off, rfl, _, _, _, _⟩ := h.opened (j := 0) (by omega)
    refine ⟨⟨b, off, none⟩, c, rfl, fun j u hj => ?_⟩
    have hj2 : j < es.length * 2 := by rw [← flatZ_length]; exact (List.getElem?_eq_some_iff.1 hj).1
    rw [flatZ_get es hj2] at hj
    injection hj with hj
    subst hj
    subst hn
    rw [Go.WideShapes.add_plain]
    exact (Sl.at_ h hj2).1
theorem flatZ_one (es : List (Int × Int)) : ∀ u ∈ flatZ es, u.oneCell' = true := fun u hu => by
  obtain ⟨j, _, rfl⟩ := List.mem_map.1 hu
  rfl
/-- the row of slices, and what an append of one more leaves -/
theorem OwnES.open_ {w : World} {base top : Nat} {e : TypeId} {v : Value} {xss : List (List (Int × Int))} (h : OwnES w base top e v xss) : ∃ vs : List Value, vs.length = xss.length ∧ w.ownsRow base e 1 v vs.length vs ∧
    ∀ (w' : World) (v' u : Value) (xs : List (Int × Int)) (lo hi : Nat), EndS w lo hi u xs → top ≤ lo → hi ≤ w.heap.size → lo ≤ hi → (∀ g, v.ownBlock = some g → g < lo ∨ hi ≤ g) → w'.ownsRow base e 1 v' (vs.length + 1) (vs ++ [u]) → w.grownBy w' v.ownBlock → (v'.ownBlock = v.ownBlock ∨ ∃ g, v'.ownBlock = some g ∧ w.heap.size ≤ g) → OwnES w' base hi e v' (xss ++ [xs]) := by
  obtain ⟨vs, los, his, h1, h2, h3, h4, h5, h6⟩ := h
  refine ⟨vs, h1, h2, fun w' v' u xs lo hi hu hlo hhi hlh hfar ho' hg' hat' => ?_⟩
  have hgs := hg'.size
  have hnew : ∀ a b : Nat, b ≤ w.heap.size → (∀ g, v.ownBlock = some g → g < a ∨ b ≤ g) → ∀ g, v'.ownBlock = some g → g < a ∨ b ≤ g := fun a b hb hv g hg => by
    rcases hat' with e1 | ⟨g', e1, h1⟩
    · exact hv g (by rw [← e1]; exact hg)
    · rw [e1] at hg; injection hg with hg; omega
  have hold : ∀ j, j < xss.length → ∃ u, vs[j]? = some u ∧ base ≤ los j ∧ his j ≤ top ∧ EndS w' (los j) (his j) u (nthL xss j) ∧ ∀ g, v'.ownBlock = some g → g < los j ∨ his j ≤ g := fun j hj => by
    obtain ⟨u, a1, a2, a3, a4, a5⟩ := h5 j hj
    exact ⟨u, a1, a2, a3, a4.far hg' (by omega) a5, hnew _ _ (by omega) a5⟩
  refine ⟨vs ++ [u], fun j => if j < xss.length then los j else lo, fun j => if j < xss.length then his j else hi, by simp [h1], (by unfold Own; simpa using ho'), by omega, by omega, fun j hj => ?_, fun i j hij hj => ?_⟩
  · dsimp only
    by_cases e1 : j < xss.length
    · obtain ⟨u, a1, a2, a3, a4, a5⟩ := hold j e1
      rw [if_pos e1, if_pos e1, nthL_append_left e1]
      exact ⟨u, by rw [List.getElem?_append_left (by omega)]; exact a1, a2, by omega, a4, a5⟩
    · obtain rfl : j = xss.length := by simp at hj; omega
      rw [if_neg e1, if_neg e1, nthL_append_at]
      exact ⟨u, by rw [← h1]; simp, by omega, Nat.le_refl _, hu.far hg' hhi hfar, hnew _ _ hhi hfar⟩
  · dsimp only
    rw [if_pos (by simp at hj; omega)]
    by_cases e1 : j < xss.length
    · rw [if_pos e1]; exact h6 i j hij e1
    · rw [if_neg e1]
      obtain ⟨u, _, _, a3, _⟩ := h5 i (by simp at hj; omega)
      omega
theorem OwnES.weakB {w : World} {base base' top : Nat} {e : TypeId} {v : Value} {xss : List (List (Int × Int))} (h : OwnES w base top e v xss) (hb : base' ≤ base) : OwnES w base' top e v xss := by
  obtain ⟨vs, lo, hi, h1, ⟨k1, k2⟩, h3, h4, h5, h6⟩ := h
  refine ⟨vs, lo, hi, h1, ⟨k1, ?_⟩, by omega, h4, fun j hj => ?_, h6⟩
  · rcases k2 with h2 | ⟨g, cap, cur, e1, hg, hh, hn, hm, hs, ht⟩
    · exact .inl h2
    · exact .inr ⟨g, cap, cur, e1, Nat.le_trans hb hg, hh, hn, hm, hs, ht⟩
  · obtain ⟨u, a1, a2, a3, a4, a5⟩ := h5 j hj
    exact ⟨u, a1, by omega, a3, a4, a5⟩
theorem OwnES.farT {w w' : World} {base top : Nat} {e : TypeId} {v : Value} {xss : List (List (Int × Int))} {row : Option Nat} (h : OwnES w base top e v xss) (hg : w.grownBy w' row) (hr : ∀ g, row = some g → top ≤ g ∧ v.ownBlock ≠ some g) : OwnES w' base top e v xss := by
  obtain ⟨vs, lo, hi, h1, h2, h3, h4, h5, h6⟩ := h
  refine ⟨vs, lo, hi, h1, h2.kept hg ?_, h3, Nat.le_trans h4 hg.size, fun j hj => ?_, h6⟩
  · cases hv : v.ownBlock with
    | none => exact .inl rfl
    | some g => right; intro e; exact (hr g e.symm).2 hv
  · obtain ⟨u, a1, a2, a3, a4, a5⟩ := h5 j hj
    exact ⟨u, a1, a2, a3, a4.far hg (by omega) (fun g e => .inr (by have := (hr g e).1; omega)), a5⟩
theorem OwnES.still {w w' : World} {base top : Nat} {e : TypeId} {v : Value} {xss : List (List (Int × Int))} (h : OwnES w base top e v xss) (hg : w.grownBy w' none) : OwnES w' base top e v xss := h.farT hg (fun g e => by cases e)
/-- whole, it is a network that is written -/
theorem OwnES.rn {w : World} {base top d1 d2 d3 i2 : Nat} {e : TypeId} {v vD vI : Value} {N : NetD} (h : OwnES w i2 top e v N.ends) (h0 : 0 < N.ends.length) (o1 : base ≤ d1) (o2 : d1 ≤ d2) (o3 : d2 ≤ d3) (o5 : d3 ≤ i2) (hD : IntS w d1 d2 vD N.ids) (hI : IntS w d3 i2 vI N.inputs) :
    ∃ g c, v = .slice (some ⟨g, 0, none⟩) N.ends.length c ∧ RN w base d1 d2 d3 i2 w.heap.size g v vD vI N := by
  obtain ⟨vs, los, his, h1, h2, h3, h4, h5, h6⟩ := h
  have h2' := h2
  obtain ⟨hl, hr⟩ := h2
  rcases hr with ⟨_, hn⟩ | ⟨g, cap, cur, rfl, hg, hh, hn, hm, hs, ht⟩
  · rw [h1] at hn; omega
  · have hgl : g < w.heap.size := (Array.getElem?_eq_some_iff.1 hh).1
    rw [h1] at hn
    refine ⟨g, cap, by rw [h1], ?_⟩
    refine ⟨o1, o2, o3, o5, by omega, Nat.le_refl _, by omega, hgl, .inr (by omega), .inr (by omega), hD, hI, ⟨0, cap, by rw [h1]⟩, fun j => vs.getD j undef, ?_, fun i hi => ?_, fun i j hij hj => ?_⟩
    · have hsl : Sl w i2 w.heap.size 1 (.slice (some ⟨g, 0, none⟩) vs.length cap) vs.length (fun j => vs.getD j undef) := Sl.of_own (f := fun j => vs.getD j undef) h2' (fun j hj => by simp at hj; simp [hj])
      rw [h1] at hsl ⊢
      obtain ⟨A, c', e, k1, k2, k3⟩ := hsl
      injection e with e1 _ e3
      subst e1 e3
      refine ⟨_, _, rfl, k1, k2, fun hn => ?_⟩
      obtain ⟨b, off, e4, _, _, k6⟩ := k3 hn
      injection e4 with e4
      injection e4 with e5 e6
      subst e5 e6
      exact ⟨_, _, rfl, Nat.le_refl _, by omega, k6⟩
    · obtain ⟨u, a1, a2, a3, a4, a5⟩ := h5 i hi
      have : vs.getD i undef = u := by simp [a1]
      dsimp only
      rw [this]
      refine ⟨a4.mono a2 (by omega), ?_⟩
      rcases Sl.row a4 with k | ⟨b, k, k1, k2⟩
      · exact .inl k
      · right; rw [k]; intro e; injection e with e
        have := a5 g rfl
        omega
    · obtain ⟨u, a1, a2, a3, a4, a5⟩ := h5 i (by omega)
      obtain ⟨u2, b1, b2, b3, b4, b5⟩ := h5 j hj
      have e1 : vs.getD i undef = u := by simp [a1]
      have e2 : vs.getD j undef = u2 := by simp [b1]
      dsimp only
      rw [e1, e2]
      rcases Sl.row a4 with k | ⟨b, k, k1, k2⟩
      · exact .inl k
      · rcases Sl.row b4 with k' | ⟨b', k', k1', k2'⟩
        · right; rw [k, k']; simp
        · right; rw [k, k']; intro e; injection e with e
          have := h6 i j hij hj
          omega
/-- the ends of a row with other numbers, as pairs -/
def renP (N : NetD) (p : List Int) (k m : Nat) : List Po := ((nthL N.ends k).take m).map fun e => ((nth p e.1.toNat).toNat, e.2.toNat)
theorem renP_succ {N : NetD} {p : List Int} {k m t r q : Nat} (h : m < (nthL N.ends k).length) (he : nthE (nthL N.ends k) m = ((t : Int), (r : Int))) (hq : nth p t = (q : Int)) : renP N p k (m + 1) = renP N p k m ++ [(q, r)] := by
  unfold renP
  rw [List.take_succ_eq_append_getElem h, List.map_append, ← nthE_eq h, he]
  simp [hq]
theorem renP_len (N : NetD) (p : List Int) (k m : Nat) : (renP N p k m).length ≤ m := by unfold renP; rw [List.length_map, List.length_take]; omega
theorem renP_all {N : NetD} {p : List Int} (hg : N.good = true) (hp : ∀ j, j < N.ends.length → ∃ t : Nat, nth p j = t ∧ t < N.ends.length) {k : Nat} (hk : k < N.ends.length) : castL (renP N p k (nthL N.ends k).length) = mapEnds p (nthL N.ends k) := by
  unfold renP mapEnds castL
  rw [List.take_length, List.map_map]
  apply List.map_congr_left
  intro e he
  obtain ⟨i, hi, e2⟩ := List.mem_iff_getElem.1 he
  obtain ⟨t, r, et, ht, _, _⟩ := good_end hg hk hi
  rw [nthE_eq hi, e2] at et
  obtain ⟨q, hq, _⟩ := hp t ht
  rw [et]
  simp [castP, hq]

end Go.Proofs.YtmdlginjblnfoaaGreat
