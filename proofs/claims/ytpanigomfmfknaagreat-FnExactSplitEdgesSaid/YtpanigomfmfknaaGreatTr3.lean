/-
  The trails' memory, and the closure that adds a trail (program).
-/
import Derived.Test.YtpanigomfmfknaaGreatTr2
namespace Go.Proofs.YtpanigomfmfknaaGreat
open Go.ChangeShapes Go.WideShapes Go.ChangeAt Go.RowKit
set_option linter.unusedVariables false

section
variable {w w' : World} {b m : Nat} {U : Int → Int → Bool}
theorem MpT.put (h : MpT w b U m) (hm : m < 1099511627776) {x y : Int} (hx : I64 x) (hy : I64 y) :
    ∃ w', (Instr.mapUpdate 65 (.map (some b)) (.agg #[.int .i64 x, .int .i64 y]) (.bool true)).run Tryz.prog w = .ok () w' ∧ w.grownBy w' (some b) ∧ MpT w' b (setU U x y) (m + 1) := by
  obtain ⟨n, D, h1, h2, h3, h4⟩ := h
  obtain ⟨w', hU, hown, hg⟩ := h2.update Tryz.keyedE Tryz.underlying65 (show n < maxLen by unfold maxLen; omega) (keyE hx hy) (plainElem_bool Tryz.underlying4 true)
  refine ⟨w', hU, hg, n + 1, D.put (kl x y) (.lit (.bool true)), by omega, hown, h3.put _ _, fun a c ha hc => ?_⟩
  by_cases e : a = x ∧ c = y
  · obtain ⟨rfl, rfl⟩ := e
    rw [Maps.atKey_put_same h3 (by trivial), setU_at]
  · rw [Maps.atKey_put_other (fun e2 => e (kl_inj ha hc hx hy e2)), h4 a c ha hc, setU_ne e]
theorem MpT.stillT (h : MpT w b U m) (hg : w.grownBy w' none) : MpT w' b U m := h.kept hg (by simp)
end
/-- the trails so far in memory: the network's box, the seen ports' map and its box, the trails and their box -/
structure TrI (w : World) (B base gn gs gq mb : Nat) (x0 x1 x2 : Value) (σ : TSt) (vo : Value) (m : Nat) : Prop where
  bn : BoxN w gn #[x0, x1, x2] 32
  bs : BoxN w gs #[.map (some mb)] 65
  bq : BoxN w gq #[vo] 30
  mp : MpT w mb σ.seen m
  ot : ∃ top, OwnES w base top 46 vo (σ.out.map castL)
/-- where these lie -/
structure LayT (B base gn gs gq mb : Nat) : Prop where
  n1 : B ≤ gn
  n2 : gn < base
  s1 : B ≤ gs
  s2 : gs < base
  q1 : B ≤ gq
  q2 : gq < base
  m1 : B ≤ mb
  m2 : mb < base
  ns : gn ≠ gs
  nq : gn ≠ gq
  nm : gn ≠ mb
  sq : gs ≠ gq
  sm : gs ≠ mb
  qm : gq ≠ mb
section
variable {w w' : World} {B base gn gs gq mb m : Nat} {x0 x1 x2 vo : Value} {σ : TSt}
theorem OwnES.topLe {top : Nat} {e : TypeId} {v : Value} {l : List (List (Int × Int))} (h : OwnES w base top e v l) : top ≤ w.heap.size := let ⟨_, _, _, _, _, _, h4, _⟩ := h; h4
theorem OwnES.stillT {top : Nat} {e : TypeId} {v : Value} {l : List (List (Int × Int))} (h : OwnES w base top e v l) (hg : w.grownBy w' none) : OwnES w' base top e v l := h.below (grown_to_below hg)
theorem TrI.still (h : TrI w B base gn gs gq mb x0 x1 x2 σ vo m) (hg : w.grownBy w' none) : TrI w' B base gn gs gq mb x0 x1 x2 σ vo m :=
  ⟨h.bn.still hg, h.bs.still hg, h.bq.still hg, h.mp.stillT hg, let ⟨t, ht⟩ := h.ot; ⟨t, ht.stillT hg⟩⟩
theorem TrI.mark {U : Int → Int → Bool} {m' : Nat} (h : TrI w B base gn gs gq mb x0 x1 x2 σ vo m) (hL : LayT B base gn gs gq mb) (hg : w.grownBy w' (some mb)) (hm : MpT w' mb U m') : TrI w' B base gn gs gq mb x0 x1 x2 ⟨U, σ.out⟩ vo m' :=
  ⟨h.bn.far hg (fun k e => by injection e with e; rw [← e]; exact hL.nm.symm), h.bs.far hg (fun k e => by injection e with e; rw [← e]; exact hL.sm.symm), h.bq.far hg (fun k e => by injection e with e; rw [← e]; exact hL.qm.symm), hm, let ⟨t, ht⟩ := h.ot; ⟨t, ht.far hg (fun k e => by injection e with e; rw [← e]; exact hL.m2)⟩⟩
theorem TrI.low (h : TrI w B base gn gs gq mb x0 x1 x2 σ vo m) : ∀ k, vo.ownBlock = some k → base ≤ k ∧ k < w.heap.size := fun k e => let ⟨_, ht⟩ := h.ot; ht.lt k e
theorem TrI.len (h : TrI w B base gn gs gq mb x0 x1 x2 σ vo m) : ∃ A c, vo = .slice A σ.out.length c ∧ σ.out.length ≤ c ∧ c ≤ maxLen := by
  obtain ⟨t, ht⟩ := h.ot
  obtain ⟨A, c, e, h1, h2⟩ := ht.len
  rw [List.length_map] at e h1
  exact ⟨A, c, e, h1, h2⟩
end

set_option maxHeartbeats 8000000 in
set_option maxRecDepth 100000 in
theorem add_any (N : NetD) (hgood : N.good = true) (lo1 hi1 n c1 b1 o1 : Nat) (hn : Hid (N.ends.length = n)) (x1 x2 : Value) (B base gn gs gq mb m : Nat) (hL : LayT B base gn gs gq mb) (sn sp : Nat) (ho : okP N (sn, sp)) (want : Bool) (σ : TSt) (vo : Value) (w : World)
    (hE : Net w lo1 hi1 (.agg #[.slice (some ⟨b1, o1, none⟩) n c1, x1, x2]) N) (hhi : hi1 ≤ B) (hbs : base ≤ w.heap.size) (hm : m ≤ 1000000) (hq : σ.out.length ≤ 1000000) (ht : TrI w B base gn gs gq mb (.slice (some ⟨b1, o1, none⟩) n c1) x1 x2 σ vo m) :
    Calls Tryz.prog 42 #[.agg #[.int .i64 (sn : Nat), .int .i64 (sp : Nat)], .bool want, .pointer (some ⟨gn, 0, none⟩), .pointer (some ⟨gs, 0, none⟩), .pointer (some ⟨gq, 0, none⟩)] w (fun e w' => e = .returned (.tuple #[]) ∧ ∃ vo', TrI w' B base gn gs gq mb (.slice (some ⟨b1, o1, none⟩) n c1) x1 x2 (if trc N (sn, sp) = want then addT N σ (sn, sp) else σ) vo' (m + 480) ∧ Fr B base w vo w' vo') := by
  have HGD := Lib.hid hgood; clear hgood
  have HLAY := Lib.hid hL
  obtain ⟨n1, n2, s1, s2, q1, q2, m1, m2, ens, enq, enm, esq, esm, eqm⟩ := hL
  have HNET := Lib.hid hE; clear hE
  have HOK := Lib.hid ho
  have HT := Lib.hid ht; clear ht
  obtain ⟨nn1, nn40⟩ := good_n HGD.out
  rw [hn.out] at nn1 nn40
  obtain ⟨l, HLL⟩ : ∃ l, Hid (trl N (sn, sp) = l) := ⟨_, Lib.hid rfl⟩
  have hcl : Ch N (sn, sp) l := by rw [← HLL.out]; exact (trl_is HGD.out ho).1
  have hll := hcl.len HGD.out
  have HCH := Lib.hid hcl; clear hcl
  obtain ⟨cl, HCL⟩ : ∃ c, Hid (trc N (sn, sp) = c) := ⟨_, Lib.hid rfl⟩
  rw [HCL.out]
  have HLOW := Lib.hid HT.out.low
  have kn0 := HT.out.bn.cell 0 (by simp)
  have kn1 := HT.out.bn.cell 1 (by simp)
  have kn2 := HT.out.bn.cell 2 (by simp)
  dsimp at kn0 kn1 kn2
  clear ho
  go_enter Tryz.func42, Tryz.ntmps42
  go_upto_region 1 with fail
  refine nameC ?_
  intro W1 HW1
  have hg1 : w.grownBy W1 none := by rw [HW1.out]; exact grown_alloc _ _
  have hs1 : w.heap.size + 1 ≤ W1.heap.size := by rw [HW1.out]; simp
  have hB1 : BoxN W1 w.heap.size #[.int .i64 (sn : Nat), .int .i64 (sp : Nat)] 48 := by rw [HW1.out]; exact BoxN.new _ _ _
  clear HW1 kn0 kn1 kn2
  have kn0 := (HT.out.bn.still hg1).cell 0 (by simp)
  have kn1 := (HT.out.bn.still hg1).cell 1 (by simp)
  have kn2 := (HT.out.bn.still hg1).cell 2 (by simp)
  have kb0 := hB1.cell 0 (by simp)
  have kb1 := hB1.cell 1 (by simp)
  dsimp at kn0 kn1 kn2 kb0 kb1
  have HG1 := Lib.hid hg1
  have HN1 := Lib.hid (HNET.out.below (grown_to_below hg1) (by omega))
  clear hg1 hB1
  go_upto_region 2 with (go_at_call 43; refine (trailFrom_any _ N lo1 hi1 sn sp W1 HN1.out (by omega) HGD.out HOK.out).mono ?_; rintro e W2 ⟨tv, rfl, hTV, hb2⟩; rw [HCL.out]; have hz2 := hb2.size; have HG2 := Lib.hid (grown_below hb2); have HTV := Lib.hid hTV; clear hTV hb2)
  clear kn0 kn1 kn2 kb0 kb1
  rw [HLL.out] at HTV
  have HF2 := Lib.hid (show Fr B base w vo W2 vo from (Fr.still HG1.out).trans (Fr.still HG2.out))
  have HT2 := Lib.hid ((HT.out.still HG1.out).still HG2.out)
  obtain ⟨top, hot0⟩ := HT.out.ot
  have hle0 := hot0.topLe
  have HOT := Lib.hid ((hot0.stillT HG1.out).stillT HG2.out)
  clear hot0
  clear HT HG1 HG2 HN1
  by_cases hcw : cl = want
  case neg =>
    have hcw' : (!(cl == want)) = true := by cases cl <;> cases want <;> simp_all
    go_wp2_with fail
    (try simp only [Exit.inBlock, Exit.then]); refine bodyPost_ret (results_none rfl _ _ _) rfl ?_
    try rw [if_neg hcw]
    exact ⟨rfl, vo, ⟨HT2.out.bn, HT2.out.bs, HT2.out.bq, HT2.out.mp.mono (by omega), HT2.out.ot⟩, HF2.out⟩
  have hcw' : (!(cl == want)) = false := by rw [hcw]; simp
  have HCW := Lib.hid hcw; clear hcw
  obtain ⟨At, ct, htv, hct, hdt⟩ := HTV.out.dims
  rw [castL_length] at htv hct
  subst htv
  go_wp2_with fail
  clear hcw'
  go_loopw [22] (fun iv wr => ∃ (k : Nat), k ≤ l.length ∧ iv = .int .i64 k ∧ Hid (TrI wr B base gn gs gq mb (.slice (some ⟨b1, o1, none⟩) n c1) x1 x2 ⟨markL N σ.seen (l.take k), σ.out⟩ vo (m + 2 * k)) ∧ Hid (OwnES wr base top 46 vo (σ.out.map castL)) ∧ Hid (EndS wr W1.heap.size W2.heap.size (.slice At l.length ct) (castL l)) ∧ Hid (W2.heap.size ≤ wr.heap.size) ∧ Hid (Fr B base w vo wr vo)) (fun iv _ => l.length - (intOf iv).toNat)
  case atStart => exact ⟨0, Nat.zero_le _, rfl, HT2, HOT, HTV, Lib.hid (Nat.le_refl _), HF2⟩
  case round =>
    clear HT2 HTV HF2 HOT
    obtain ⟨k, hk, rfl, HTK, HOT, HTV, HSZ, HFK⟩ := hrel
    have hsk := HSZ.out
    by_cases hlt : k < l.length
    case neg =>
      obtain rfl : k = l.length := by omega
      rw [List.take_length] at HTK
      have k4 := HTK.out.bq.cell 0 (by simp)
      dsimp at k4
      go_wp2_with (at_builtin; (refine append_es (s := .tmp 42) Tryz.underlying30 Tryz.info46 (by decide) wr rfl _ rfl HOT.out HTV.out (by omega) (by omega) (by omega) (fun g e => .inl (by have := (HLOW.out g e).2; omega)) _ (by simp [Act.eval, go_sem]) (by simp [Act.eval, go_sem]) (by simp; omega) ?_; intro v' W5 ho' hg5 hat'; have hbq5 := HTK.out.bq.far hg5 (fun j e => by have := (HLOW.out j e).1; omega); have k5 := hbq5.cell 0 (by simp); have k5f := hbq5.frozen 0; dsimp at k5; obtain ⟨Av, cv, hv5, _, _⟩ := ho'.len; rw [show (List.map castL σ.out ++ [castL l]).length = σ.out.length + 1 by simp] at hv5; subst hv5; have HO5 := Lib.hid ho'; clear ho' k4))
      go_end0
      have hbs5 := hg5.size
      have hgs := grown_set W5 ⟨gq, 0, none⟩ (.slice Av (σ.out.length + 1) cv)
      have hf5 : Fr B base w vo W5 (.slice Av (σ.out.length + 1) cv) := HFK.out.trans (Fr.row hg5 (hat'.elim .inl (fun e => .inr ⟨_, e, by omega⟩)))
      have hlow : ∀ j, vo.ownBlock = some j → base ≤ j := fun j e => (HLOW.out j e).1
      have hT5 := HTK.out
      try rw [if_pos HCW.out]
      refine ⟨rfl, _, ⟨(hT5.bn.far hg5 (fun j e => by have := hlow j e; omega)).far hgs (fun j e => by cases e; exact enq.symm), (hT5.bs.far hg5 (fun j e => by have := hlow j e; omega)).far hgs (fun j e => by cases e; exact esq.symm), hbq5.set 0 _, ?_, ?_⟩, hf5.trans (Fr.turn hgs q1 q2)⟩
      · have hmp := (hT5.mp.kept hg5 (fun e => by have := hlow mb e.symm; omega)).kept hgs (fun e => eqm (by injection e with e; exact e.symm))
        show MpT _ mb (markL N σ.seen (trl N (sn, sp))) _
        rw [HLL.out]
        exact hmp.mono (by omega)
      · refine ⟨W2.heap.size, ?_⟩
        show OwnES _ base W2.heap.size 46 _ ((σ.out ++ [trl N (sn, sp)]).map castL)
        rw [HLL.out, List.map_append]
        exact HO5.out.far hgs (fun j e => by cases e; exact q2)
    obtain ⟨⟨pn, pp⟩, HP⟩ : ∃ p, Hid (nthP l k = p) := ⟨_, Lib.hid rfl⟩
    have HPO := Lib.hid (show okP N (pn, pp) by rw [← HP.out]; exact HCH.out.ok _ (nthP_mem hlt))
    have hklc : k < (castL l).length := by rw [castL_length]; exact hlt
    obtain ⟨bt, ot, rfl, _, hbt, x1', x2'⟩ := HTV.out.opened hklc
    rw [nthE_castL hlt, HP.out] at x1' x2'
    dsimp only at x1' x2'
    go_upto_region 6 with fail
    clear x1' x2'
    refine nameC ?_
    intro W4 HW4
    have hg4 : wr.grownBy W4 none := by rw [HW4.out]; exact grown_alloc _ _
    have hs4 : wr.heap.size + 1 ≤ W4.heap.size := by rw [HW4.out]; simp
    have HB4 := Lib.hid (show BoxN W4 wr.heap.size #[.int .i64 (pn : Nat), .int .i64 (pp : Nat)] 48 by rw [HW4.out]; exact BoxN.new _ _ _)
    clear HW4
    have HG4 := Lib.hid hg4; clear hg4
    obtain ⟨hpn, hpp⟩ := HPO.out
    dsimp only at hpn hpp
    unfold degAt at hpp
    have hwb : Below B w wr := HFK.out.below (fun j e => by have := (HLOW.out j e).1; omega) (Nat.le_refl _) (by omega)
    have HN4 := Lib.hid ((HNET.out.below hwb hhi).below (grown_to_below HG4.out) (by omega))
    clear hwb
    obtain ⟨AR, cR, hbR, qR, hcR, hdR, hRR⟩ := Net.rowIn HN4.out hpn
    obtain ⟨bR, oR, rfl, _, hbR', eR, eR'⟩ := hRR.opened hpp
    obtain ⟨tt, tr, etR, htt, htr, euR⟩ := good_end HGD.out hpn hpp
    rw [etR] at eR eR'
    dsimp only at eR eR'
    have HEP := Lib.hid (show ep N (pn, pp) = (tt, tr) by unfold ep endAt; dsimp only; rw [etR]; simp)
    clear etR euR hRR
    have hpni : (pn : Int) < n := by rw [← hn.out]; omega
    have hppi : (pp : Int) < (nthL N.ends pn).length := by omega
    have hd6 := good_deg HGD.out hpn
    have hd6' := good_deg HGD.out htt
    have htt' : tt < 40 := by rw [hn.out] at htt; omega
    have hpn' : pn < 40 := by rw [hn.out] at hpn; omega
    have HT4 := Lib.hid (HTK.out.still HG4.out)
    have HOT4 := Lib.hid (HOT.out.stillT HG4.out)
    have HTV4 := Lib.hid (HTV.out.far HG4.out (by omega) (no_row _ _))
    have HF4 := Lib.hid (HFK.out.trans (Fr.still HG4.out))
    clear HTK HOT HTV HFK
    refine wp_region_U (fun w' => w'.cell? ⟨gs, 0, none⟩ = some (.map (some mb)) ∧ w'.cell? ⟨wr.heap.size, 0, none⟩ = some (.int .i64 (pn : Nat)) ∧ w'.cell? ⟨wr.heap.size, 1, none⟩ = some (.int .i64 (pp : Nat)) ∧ w'.cell? ⟨gn, 0, none⟩ = some (.slice (some ⟨b1, o1, none⟩) n c1) ∧ w'.cell? ⟨b1, o1 + pn, none⟩ = some (.slice (some ⟨bR, oR, none⟩) (nthL N.ends pn).length cR) ∧ w'.cell? ⟨bR, oR + pp * 2, none⟩ = some (.int .i64 (tt : Nat)) ∧ w'.cell? ⟨bR, oR + pp * 2 + 1, none⟩ = some (.int .i64 (tr : Nat))) [14, 15, 16] (by kernel_rfl) ?_
    refine nameU ?_
    intro V HV
    have hgV : W4.grownBy V none := by rw [HV.out]; exact grown_drew _
    have hzV := hgV.size
    clear HV
    have hTV := HT4.out.still hgV
    have hBV := HB4.out.still hgV
    have hS : V.cell? ⟨gs, 0, none⟩ = some (.map (some mb)) ∧ V.cell? ⟨wr.heap.size, 0, none⟩ = some (.int .i64 (pn : Nat)) ∧ V.cell? ⟨wr.heap.size, 1, none⟩ = some (.int .i64 (pp : Nat)) ∧ V.cell? ⟨gn, 0, none⟩ = some (.slice (some ⟨b1, o1, none⟩) n c1) ∧ V.cell? ⟨b1, o1 + pn, none⟩ = some (.slice (some ⟨bR, oR, none⟩) (nthL N.ends pn).length cR) ∧ V.cell? ⟨bR, oR + pp * 2, none⟩ = some (.int .i64 (tt : Nat)) ∧ V.cell? ⟨bR, oR + pp * 2 + 1, none⟩ = some (.int .i64 (tr : Nat)) := ⟨hTV.bs.cell 0 (by simp), hBV.cell 0 (by simp), hBV.cell 1 (by simp), hTV.bn.cell 0 (by simp), hgV.cell qR (by simp), hgV.cell eR (by simp), hgV.cell eR' (by simp)⟩
    obtain ⟨V1, hU1, hgU1, hM1⟩ := hTV.mp.put (by omega) (x := (pn : Int)) (y := (pp : Int)) (by unfold I64; omega) (by unfold I64; omega)
    obtain ⟨a9, st2, V3, V4, hE3, hE4, hgE3, hgE4, hM2⟩ := hM1.entry (by omega) (x := (tt : Int)) (y := (tr : Int)) (by unfold I64; omega) (by unfold I64; omega)
    have hS1 : V1.cell? ⟨gs, 0, none⟩ = some (.map (some mb)) ∧ V1.cell? ⟨wr.heap.size, 0, none⟩ = some (.int .i64 (pn : Nat)) ∧ V1.cell? ⟨wr.heap.size, 1, none⟩ = some (.int .i64 (pp : Nat)) ∧ V1.cell? ⟨gn, 0, none⟩ = some (.slice (some ⟨b1, o1, none⟩) n c1) ∧ V1.cell? ⟨b1, o1 + pn, none⟩ = some (.slice (some ⟨bR, oR, none⟩) (nthL N.ends pn).length cR) ∧ V1.cell? ⟨bR, oR + pp * 2, none⟩ = some (.int .i64 (tt : Nat)) ∧ V1.cell? ⟨bR, oR + pp * 2 + 1, none⟩ = some (.int .i64 (tr : Nat)) := let ⟨s1, s2, s3, s4, s5, s6, s7⟩ := hS; ⟨hgU1.cell s1 (by simp <;> omega), hgU1.cell s2 (by simp <;> omega), hgU1.cell s3 (by simp <;> omega), hgU1.cell s4 (by simp <;> omega), hgU1.cell s5 (by simp <;> omega), hgU1.cell s6 (by simp <;> omega), hgU1.cell s7 (by simp <;> omega)⟩
    refine anyU_take (i := 0) (v := .map (some mb)) rfl (by kernel_rfl) (by kernel_rfl) (by kernel_rfl) (fun _ _ _ h => h) ⟨by rfl, fun w' hS' => (by obtain ⟨s1, s2, s3, s4, s5, s6, s7⟩ := hS'; go_simp)⟩ hS ?_
    simp only [List.getElem_toArray, List.getElem_cons_zero, Act.put, List.setIfInBounds_toArray, List.set_cons_zero, List.set_cons_succ]
    refine anyU_take (i := 1) (v := .agg #[.int .i64 (pn : Nat), .int .i64 (pp : Nat)]) rfl (by kernel_rfl) (by kernel_rfl) (by kernel_rfl) (fun _ _ _ h => h) ⟨by rfl, fun w' hS' => (by obtain ⟨s1, s2, s3, s4, s5, s6, s7⟩ := hS'; go_simp)⟩ hS ?_
    simp only [List.getElem_toArray, List.getElem_cons_succ, List.getElem_cons_zero, Act.put, List.setIfInBounds_toArray, List.set_cons_zero, List.set_cons_succ]
    refine anyU_take (i := 2) (v := .map (some mb)) rfl (by kernel_rfl) (by kernel_rfl) (by kernel_rfl) (fun _ _ _ h => h) ⟨by rfl, fun w' hS' => (by obtain ⟨s1, s2, s3, s4, s5, s6, s7⟩ := hS'; go_simp)⟩ hS ?_
    simp only [List.getElem_toArray, List.getElem_cons_succ, List.getElem_cons_zero, Act.put, List.setIfInBounds_toArray, List.set_cons_zero, List.set_cons_succ]
    refine anyU_take (i := 3) (v := .pointer (some ⟨gn, 0, none⟩)) rfl (by kernel_rfl) (by kernel_rfl) (by kernel_rfl) (fun _ _ _ h => h) ⟨by rfl, fun w' hS' => (by obtain ⟨s1, s2, s3, s4, s5, s6, s7⟩ := hS'; go_simp)⟩ hS ?_
    simp only [List.getElem_toArray, List.getElem_cons_succ, List.getElem_cons_zero, Act.put, List.setIfInBounds_toArray, List.set_cons_zero, List.set_cons_succ]
    refine anyU_take (i := 4) (v := .slice (some ⟨b1, o1, none⟩) n c1) rfl (by kernel_rfl) (by kernel_rfl) (by kernel_rfl) (fun _ _ _ h => h) ⟨by rfl, fun w' hS' => (by obtain ⟨s1, s2, s3, s4, s5, s6, s7⟩ := hS'; go_simp)⟩ hS ?_
    simp only [List.getElem_toArray, List.getElem_cons_succ, List.getElem_cons_zero, Act.put, List.setIfInBounds_toArray, List.set_cons_zero, List.set_cons_succ]
    refine anyU_take (i := 5) (v := .pointer (some ⟨wr.heap.size, 0, none⟩)) rfl (by kernel_rfl) (by kernel_rfl) (by kernel_rfl) (fun _ _ _ h => h) ⟨by rfl, fun w' hS' => (by obtain ⟨s1, s2, s3, s4, s5, s6, s7⟩ := hS'; go_simp)⟩ hS ?_
    simp only [List.getElem_toArray, List.getElem_cons_succ, List.getElem_cons_zero, Act.put, List.setIfInBounds_toArray, List.set_cons_zero, List.set_cons_succ]
    refine anyU_take (i := 6) (v := .int .i64 (pn : Nat)) rfl (by kernel_rfl) (by kernel_rfl) (by kernel_rfl) (fun _ _ _ h => h) ⟨by rfl, fun w' hS' => (by obtain ⟨s1, s2, s3, s4, s5, s6, s7⟩ := hS'; go_simp)⟩ hS ?_
    simp only [List.getElem_toArray, List.getElem_cons_succ, List.getElem_cons_zero, Act.put, List.setIfInBounds_toArray, List.set_cons_zero, List.set_cons_succ]
    refine anyU_take (i := 7) (v := .pointer (some ⟨b1, o1 + pn, none⟩)) rfl (by kernel_rfl) (by kernel_rfl) (by kernel_rfl) (fun _ _ _ h => h) ⟨by rfl, fun w' hS' => (by obtain ⟨s1, s2, s3, s4, s5, s6, s7⟩ := hS'; simp [go_sem, hpni])⟩ hS ?_
    simp only [List.getElem_toArray, List.getElem_cons_succ, List.getElem_cons_zero, Act.put, List.setIfInBounds_toArray, List.set_cons_zero, List.set_cons_succ]
    refine anyU_take (i := 8) (v := .slice (some ⟨bR, oR, none⟩) (nthL N.ends pn).length cR) rfl (by kernel_rfl) (by kernel_rfl) (by kernel_rfl) (fun _ _ _ h => h) ⟨by rfl, fun w' hS' => (by obtain ⟨s1, s2, s3, s4, s5, s6, s7⟩ := hS'; go_simp)⟩ hS ?_
    simp only [List.getElem_toArray, List.getElem_cons_succ, List.getElem_cons_zero, Act.put, List.setIfInBounds_toArray, List.set_cons_zero, List.set_cons_succ]
    refine anyU_take (i := 9) (v := .pointer (some ⟨wr.heap.size, 1, none⟩)) rfl (by kernel_rfl) (by kernel_rfl) (by kernel_rfl) (fun _ _ _ h => h) ⟨by rfl, fun w' hS' => (by obtain ⟨s1, s2, s3, s4, s5, s6, s7⟩ := hS'; go_simp)⟩ hS ?_
    simp only [List.getElem_toArray, List.getElem_cons_succ, List.getElem_cons_zero, Act.put, List.setIfInBounds_toArray, List.set_cons_zero, List.set_cons_succ]
    refine anyU_take (i := 10) (v := .int .i64 (pp : Nat)) rfl (by kernel_rfl) (by kernel_rfl) (by kernel_rfl) (fun _ _ _ h => h) ⟨by rfl, fun w' hS' => (by obtain ⟨s1, s2, s3, s4, s5, s6, s7⟩ := hS'; go_simp)⟩ hS ?_
    simp only [List.getElem_toArray, List.getElem_cons_succ, List.getElem_cons_zero, Act.put, List.setIfInBounds_toArray, List.set_cons_zero, List.set_cons_succ]
    refine anyU_take (i := 11) (v := .pointer (some ⟨bR, oR + pp * 2, none⟩)) rfl (by kernel_rfl) (by kernel_rfl) (by kernel_rfl) (fun _ _ _ h => h) ⟨by rfl, fun w' hS' => (by obtain ⟨s1, s2, s3, s4, s5, s6, s7⟩ := hS'; simp [go_sem, hppi])⟩ hS ?_
    simp only [List.getElem_toArray, List.getElem_cons_succ, List.getElem_cons_zero, Act.put, List.setIfInBounds_toArray, List.set_cons_zero, List.set_cons_succ]
    refine anyU_take (i := 12) (v := .agg #[.int .i64 (tt : Nat), .int .i64 (tr : Nat)]) rfl (by kernel_rfl) (by kernel_rfl) (by kernel_rfl) (fun _ _ _ h => h) ⟨by rfl, fun w' hS' => (by obtain ⟨s1, s2, s3, s4, s5, s6, s7⟩ := hS'; go_simp)⟩ hS ?_
    simp only [List.getElem_toArray, List.getElem_cons_succ, List.getElem_cons_zero, Act.put, List.setIfInBounds_toArray, List.set_cons_zero, List.set_cons_succ]
    refine anyU_ready (rs := [13]) (by kernel_rfl) (by simp) ?_
    refine ReadyU.cons (i := 13) rfl (fun K hK => ?_) ReadyU.nil
    simp only [List.getElem_toArray, List.getElem_cons_succ, List.getElem_cons_zero]
    refine ite_is (by rfl) ?_
    simp [go_sem, hU1]
    refine hK.out _ _ ⟨fun _ => hS1, ?_⟩
    clear hK K
    try simp only [List.getElem_toArray, List.getElem_cons_succ, List.getElem_cons_zero, Act.put, List.setIfInBounds_toArray, List.set_cons_zero, List.set_cons_succ]
    refine anyU_ready (rs := [14]) (by kernel_rfl) (by simp) ?_
    refine ReadyU.cons (i := 14) rfl (fun K hK => ?_) ReadyU.nil
    simp only [List.getElem_toArray, List.getElem_cons_succ, List.getElem_cons_zero]
    refine ite_is (by rfl) ?_
    simp [go_sem, hE3]
    refine hK.out _ _ ⟨fun h => absurd h (by decide), ?_⟩
    clear hK K
    try simp only [List.getElem_toArray, List.getElem_cons_succ, List.getElem_cons_zero, Act.put, List.setIfInBounds_toArray, List.set_cons_zero, List.set_cons_succ]
    refine anyU_ready (rs := [15]) (by kernel_rfl) (by simp) ?_
    refine ReadyU.cons (i := 15) rfl (fun K hK => ?_) ReadyU.nil
    simp only [List.getElem_toArray, List.getElem_cons_succ, List.getElem_cons_zero]
    refine ite_is (by rfl) ?_
    simp [go_sem]
    refine hK.out _ _ ⟨fun h => absurd h (by decide), ?_⟩
    clear hK K
    try simp only [List.getElem_toArray, List.getElem_cons_succ, List.getElem_cons_zero, Act.put, List.setIfInBounds_toArray, List.set_cons_zero, List.set_cons_succ]
    refine anyU_ready (rs := [16]) (by kernel_rfl) (by simp) ?_
    refine ReadyU.cons (i := 16) rfl (fun K hK => ?_) ReadyU.nil
    simp only [List.getElem_toArray, List.getElem_cons_succ, List.getElem_cons_zero]
    refine ite_is (by rfl) ?_
    simp [go_sem, hE4]
    refine hK.out _ _ ⟨fun h => absurd h (by decide), ?_⟩
    clear hK K
    try simp only [List.getElem_toArray, List.getElem_cons_succ, List.getElem_cons_zero, Act.put, List.setIfInBounds_toArray, List.set_cons_zero, List.set_cons_succ]
    refine anyU_done (by kernel_rfl) ?_ _
    have hg14 : V.grownBy V4 (some mb) := (hgU1.trans hgE3).trans hgE4
    have hz14 := hg14.size
    clear hS hS1 hU1 hE3 hE4 hgU1 hgE3 hgE4 qR eR eR'
    have HT5 := Lib.hid (hTV.mark HLAY.out hg14 hM2)
    have HOT5 := Lib.hid ((HOT4.out.stillT hgV).far hg14 (fun j e => by cases e; exact m2))
    have HTV5 := Lib.hid ((HTV4.out.far hgV (by omega) (no_row _ _)).far hg14 (by omega) (fun j e => by cases e; omega))
    have HF5 := Lib.hid ((HF4.out.trans (Fr.still hgV)).trans (Fr.turn hg14 m1 m2))
    clear hTV hBV hg14 hgV hM1 hM2 HT4 HOT4 HTV4 HF4
    go_wp2_with fail
    go_roundw
    case rel =>
      refine ⟨k + 1, by omega, by go_num, Lib.hid ?_, HOT5, HTV5, Lib.hid (by omega), HF5⟩
      have e : markL N σ.seen (l.take (k + 1)) = setU (setU (markL N σ.seen (l.take k)) pn pp) tt tr := by
        rw [markL_take N σ.seen l hlt, HP.out]
        unfold markE
        rw [HEP.out]
      rw [e, show m + 2 * (k + 1) = m + 2 * k + 1 + 1 by omega]
      exact HT5.out
    case measure => simp [intOf]; omega

end Go.Proofs.YtpanigomfmfknaaGreat
