/-
  Contracts of deNumber (reference) and clustersBy (program): both number the marks by their first occurrence.
-/
import Derived.Test.YtnfggpedbpjbbaaInts
import Derived.Test.YtnfggpedbpjbbaaOwn
import Derived.Test.YtnfggpedbpjbbaaOpen
namespace Go.Proofs.Ytnfggpedbpjbbaa
open Go.ChangeShapes Go.WideShapes Go.ChangeAt Go.RowKit Go.Maps
set_option linter.unusedVariables false

def dstep (p : List Int × List Int) (x : Int) : List Int × List Int := (if x ∈ p.1 then p.1 else p.1 ++ [x], p.2 ++ [(p.1.idxOf x : Int)])
def dfold (zs : List Int) : List Int × List Int := zs.foldl dstep ([], [])
def dnum (zs : List Int) : List Int := (dfold zs).2
theorem dfold_take (zs : List Int) (k : Nat) (h : k < zs.length) : dfold (zs.take (k + 1)) = dstep (dfold (zs.take k)) (nth zs k) := by
  unfold dfold
  rw [List.take_succ_eq_append_getElem h, List.foldl_append, nth_eq h]
  rfl
theorem dfold_len (zs : List Int) : (dfold zs).1.length ≤ zs.length ∧ (dfold zs).2.length = zs.length := by
  unfold dfold
  suffices h : ∀ (l : List Int) (p : List Int × List Int), (l.foldl dstep p).1.length ≤ p.1.length + l.length ∧ (l.foldl dstep p).2.length = p.2.length + l.length by
    have := h zs ([], []); simpa using this
  intro l
  induction l with
  | nil => intro p; simp
  | cons x l ih =>
    intro p
    have := ih (dstep p x)
    simp only [List.foldl_cons, List.length_cons]
    have h1 : (dstep p x).1.length ≤ p.1.length + 1 := by unfold dstep; dsimp only; split <;> simp
    have h2 : (dstep p x).2.length = p.2.length + 1 := by simp [dstep]
    omega
theorem dnum_length (zs : List Int) : (dnum zs).length = zs.length := (dfold_len zs).2

theorem nth_idx {l : List Int} {x : Int} (h : l.idxOf x < l.length) : nth l (l.idxOf x) = x := by rw [nth_eq h]; exact List.getElem_idxOf h
theorem nth_lt_idx {l : List Int} {x : Int} {j : Nat} (h : j < l.idxOf x) : nth l j ≠ x := by
  have hl : j < l.length := Nat.lt_of_lt_of_le h List.idxOf_le_length
  have := List.not_of_lt_findIdx (p := (· == x)) (xs := l) (i := j) h
  rw [nth_eq hl]
  simpa using this

theorem dfold_old {zs sl ol : List Int} {k m : Nat} (hk : k < zs.length) (hf : dfold (zs.take k) = (sl, ol)) (hx : sl.idxOf (nth zs k) = m) (hm : m < sl.length) : dfold (zs.take (k + 1)) = (sl, ol ++ [(m : Int)]) := by
  rw [dfold_take zs k hk, hf]
  have : nth zs k ∈ sl := List.idxOf_lt_length_iff.1 (by rw [hx]; exact hm)
  simp [dstep, this, hx]
theorem dfold_new {zs sl ol : List Int} {k m : Nat} (hk : k < zs.length) (hf : dfold (zs.take k) = (sl, ol)) (hx : sl.idxOf (nth zs k) = m) (hm : ¬ m < sl.length) : dfold (zs.take (k + 1)) = (sl ++ [nth zs k], ol ++ [(m : Int)]) := by
  rw [dfold_take zs k hk, hf]
  have : nth zs k ∉ sl := fun h => hm (by rw [← hx]; exact List.idxOf_lt_length_iff.2 h)
  simp [dstep, this, hx]

set_option maxHeartbeats 1000000 in
theorem deNumber_any (v : Value) (zs : List Int) (lo hi : Nat) (w : World) (h : IntS w lo hi v zs) (hhi : hi ≤ w.heap.size) (hn : zs.length ≤ 16777216) :
    Calls Try.prog 29 #[v] w fun e w' => ∃ r, e = .returned r ∧ IntS w' w.heap.size w'.heap.size r (dnum zs) ∧ Below w.heap.size w w' := by
  obtain ⟨A, c, rfl, hc1, hc2, hcell⟩ := h.form
  unfold maxLen at hc2
  go_enter Try.func29, Try.ntmps29
  go_wp2
  go_loopw [10, 3, 4] (fun i sv ov wr => ∃ k : Nat, k ≤ zs.length ∧ i = .int .i64 k ∧ OwnI wr w.heap.size 3 sv (dfold (zs.take k)).1 ∧ OwnI wr w.heap.size 3 ov (dfold (zs.take k)).2 ∧ Apart sv ov ∧ Below w.heap.size w wr)
     (fun i _ _ _ => zs.length - (intOf i).toNat)
  case atStart => exact ⟨0, Nat.zero_le _, rfl, OwnI.nil _ _ _, OwnI.nil _ _ _, Apart.nil_left _, Below.refl _ _⟩
  case round =>
    obtain ⟨k, hk, rfl, hs, ho, HD, hb⟩ := hrel
    by_cases hlt : k < zs.length
    · obtain ⟨b, off, rfl, hb1, hb2, hcs⟩ := hcell (by omega)
      have hck : wr.cell? ⟨b, off + k, none⟩ = some (.int .i64 (nth zs k)) := (hb.cell (p := ⟨b, off + k, none⟩) (by show b < _; omega)).trans (hcs k hlt).1
      have hl1 := dfold_len (zs.take k)
      rw [List.length_take_of_le hk] at hl1
      obtain ⟨hl1, hl2⟩ := hl1
      have HT := Lib.hid (dfold_take zs k hlt)
      have HL2 := Lib.hid hl2
      obtain ⟨sl, ol, HF⟩ : ∃ sl ol, Hid (dfold (zs.take k) = (sl, ol)) := ⟨_, _, Lib.hid rfl⟩
      have hol : (dfold (zs.take k)).2.length ≤ k := Nat.le_of_eq HL2.out
      rw [HF.out] at hs ho hl1 hol
      dsimp only at hs ho hl1 hol
      obtain ⟨As, cs, rfl, hs1, hs2, hscell⟩ := hs.ints.form
      clear hcs hl2 hcell
      have hix : sl.idxOf (nth zs k) ≤ sl.length := List.idxOf_le_length
      obtain ⟨ix, HX⟩ : ∃ ix, Hid (sl.idxOf (nth zs k) = ix) := ⟨_, Lib.hid rfl⟩
      rw [HX.out] at hix
      obtain ⟨wo, rfl⟩ : ∃ wo : World, wo = wr := ⟨_, rfl⟩
      go_wp2
      go_loop [7] (fun j => ∃ m : Nat, m ≤ ix ∧ j = .int .i64 m) (fun j => ix - (intOf j).toNat)
      case atStart => exact ⟨0, Nat.zero_le _, rfl⟩
      case round =>
        obtain ⟨m, hm, rfl⟩ := hrel
        by_cases hmi : m < ix
        · obtain ⟨b2, off2, rfl, hb3, hb4, hcs⟩ := hscell (by omega)
          have hcm := (hcs m (by omega)).1
          have hne := nth_lt_idx (l := sl) (x := nth zs k) (j := m) (by rw [HX.out]; exact hmi)
          have hne' : (nth sl m != nth zs k) = true := by simpa using hne
          have hml : (m : Int) < sl.length := by omega
          clear hcs hne
          go_wp2
          go_round
          case rel => exact ⟨m + 1, by omega, by go_num⟩
          case measure => simp [intOf]; omega
        · obtain rfl : m = ix := by omega
          by_cases hmem : m < sl.length
          · have hmn : ((m : Int) == (sl.length : Int)) = false := by simp; omega
            have hmn' : ((m : Int) < (sl.length : Int)) := by omega
            obtain ⟨b2, off2, rfl, hb3, hb4, hcs⟩ := hscell (by omega)
            have hcm := (hcs m (by omega)).1
            have hne' : (nth sl m != nth zs k) = false := by rw [← HX.out, nth_idx (by rw [HX.out]; exact hmem)]; simp
            clear hcs hscell
            go_wp2_with (at_builtin; refine append_int Try.underlying25 Try.info3 (by decide) wo rfl _ rfl ho m _ rfl rfl (by omega) hb.size ?_; intro v' w' ho' hg' hat')
            go_roundw
            case rel =>
              have e := dfold_old hlt HF.out HX.out hmem
              refine ⟨k + 1, by omega, by go_num, ?_, ?_, HD.grow hs (by omega) hat', hb.grown hg' hb.size fun g hg => (ho.lt g hg).1⟩
              · rw [e]; exact hs.kept hg' HD.keeps
              · rw [e]; exact ho'
            case measure => simp [intOf]; omega
          · have hmn : ((m : Int) == (sl.length : Int)) = true := by simp; omega
            have hmn' : ¬ ((m : Int) < (sl.length : Int)) := by omega
            have hn1 : ¬ m < sl.length := hmem
            clear hmem
            go_wp2_with (first
              | (at_builtin; refine append_int (s := .tmp 32) Try.underlying25 Try.info3 (by decide) wo rfl _ rfl hs (nth zs k) _ rfl rfl (by omega) hb.size ?_; intro vs ws hos hgs hats; have hbs := hb.grown hgs hb.size fun g hg => (hs.lt g hg).1; have hos' := ho.kept hgs HD.symm.keeps; have HA := HD.symm.grow ho (by omega) hats)
              | (at_builtin; refine append_int (s := .tmp 36) Try.underlying25 Try.info3 (by decide) ws rfl _ rfl hos' m _ rfl rfl (by omega) hbs.size ?_; intro v' w' ho' hg' hat'))
            go_roundw
            case rel =>
              have e := dfold_new hlt HF.out HX.out hn1
              refine ⟨k + 1, by omega, by go_num, ?_, ?_, HA.symm.grow hos (by omega) hat', hbs.grown hg' hbs.size fun g hg => (hos'.lt g hg).1⟩
              · rw [e]; exact hos.kept hg' HA.symm.keeps
              · rw [e]; exact ho'
            case measure => simp [intOf]; omega
    · obtain rfl : k = zs.length := by omega
      rw [List.take_length] at ho
      go_wp2
      go_ret
      exact ⟨_, rfl, ho.ints, hb⟩

theorem I64.wf {x : Int} (h : I64 x) : (Lit.int .i64 x).wf = true := WalkArith.wf_i64 h

theorem keyed_int : Keyed Try.prog 3 := int_keyed Try.underlying3
theorem zero_int (w : World) : (zeroValue 3).run Try.prog w = .ok (.int .i64 0) w := by kernel_rfl

def numF (seen : List Int) : Lit → Option Int
  | .int .i64 x => if x ∈ seen then some (seen.idxOf x : Int) else none
  | _ => none
theorem numF_new (seen : List Int) (x : Int) (hx : x ∉ seen) : numF (seen ++ [x]) (.int .i64 x) = some (seen.length : Int) := by
  simp [numF, List.idxOf_append, hx]
theorem numF_other (seen : List Int) (x : Int) (k : Lit) (hk : k ≠ .int .i64 x) : numF (seen ++ [x]) k = numF seen k := by
  unfold numF
  split
  · rename_i y
    have hy : y ≠ x := fun e => hk (by rw [e])
    by_cases hm : y ∈ seen
    · simp [hm, List.idxOf_append]
    · simp [hm, hy]
  · rfl
theorem numF_mem {seen : List Int} {x : Int} (hx : x ∈ seen) : numF seen (.int .i64 x) = some (seen.idxOf x : Int) := by simp [numF, hx]
theorem numF_not {seen : List Int} {x : Int} (hx : x ∉ seen) : numF seen (.int .i64 x) = none := by simp [numF, hx]
theorem numMap_put {D : DataW Unit} {seen : List Int} {x : Int} (h : LMap D (numF seen) seen.length) (hx : x ∉ seen) : LMap (D.put (.int .i64 x) (.lit (.int .i64 seen.length))) (numF (seen ++ [x])) (seen ++ [x]).length :=
  h.put (k := .int .i64 x) (by simp [WideAt.IsKeyLit]) _ (numF_new seen x hx) (fun k hk => numF_other seen x k hk) (by simp [numF_not hx])

set_option maxHeartbeats 1000000 in
theorem clustersBy_any (v : Value) (zs : List Int) (lo hi : Nat) (w : World) (h : IntS w lo hi v zs) (hhi : hi ≤ w.heap.size) (hn : zs.length ≤ 16777216) (hw : ∀ z ∈ zs, I64 z) :
    Calls Try.prog 30 #[v] w fun e w' => ∃ r, e = .returned r ∧ IntS w' w.heap.size w'.heap.size r (dnum zs) ∧ Below w.heap.size w w' := by
  obtain ⟨A, c, rfl, hc1, hc2, hcell⟩ := h.form
  unfold maxLen at hc2
  have hmm := @run_makeMap Try.prog
  go_enter Try.func30, Try.ntmps30
  go_wp2
  go_loopw [12, 4] (fun i ov wr => ∃ (k : Nat) (D : DataW Unit), k ≤ zs.length ∧ i = .int .i64 k ∧ wr.ownsMap Try.prog 3 (plainElem Try.prog 3) w.heap.size k D ∧ LMap D (numF (dfold (zs.take k)).1) (dfold (zs.take k)).1.length ∧ OwnI wr (w.heap.size + 1) 3 ov (dfold (zs.take k)).2 ∧ Below w.heap.size w wr)
     (fun i _ _ => zs.length - (intOf i).toNat)
  case atStart => exact ⟨0, _, Nat.zero_le _, rfl, World.ownsMap_made _ _ _ _, LMap.empty.congr (fun k => by simp [dfold, numF]; split <;> rfl) rfl, OwnI.nil _ _ _, (Below.refl _ _).alloc (Nat.le_refl _) _⟩
  case round =>
    obtain ⟨k, D, hk, rfl, hm, hL, ho, hb⟩ := hrel
    by_cases hlt : k < zs.length
    · obtain ⟨b, off, rfl, hb1, hb2, hcs⟩ := hcell (by omega)
      have hck : wr.cell? ⟨b, off + k, none⟩ = some (.int .i64 (nth zs k)) := (hb.cell (p := ⟨b, off + k, none⟩) (by show b < _; omega)).trans (hcs k hlt).1
      have hl1 := dfold_len (zs.take k)
      rw [List.length_take_of_le hk] at hl1
      obtain ⟨hl1, hl2⟩ := hl1
      have HL2 := Lib.hid hl2
      obtain ⟨sl, ol, HF⟩ : ∃ sl ol, Hid (dfold (zs.take k) = (sl, ol)) := ⟨_, _, Lib.hid rfl⟩
      have hol : (dfold (zs.take k)).2.length ≤ k := Nat.le_of_eq HL2.out
      rw [HF.out] at hL ho hl1 hol
      dsimp only at hL ho hl1 hol
      clear hcs hl2 hcell hmm
      have hwk := hw _ (nth_mem hlt)
      have hkey := keyOf_int_mk (P := Try.prog) Try.underlying3 hwk.wf
      have HK := Lib.hid hkey
      clear hkey hw
      have hK : WideAt.IsKeyLit (.int .i64 (nth zs k)) := by simp [WideAt.IsKeyLit]
      have hszw : w.heap.size + 1 ≤ wr.heap.size := by have := hm.lt; omega
      by_cases hmem : nth zs k ∈ sl
      · have hh : Maps.has D (.int .i64 (nth zs k)) = true := by rw [hL.has _ hK, numF_mem hmem]; rfl
        have HA := Lib.hid (hL.at_ _ hK)
        rw [numF_mem hmem] at HA
        go_wp2_with (first
          | (at_lookup; refine wpList_lookup_own_ok_int _ rfl _ _ 57 rfl 3 3 .i64 keyed_int Try.underlying57 Try.underlying3 (zero_int _) w.heap.size k D rfl hm _ _ rfl HK.out ?_; intro c1 hat1 hwc1; have HAT1 := Lib.hid hat1; clear hat1)
          | (at_lookup; refine wpList_lookup_own_int _ rfl _ _ 57 rfl 3 3 .i64 keyed_int Try.underlying57 Try.underlying3 (zero_int _) w.heap.size k D rfl hm _ _ rfl HK.out ?_; intro c2 hat2 hwc2; have HAT2 := Lib.hid hat2; clear hat2)
          | (at_builtin; refine append_int (s := .tmp 28) Try.underlying25 Try.info3 (by decide) wr rfl _ rfl ho c2 _ rfl rfl (by omega) hszw ?_; intro v' w' ho' hg' hat'))
        go_roundw
        case rel =>
          have e := dfold_old hlt HF.out rfl (List.idxOf_lt_length_iff.2 hmem)
          have ec : c2 = (sl.idxOf (nth zs k) : Int) := by have := HAT2.out.symm.trans HA.out; injection this with this; injection this
          subst ec
          refine ⟨k + 1, D, by omega, by go_num, (hm.kept hg' fun e => by have := (ho.lt _ e.symm).1; omega).mono (by omega), ?_, ?_, hb.grown hg' hb.size fun g hg => by have := (ho.lt g hg).1; omega⟩
          · rw [e]; exact hL
          · rw [e]; exact ho'
        case measure => simp [intOf]; omega
      · have hh : Maps.has D (.int .i64 (nth zs k)) = false := by rw [hL.has _ hK, numF_not hmem]; rfl
        have HZ := Lib.hid hL.size
        have hP := numMap_put hL hmem
        have HA := Lib.hid (hP.at_ _ hK)
        rw [numF_new _ _ hmem] at HA
        go_wp2_with (first
          | (at_lookup; refine wpList_lookup_own_ok_int _ rfl _ _ 57 rfl 3 3 .i64 keyed_int Try.underlying57 Try.underlying3 (zero_int _) w.heap.size k D rfl hm _ _ rfl HK.out ?_; intro c1 hat1 hwc1; have HAT1 := Lib.hid hat1; clear hat1)
          | (at_len; refine wpList_len_own _ rfl _ 57 rfl 3 3 Try.underlying57 _ w.heap.size k D rfl hm ?_; rw [HZ.out])
          | (at_mapUpdate; refine wpList_mapUpdate_own _ rfl _ _ _ 57 rfl 3 3 keyed_int Try.underlying57 (plainElem Try.prog 3) w.heap.size k D rfl hm (by unfold maxLen; omega) _ _ _ rfl rfl HK.out _ [] (plainElem_int Try.underlying3 (WalkArith.wf_i64 (by omega))) ?_; intro w1 hm1 hg1; have ho1 := ho.kept hg1 (by right; intro e; have := (ho.lt _ e).1; omega); have hb1 := hb.grown hg1 hb.size (fun g hg => by injection hg with hg; omega); have hsz1 := hg1.size)
          | (at_lookup; refine wpList_lookup_own_int _ rfl _ _ 57 rfl 3 3 .i64 keyed_int Try.underlying57 Try.underlying3 (zero_int _) w.heap.size (k + 1) _ rfl hm1 _ _ rfl HK.out ?_; intro c2 hat2 hwc2; have HAT2 := Lib.hid hat2; clear hat2)
          | (at_builtin; refine append_int (s := .tmp 28) Try.underlying25 Try.info3 (by decide) w1 rfl _ rfl ho1 c2 _ rfl rfl (by omega) (by omega) ?_; intro v' w' ho' hg' hat'))
        go_roundw
        case rel =>
          have hix := List.idxOf_eq_length hmem
          have e := dfold_new hlt HF.out rfl (by omega)
          rw [hix] at e
          have ec : c2 = (sl.length : Int) := by have := HAT2.out.symm.trans HA.out; injection this with this; injection this
          subst ec
          refine ⟨k + 1, _, by omega, by go_num, (hm1.kept hg' fun e => by have := (ho1.lt _ e.symm).1; omega), ?_, ?_, hb1.grown hg' hb1.size fun g hg => by have := (ho1.lt g hg).1; omega⟩
          · rw [e]; exact hP
          · rw [e]; exact ho'
        case measure => simp [intOf]; omega
    · obtain rfl : k = zs.length := by omega
      rw [List.take_length] at ho
      go_wp2
      go_ret
      exact ⟨_, rfl, ho.ints.mono (by omega) (Nat.le_refl _), hb⟩

def cby (zs : List Int) : List Int := if zs.length ≤ 40 then dnum zs else []
theorem cby_len (zs : List Int) : (cby zs).length ≤ zs.length := by
  unfold cby
  split
  · rw [dnum_length]; exact Nat.le_refl _
  · exact Nat.zero_le _

theorem ClustersBy_spec (v : Value) (zs : List Int) (lo hi : Nat) (w : World) (h : IntS w lo hi v zs) (hhi : hi ≤ w.heap.size) (hsz : zs.length ≤ 1048576) (hw : ∀ z ∈ zs, I64 z) :
    Calls Try.prog 11 #[v] w fun e w' => ∃ r, e = .returned (.tuple #[r, .bool (decide (zs.length ≤ 40))]) ∧ IntS w' w.heap.size w'.heap.size r (cby zs) ∧ Below w.heap.size w w' := by
  obtain ⟨A, c, rfl, hc1, hc2, hcell⟩ := h.form
  have H := Lib.hid h
  clear h hcell
  by_cases hl : zs.length ≤ 40
  · go_enter Try.func11, Try.ntmps11
    go_wp2_with (go_at_call 29; refine (deNumber_any _ zs lo hi _ H.out hhi (by omega)).mono ?_; rintro e w' ⟨r, rfl, hr, hb⟩)
    go_ret2
    exact ⟨r, ret_vb (decide_eq_true hl).symm, by rw [cby, if_pos hl]; exact hr, hb⟩
  · have hl' : (40 : Int) < zs.length := by omega
    go_enter Try.func11, Try.ntmps11
    go_wp2_with fail
    go_ret2
    exact ⟨_, ret_vb (decide_eq_false hl).symm, by rw [cby, if_neg hl]; exact IntS.nil _ _ _, Below.refl _ _⟩

theorem ClustersBy_impl (v : Value) (zs : List Int) (lo hi : Nat) (w : World) (h : IntS w lo hi v zs) (hhi : hi ≤ w.heap.size) (hsz : zs.length ≤ 1048576) (hw : ∀ z ∈ zs, I64 z) :
    Calls Try.prog 13 #[v] w fun e w' => ∃ r, e = .returned (.tuple #[r, .bool (decide (zs.length ≤ 40))]) ∧ IntS w' w.heap.size w'.heap.size r (cby zs) ∧ Below w.heap.size w w' := by
  obtain ⟨A, c, rfl, hc1, hc2, hcell⟩ := h.form
  have H := Lib.hid h
  clear h hcell
  by_cases hl : zs.length ≤ 40
  · go_enter Try.func13, Try.ntmps13
    go_wp2_with (go_at_call 30; refine (clustersBy_any _ zs lo hi _ H.out hhi (by omega) hw).mono ?_; rintro e w' ⟨r, rfl, hr, hb⟩)
    go_ret2
    exact ⟨r, ret_vb (decide_eq_true hl).symm, by rw [cby, if_pos hl]; exact hr, hb⟩
  · have hl' : (40 : Int) < zs.length := by omega
    go_enter Try.func13, Try.ntmps13
    go_wp2_with fail
    go_ret2
    exact ⟨_, ret_vb (decide_eq_false hl).symm, by rw [cby, if_neg hl]; exact IntS.nil _ _ _, Below.refl _ _⟩

end Go.Proofs.Ytnfggpedbpjbbaa
