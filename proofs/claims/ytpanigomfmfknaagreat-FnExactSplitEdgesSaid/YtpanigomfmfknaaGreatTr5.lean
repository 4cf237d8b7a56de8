/-
  Contract: slices.SortFunc sorts trails by where they begin (out of the shelf's contract).
-/
import Derived.Test.YtpanigomfmfknaaGreatTr3
import Derived.Test.YtpanigomfmfknaaGreatTr4
import Derived.Test.YtpanigomfmfknaaGreatShelfS
import Derived.Shelf.SlSortCmp.Whole1
import Derived.Shelf.SlSortCmp.NoneTotal
namespace Go.Proofs.YtpanigomfmfknaaGreat
open Go.ChangeShapes Go.WideShapes Go.ChangeAt Go.RowKit
set_option linter.unusedVariables false

theorem BD.grow {w w' : World} (h : BD w.heap.size w w') : ∃ (q : Nat) (os : Array Obj), w' = Sort.grow (w.drewN q) os := by
  refine ⟨w'.drawn - w.drawn, w'.heap.extract w.heap.size w'.heap.size, ?_⟩
  have hd := h.drawn
  have hs := h.below.size
  have hheap : w'.heap = w.heap ++ w'.heap.extract w.heap.size w'.heap.size := by
    apply Array.ext_getElem?
    intro k
    rw [Array.getElem?_append]
    by_cases hk : k < w.heap.size
    · rw [if_pos hk]; exact h.below.block k hk
    · rw [if_neg hk, Array.getElem?_extract]
      have e : min w'.heap.size w'.heap.size - w.heap.size = w'.heap.size - w.heap.size := by omega
      split
      · rw [show w.heap.size + (k - w.heap.size) = k by omega]
      · rw [Array.getElem?_eq_none (by omega)]
  have h1 := h.below.os
  have h2 := h.below.tape
  have h3 := h.below.output
  obtain ⟨hp, tp, dr, os, out⟩ := w'
  simp only at h1 h2 h3 hheap hd
  unfold Sort.grow World.drewN
  simp only [World.mk.injEq]
  refine ⟨hheap, h2, ?_, h1, h3⟩
  show dr = w.drawn + (dr - w.drawn)
  omega
theorem sortHeap {α : Type} [Inhabited α] (enc : α → Value) (w : World) (blk off m : Nat) (dk : Array α) (os : Array Obj) {k : Nat} (hk : k < w.heap.size) (hb : k ≠ blk) : (sortWorld enc w blk off m dk os).heap[k]? = w.heap[k]? := by
  unfold sortWorld Sort.grow Sort.putRow Sort.mapBlock Sort.ahead
  simp only [Array.getElem?_append, Array.size_modify, hk, if_true, Array.getElem?_modify]
  rw [if_neg (fun e => hb e.symm)]
theorem sortSize {α : Type} [Inhabited α] (enc : α → Value) (w : World) (blk off m : Nat) (dk : Array α) (os : Array Obj) : w.heap.size ≤ (sortWorld enc w blk off m dk os).heap.size := by
  unfold sortWorld Sort.grow Sort.putRow Sort.mapBlock Sort.ahead
  simp
theorem sortGrown {α : Type} [Inhabited α] (enc : α → Value) (w : World) (blk off m : Nat) (dk : Array α) (os : Array Obj) : w.grownBy (sortWorld enc w blk off m dk os) (some blk) :=
  ⟨rfl, rfl, rfl, sortSize enc w blk off m dk os, fun k hk hne => sortHeap enc w blk off m dk os hk (fun e => hne (by rw [e]))⟩

/-- the order by where trails begin -/
def cfK (k : Nat → Nat) (i j : Nat) : Int := if k i < k j then -1 else if k j < k i then 1 else 0
theorem ltOf_cfK (k : Nat → Nat) (i j : Nat) : ltOf (cfK k) i j = decide (k i < k j) := by
  unfold ltOf cfK
  rw [decide_eq_decide]
  split
  · omega
  · split <;> omega
theorem swo_cfK (k : Nat → Nat) : Sort.SWO (ltOf (cfK k)) :=
  ⟨fun x => by rw [ltOf_cfK]; simp, fun x y z => by rw [ltOf_cfK, ltOf_cfK, ltOf_cfK]; simp only [decide_eq_true_eq]; omega, fun x y z => by rw [ltOf_cfK, ltOf_cfK, ltOf_cfK]; simp only [decide_eq_false_iff_not]; omega⟩
theorem lexC_key {a b : List Po} (ha : 0 < a.length) (hb : 0 < b.length) (pa : (nthP a 0).2 < 8) (pb : (nthP b 0).2 < 8) (hne : keyL a ≠ keyL b) : lexC (numsP a) (numsP b) = if keyL a < keyL b then -1 else 1 := by
  obtain ⟨⟨p1, p2⟩, a', rfl⟩ : ∃ p l, a = p :: l := by cases a with
    | nil => simp at ha
    | cons p l => exact ⟨p, l, rfl⟩
  obtain ⟨⟨q1, q2⟩, b', rfl⟩ : ∃ p l, b = p :: l := by cases b with
    | nil => simp at hb
    | cons p l => exact ⟨p, l, rfl⟩
  have e1 : keyL ((p1, p2) :: a') = p1 * 8 + p2 := rfl
  have e2 : keyL ((q1, q2) :: b') = q1 * 8 + q2 := rfl
  have pa' : p2 < 8 := pa
  have pb' : q2 < 8 := pb
  rw [e1, e2] at hne ⊢
  simp only [numsP, lexC]
  unfold cmpJ
  by_cases h1 : p1 = q1
  · subst h1
    have h2 : p2 ≠ q2 := fun e => hne (by rw [e])
    rw [if_neg (by omega : ¬ (p1 : Int) < p1), if_neg (by omega : ¬ (p1 : Int) < p1), if_pos rfl]
    by_cases h3 : p2 < q2
    · rw [if_pos (by omega : (p2 : Int) < q2), if_neg (by omega), if_pos (by omega)]
    · rw [if_neg (by omega : ¬ (p2 : Int) < q2), if_pos (by omega : (q2 : Int) < p2), if_neg (by omega), if_neg (by omega)]
  · by_cases h3 : p1 < q1
    · rw [if_pos (by omega : (p1 : Int) < q1), if_neg (by omega), if_pos (by omega)]
    · rw [if_neg (by omega : ¬ (p1 : Int) < q1), if_pos (by omega : (q1 : Int) < p1), if_neg (by omega), if_neg (by omega)]
theorem map_range_nthT (ts : List (List Po)) : (List.range ts.length).map (nthT ts) = ts := by
  apply List.ext_getElem
  · simp
  · intro i h1 h2; simp [nthT, h2]
/-- what trails are like, for the sort -/
structure SrtOk (ts : List (List Po)) : Prop where
  nd : (ts.map keyL).Nodup
  ok : ∀ l ∈ ts, 0 < l.length ∧ l.length ≤ 240 ∧ (nthP l 0).2 < 8
theorem found_ok {N : NetD} (hg : N.good = true) : SrtOk (found N) :=
  ⟨found_keys hg, fun l hl => by
    obtain ⟨s, hs, hc⟩ := found_ch hg hl
    refine ⟨hc.pos, hc.len hg, ?_⟩
    rw [hc.head]
    have := good_deg hg hs.1
    have h2 := hs.2
    unfold degAt at h2
    omega⟩
theorem nthT_mem {ts : List (List Po)} {i : Nat} (h : i < ts.length) : nthT ts i ∈ ts := by rw [nthT_eq h]; exact List.getElem_mem h
theorem key_inj {ts : List (List Po)} (h : SrtOk ts) {i j : Nat} (hi : i < ts.length) (hj : j < ts.length) (e : keyL (nthT ts i) = keyL (nthT ts j)) : i = j := by
  have hn := h.nd
  unfold List.Nodup at hn
  rw [List.pairwise_map] at hn
  rw [nthT_eq hi, nthT_eq hj] at e
  rcases Nat.lt_trichotomy i j with h1 | h1 | h1
  · exact absurd e (List.pairwise_iff_getElem.1 hn i j hi hj h1)
  · exact h1
  · exact absurd e.symm (List.pairwise_iff_getElem.1 hn j i hj hi h1)
theorem enters2 : ∀ args w, (callFunc 46 args).run Tryz.prog w = .ok (.enter 46 args) w := enters_of Tryz.func46 (by kernel_rfl) rfl

set_option maxHeartbeats 2000000 in
theorem sortTrails_any (v : Value) (ts : List (List Po)) (base top : Nat) (w : World) (h : OwnES w base top 46 v (ts.map castL)) (hts : SrtOk ts) (hlen : ts.length ≤ 100000) :
    Calls Tryz.prog 45 #[v, .func (.func 46) #[] #[]] w fun e w' => e = .returned (.tuple #[]) ∧ EndSS w' base w.heap.size v ((srt ts).map castL) ∧ w.grownBy w' v.ownBlock := by
  have hlow := h.lt
  obtain ⟨vs, lo, hi, h1, h2, h3, h4, h5, h6⟩ := h
  rw [List.length_map] at h1 h5 h6
  by_cases hn : ts = []
  · subst hn
    simp only [List.length_nil] at h1
    have hvs : vs = [] := List.eq_nil_of_length_eq_zero h1
    subst hvs
    obtain ⟨A, c, rfl, _⟩ := h2.form
    refine (AnyF.slices_SortFunc_none (P := Tryz.prog) (ρ := Tryz.sortE_ren) { Tryz.sortE with } A c (.func (.func 46) #[] #[]) w).mono ?_
    rintro e w' ⟨rfl, rfl⟩
    refine ⟨rfl, ?_, grown_any (World.grownBy.refl _ none)⟩
    show EndSS w' base w'.heap.size (.slice A 0 c) []
    refine ⟨fun _ => undef, ?_, fun i hi => absurd hi (by simp)⟩
    obtain ⟨hr1, hr2⟩ := h2
    rcases hr2 with ⟨e, _⟩ | ⟨g, cap, cur, e, hg, hh, hnn, hm, hs, htk⟩
    · rw [show Value.slice A 0 c = .slice none 0 0 from e]; exact Sl.nil _ _ _ _ _
    · rw [show Value.slice A 0 c = .slice (some ⟨g, 0, none⟩) 0 cap from e]; exact ⟨_, _, rfl, Nat.zero_le _, hm, fun hp => absurd hp (by simp)⟩
  · have hpos : 0 < ts.length := List.length_pos_iff.2 hn
    have hO2 := h2
    obtain ⟨A, c, rfl, hc, hm, hcells⟩ := h2.form
    obtain ⟨b, rfl, hb1, hb2, hcl⟩ := hcells (by omega)
    rw [h1] at hc
    -- an element's number, cut to what there is
    let sel : Nat → Nat := fun i => if i < ts.length then i else 0
    have hsel : ∀ i, sel i < ts.length := fun i => by show (if _ then _ else _) < _; split <;> omega
    let enc : Nat → Value := fun i => vs.getD (sel i) undef
    let ls : Nat → List Po := fun i => nthT ts (sel i)
    let kf : Nat → Nat := fun i => keyL (ls i)
    have hrow : ∀ i, ∃ lo1 hi1, EndS w lo1 hi1 (enc i) (castL (ls i)) ∧ base ≤ lo1 ∧ hi1 ≤ top ∧ (b < lo1 ∨ hi1 ≤ b) := fun i => by
      obtain ⟨u, a1, a2, a3, a4, a5⟩ := h5 (sel i) (hsel i)
      refine ⟨lo (sel i), hi (sel i), ?_, a2, a3, a5 b rfl⟩
      have e1 : enc i = u := by show vs.getD (sel i) undef = u; simp [a1]
      have e2 : castL (ls i) = nthL (ts.map castL) (sel i) := by show castL (nthT ts (sel i)) = _; simp [nthL, nthT, hsel i]
      rw [e1, e2]; exact a4
    have hone : OneCell enc := fun i => by
      obtain ⟨lo1, hi1, hE, _⟩ := hrow i
      obtain ⟨A', c', e⟩ := hE.shape
      rw [e]; rfl
    have hH : Sort.Holds enc w b 0 (Array.range ts.length) := fun j hj => by
      rw [Array.size_range] at hj
      have e : (Array.range ts.length)[j]! = j := by rw [getElem!_pos _ j (by simpa using hj)]; simp
      have e2 : sel j = j := if_pos hj
      rw [e]
      have := hcl j (vs.getD j undef) (by simp [show j < vs.length by omega])
      show w.cell? ⟨b, 0 + j, none⟩ = some (vs.getD (sel j) undef) ∧ _
      rw [e2, Nat.zero_add]
      exact this
    have hcmp : CmpLays1 Tryz.prog 46 #[] enc (cfK kf) b 0 (Array.range ts.length).size w := fun m os dk hs x y => by
      obtain ⟨lx, hx, hE1, hx1, hx2, hx3⟩ := hrow x
      obtain ⟨ly, hy, hE2, hy1, hy2, hy3⟩ := hrow y
      have hsz := sortSize enc w b 0 m dk os
      have g1 := hE1.keep (w' := sortWorld enc w b 0 m dk os) fun k k1 k2 => sortHeap enc w b 0 m dk os (by omega) (by omega)
      have g2 := hE2.keep (w' := sortWorld enc w b 0 m dk os) fun k k1 k2 => sortHeap enc w b 0 m dk os (by omega) (by omega)
      obtain ⟨o1, o2, o3⟩ := hts.ok _ (nthT_mem (hsel x))
      obtain ⟨p1, p2, p3⟩ := hts.ok _ (nthT_mem (hsel y))
      refine (cmpTrail_any (enc x) (enc y) (ls x) (ls y) lx hx ly hy _ g1 (by omega) g2 (by omega) o2 p2).mono ?_
      rintro e w' ⟨rfl, hbd⟩
      refine ⟨?_, hbd.grow⟩
      congr 2
      unfold cfK
      by_cases hk : kf x = kf y
      · have : sel x = sel y := key_inj hts (hsel x) (hsel y) hk
        have e : ls x = ls y := by show nthT ts (sel x) = nthT ts (sel y); rw [this]
        rw [e, lexC_same, if_neg (by omega), if_neg (by omega)]
      · rw [lexC_key o1 p1 o3 p3 hk]
        by_cases hlt : kf x < kf y
        · rw [if_pos hlt, if_pos hlt]
        · rw [if_neg hlt, if_neg hlt, if_pos (by omega)]
    have hS := Any.slices_SortFunc (P := Tryz.prog) (ρ := Tryz.sortE_ren) Tryz.sortE enc hone (cfK kf) (swo_cfK kf) 46 #[] b 0 c (Array.range ts.length) w enters2 hcmp hH hb2 (by simp; omega)
    have ev : (Value.slice (some ⟨b, 0, none⟩) vs.length c) = .slice (some ⟨b, 0, none⟩) (Array.range ts.length).size c := by rw [h1, Array.size_range]
    rw [ev]
    refine Calls.mono hS ?_
    rintro e w' ⟨rfl, d', n', os, hp, hsd, rfl⟩
    obtain ⟨hp1, hp2, hp3⟩ := hp
    rw [Array.size_range] at hp1
    refine ⟨rfl, ?_, sortGrown enc w b 0 n' d' os⟩
    have hdl : d'.toList.Perm (List.range ts.length) := by
      have e1 : d'.extract 0 (Array.range ts.length).size = d' := by rw [Array.size_range, ← hp1]; simp
      have e2 : (Array.range ts.length).extract 0 (Array.range ts.length).size = Array.range ts.length := by simp
      rw [e1, e2, Array.toList_range] at hp3
      exact hp3
    have hmem : ∀ j, j < d'.size → d'[j]! < ts.length := fun j hj => by
      have : d'[j]! ∈ d'.toList := by rw [getElem!_pos d' j hj]; simp
      exact List.mem_range.1 (hdl.subset this)
    have hseld : ∀ j, j < d'.size → sel d'[j]! = d'[j]! := fun j hj => if_pos (hmem j hj)
    let L := d'.toList.map (nthT ts)
    have hLp : L.Perm ts := by
      have := hdl.map (nthT ts)
      rwa [map_range_nthT] at this
    have hLl : L.length = ts.length := hLp.length_eq
    have hnth : ∀ j, j < d'.size → nthT L j = ls d'[j]! := fun j hj => by
      show nthT (d'.toList.map (nthT ts)) j = nthT ts (sel d'[j]!)
      rw [hseld j hj, nthT_eq (by simpa using hj), getElem!_pos d' j hj]
      simp
    have hLle : LeT L := by
      refine List.pairwise_iff_getElem.2 fun i j hi hj hij => ?_
      have hi' : i < d'.size := by rw [hp1, ← hLl]; exact hi
      have hj' : j < d'.size := by rw [hp1, ← hLl]; exact hj
      have := hsd i j (Nat.zero_le _) hij (by rw [Array.size_range, ← hp1]; exact hj')
      rw [ltOf_cfK, decide_eq_false_iff_not] at this
      have e1 := hnth i hi'
      have e2 := hnth j hj'
      rw [nthT_eq hi] at e1
      rw [nthT_eq hj] at e2
      rw [e1, e2]
      show keyL (ls d'[i]!) ≤ keyL (ls d'[j]!)
      have : ¬ keyL (ls d'[j]!) < keyL (ls d'[i]!) := this
      omega
    have hLs : L = srt ts := srt_unique hts.nd hLp (lt_of_le hLle ((hLp.map keyL).nodup_iff.2 hts.nd))
    rw [← hLs]
    have hW : SW enc w b 0 d' (sortWorld enc w b 0 n' d' os) := ⟨n', os, rfl⟩
    have hh := hW.holds hb2 hH (by rw [hp1, Array.size_range])
    refine ⟨fun j => enc d'[j]!, ?_, fun j hj => ?_⟩
    · refine ⟨_, _, by rw [Array.size_range, List.length_map, hLl], ?_, hm, fun _ => ⟨b, 0, rfl, hb1, hb2, fun j hj => ?_⟩⟩
      · rw [List.length_map, hLl]; exact hc
      · rw [List.length_map, hLl, Nat.mul_one, ← hp1] at hj
        exact hh j hj
    · rw [List.length_map, hLl, ← hp1] at hj
      obtain ⟨lx, hx, hE1, hx1, hx2, hx3⟩ := hrow d'[j]!
      have g1 := hE1.keep (w' := sortWorld enc w b 0 n' d' os) fun k k1 k2 => sortHeap enc w b 0 n' d' os (by omega) (by omega)
      have e : nthL (L.map castL) j = castL (ls d'[j]!) := by
        rw [← hnth j hj]
        simp [nthL, nthT, show j < L.length by rw [hLl, ← hp1]; exact hj]
      rw [e]
      exact g1.mono hx1 (by omega)

end Go.Proofs.YtpanigomfmfknaaGreat
