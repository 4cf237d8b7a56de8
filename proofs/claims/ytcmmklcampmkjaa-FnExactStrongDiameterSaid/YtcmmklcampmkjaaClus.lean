/-
  Contracts: clusterings (program and reference).
-/
import Derived.Test.YtcmmklcampmkjaaComp
import Derived.Test.YtcmmklcampmkjaaGrow
import Derived.Test.YtcmmklcampmkjaaFind
import Derived.Test.YtcmmklcampmkjaaEdge
import Derived.Deep.RegionHeld3
namespace Go.Proofs.Ytcmmklcampmkjaa
open Go.ChangeShapes Go.WideShapes Go.ChangeAt Go.RowKit
set_option linter.unusedVariables false

/-- the numbers below m whose image is c -/
def fibL (l : List Int) (c m : Nat) : List Int := ((List.range m).filter fun v => decide (nth l v = (c : Int))).map fun (v : Nat) => (v : Int)
def fibsAt (l : List Int) (k m : Nat) : List (List Int) := (List.range k).map fun c => fibL l c m
theorem fibsAt_length (l : List Int) (k m : Nat) : (fibsAt l k m).length = k := by simp [fibsAt]
theorem nthL_fibsAt {l : List Int} {k m c : Nat} (hc : c < k) : nthL (fibsAt l k m) c = fibL l c m := by simp [nthL, fibsAt, hc]
theorem fibL_len (l : List Int) (c m : Nat) : (fibL l c m).length ≤ m := by
  unfold fibL; rw [List.length_map]; exact Nat.le_trans (List.length_filter_le _ _) (by simp)
theorem fibL_yes {l : List Int} {c m : Nat} (h : nth l m = c) : fibL l c (m + 1) = fibL l c m ++ [(m : Int)] := by simp [fibL, List.range_succ, h]
theorem fibL_no {l : List Int} {c m : Nat} (h : nth l m ≠ c) : fibL l c (m + 1) = fibL l c m := by simp [fibL, List.range_succ, h]
theorem fibsAt_succ {l : List Int} {k m t : Nat} (h : nth l m = t) (ht : t < k) : fibsAt l k (m + 1) = (fibsAt l k m).set t (nthL (fibsAt l k m) t ++ [(m : Int)]) := by
  apply ext_nthL (by simp [fibsAt])
  intro i hi
  rw [fibsAt_length] at hi
  rw [nthL_set (by rw [fibsAt_length]; exact ht), nthL_fibsAt hi, nthL_fibsAt ht]
  by_cases e : i = t
  · subst e; rw [if_pos rfl, fibL_yes h]
  · rw [if_neg e, nthL_fibsAt hi, fibL_no (by rw [h]; omega)]
theorem fibsAt_zero (l : List Int) (k : Nat) : fibsAt l k 0 = List.replicate k [] := by
  apply ext_nthL (by simp [fibsAt])
  intro i hi
  rw [fibsAt_length] at hi
  rw [nthL_fibsAt hi]
  simp [nthL, hi, fibL]
theorem mem_fibL {l : List Int} {c m : Nat} {x : Int} : x ∈ fibL l c m ↔ ∃ v : Nat, v < m ∧ nth l v = c ∧ x = v := by
  simp only [fibL, List.mem_map, List.mem_filter, List.mem_range, decide_eq_true_eq]
  constructor
  · rintro ⟨v, ⟨a, b⟩, e⟩; exact ⟨v, a, b, e.symm⟩
  · rintro ⟨v, a, b, e⟩; exact ⟨v, ⟨a, b⟩, e.symm⟩
/-- cluster c is empty or lies in two components -/
def badFib (N : NetD) (nodes : List Int) : Bool := decide (nodes.length = 0) || nodes.any fun x => !decide (nth (compAll N) x.toNat = nth (compAll N) (nth nodes 0).toNat)
theorem clusB_eq {N : NetD} {l : List Int} {m : Nat} (hl : l.length = N.ends.length) (h0 : ∀ x ∈ l, 0 ≤ x ∧ x < N.ends.length) (hm : mostI l + 1 = m) : clusB N l = !(List.range m).any fun c => badFib N (fibL l c l.length) := by
  have hmost := mostI_spec l
  have hcomp : ∀ {v : Nat}, v < l.length → nth (compAll N) v = comp N v := fun hv => nth_compAll (by omega)
  cases hb : clusB N l with
  | true =>
    have h := clusB_is hb
    symm
    rw [Bool.not_eq_true', Bool.eq_false_iff]
    intro ha
    obtain ⟨c, hc, hbad⟩ := List.any_eq_true.1 ha
    rw [List.mem_range] at hc
    unfold badFib at hbad
    rw [Bool.or_eq_true] at hbad
    obtain ⟨j, hj, e⟩ := List.mem_iff_getElem.1 (h.full c (by omega))
    rw [← nth_eq hj] at e
    rcases hbad with hbad | hbad
    · have hmem : (j : Int) ∈ fibL l c l.length := mem_fibL.2 ⟨j, hj, e, rfl⟩
      have : fibL l c l.length = [] := List.eq_nil_of_length_eq_zero (by simpa using hbad)
      rw [this] at hmem; cases hmem
    · obtain ⟨x, hx, hne⟩ := List.any_eq_true.1 hbad
      obtain ⟨v, hv, hvc, rfl⟩ := mem_fibL.1 hx
      have hpos : 0 < (fibL l c l.length).length := List.length_pos_of_mem hx
      obtain ⟨v0, hv0, hvc0, e0⟩ := mem_fibL.1 (nth_mem hpos)
      rw [e0, Int.toNat_natCast, Int.toNat_natCast, hcomp hv, hcomp hv0, h.one v v0 (by omega) (by omega) (by rw [hvc, hvc0])] at hne
      simp at hne
  | false =>
    have h := clusB_not hb
    symm
    rw [Bool.not_eq_false', List.any_eq_true]
    apply Classical.byContradiction
    intro hno
    have hgood : ∀ c : Nat, c < m → badFib N (fibL l c l.length) = false := fun c hc => by
      rw [Bool.eq_false_iff]; intro hx; exact hno ⟨c, List.mem_range.2 hc, hx⟩
    refine h ⟨hl, h0, fun k hk => ?_, fun v w hv hw e => ?_⟩
    · have := hgood k (by omega)
      unfold badFib at this
      rw [Bool.or_eq_false_iff] at this
      have hpos : 0 < (fibL l k l.length).length := by
        have h1 := this.1; rw [decide_eq_false_iff_not] at h1; omega
      obtain ⟨v0, hv0, hvc0, e0⟩ := mem_fibL.1 (nth_mem hpos)
      rw [← hvc0]; exact nth_mem hv0
    · have hvl : v < l.length := by omega
      have hlow := h0 _ (nth_mem hvl)
      have hle := hmost.2.1 _ (nth_mem hvl)
      have hg := hgood (nth l v).toNat (by omega)
      have hvm : (v : Int) ∈ fibL l (nth l v).toNat l.length := mem_fibL.2 ⟨v, hvl, by omega, rfl⟩
      have hwm : (w : Int) ∈ fibL l (nth l v).toNat l.length := mem_fibL.2 ⟨w, by omega, by omega, rfl⟩
      unfold badFib at hg
      rw [Bool.or_eq_false_iff] at hg
      have hall := hg.2
      rw [List.any_eq_false] at hall
      have a1 := hall _ hvm
      have a2 := hall _ hwm
      simp only [Bool.not_eq_true', decide_eq_false_iff_not, Classical.not_not] at a1 a2
      rw [← a2, Int.toNat_natCast, Int.toNat_natCast, hcomp hvl, hcomp (v := w) (by omega)] at a1
      omega
theorem clus_all {N : NetD} {l : List Int} (h : (l.all fun x => inB x 0 ((N.ends.length : Int) - 1)) = true) : ∀ x ∈ l, 0 ≤ x ∧ x < N.ends.length := fun x hx => by
  have := inB_le (List.all_eq_true.1 h x hx); omega

set_option maxHeartbeats 4000000 in
set_option maxRecDepth 100000 in
theorem fibres_any (v1 : Value) (l : List Int) (lo1 hi1 : Nat) (k : Nat) (w : World) (h1 : IntS w lo1 hi1 v1 l) (hh1 : hi1 ≤ w.heap.size) (hl : l.length ≤ 1048576) (hk : k ≤ 1048576) (hi : ∀ j, j < l.length → ∃ t : Nat, nth l j = t ∧ t < k) :
    Calls Try.prog 95 #[v1, .int .i64 (k : Nat)] w fun e w' => ∃ r, e = .returned (r) ∧ IntSS w' w.heap.size w'.heap.size r (fibsAt l k l.length) ∧ Below w.heap.size w w' := by
  have HI := Lib.hid hi; clear hi
  have hmk := fun W => run_make_row' (P := Try.prog) 63 23 (.slice none 0 0) 24 Try.underlying63 Try.infoRow rfl .i64 .i64 k (by omega) (by omega) W
  have F1 := Lib.hid h1
  obtain ⟨A1, c1, rfl, hc1, hd1⟩ := h1.dims
  clear h1
  go_enter Try.func95, Try.ntmps95
  go_upto_region 2 with (fail)
  clear hmk
  refine nameC ?_
  intro W1 HW1
  have hg1 : w.grownBy W1 none := by rw [HW1.out]; exact grown_alloc _ _
  have hs1 := hg1.size
  have HF1 := Lib.hid ((Turned.refl w.heap.size w.heap.size w).still hg1)
  have HGR := Lib.hid (show Gro W1 w.heap.size 3 (fibsAt l k 0) by rw [HW1.out, fibsAt_zero]; exact Gro.made w k _ _ rfl (by omega))
  have hz : w.heap.size + 1 ≤ W1.heap.size := by rw [HW1.out]; simp
  clear HW1
  go_wp2_with fail
  go_loopw [12] (fun i wr => ∃ (m : Nat), m ≤ l.length ∧ i = .int .i64 m ∧ Hid (Gro wr w.heap.size 3 (fibsAt l k m)) ∧ w.heap.size + 1 ≤ wr.heap.size ∧ Hid (Turned w.heap.size w.heap.size w wr)) (fun i _ => l.length - (intOf i).toNat)
  case atStart => exact ⟨0, Nat.zero_le _, rfl, HGR, hz, HF1⟩
  case round =>
    clear HF1
    obtain ⟨m, hm, rfl, HG, hz, HF2⟩ := hrel
    have hs2 := HF2.out.size
    by_cases hml : m < l.length
    case neg =>
      obtain rfl : m = l.length := by omega
      have HR := Lib.hid (HG.out.ssx.ss)
      rw [fibsAt_length] at HR
      go_wp2_with fail
      go_ret
      exact ⟨_, rfl, HR.out, (HF2.out.below_of (Below.refl _ _) (by omega) (by omega))⟩
    obtain ⟨t, et, htk⟩ := HI.out m hml
    have HS := Lib.hid (fibsAt_succ et htk)
    have ET := Lib.hid et; clear et
    obtain ⟨be, oe, rfl, _, hbe', xe, _⟩ := (IntS.turned F1.out HF2.out (by omega) (by omega)).opened hml
    rw [ET.out] at xe
    obtain ⟨u, hu1, hu2, hu3, hu4, hu5⟩ := HG.out.open_ (i := t) (by rw [fibsAt_length]; exact htk)
    have hfl := fibL_len l t m
    obtain ⟨Au, cu, rfl, hcu, hdu⟩ := hu3.ints.dims
    rw [nthL_fibsAt htk] at hcu hu3 hu1 hu5
    have hlv := hu3.lt
    have HU3 := Lib.hid hu3
    have HU5 := Lib.hid hu5
    have hti : (t : Int) < k := by omega
    clear hu3 hu5
    rw [nthL_fibsAt htk] at HS
    go_wp2_with (at_builtin; refine append_int (s := .tmp 22) Try.underlying23 Try.info3 (by decide) wr rfl _ rfl HU3.out m _ rfl (by simp [Act.eval, go_sem]) (by omega) (by omega) ?_; intro v' w' ho' hg' hat'; have kc : w'.cell? ⟨w.heap.size, t, none⟩ = some (.slice Au (fibL l t m).length cu) := (World.cell?_of_block (a := ⟨w.heap.size, t, none⟩) (hg'.block w.heap.size (by omega) (fun e => by have := hlv _ e.symm; omega))).trans hu1; have kf : w'.frozen? ⟨w.heap.size, t, none⟩ = false := (World.frozen?_of_block (a := ⟨w.heap.size, t, none⟩) (hg'.block w.heap.size (by omega) (fun e => by have := hlv _ e.symm; omega))).trans hu2; have hd9 : ∃ A c, v' = .slice A ((fibL l t m).length + 1) c := (by obtain ⟨A, c, e, _, _⟩ := ho'.ints.dims; exact ⟨A, c, by simp [e]⟩); obtain ⟨Av, cv, rfl⟩ := hd9; have HO' := Lib.hid ho')
    go_roundw
    case rel =>
      have hgs := hg'.size
      refine ⟨m + 1, by omega, by go_num, ?_, by rw [size_setCell]; omega, Lib.hid ((HF2.out.grown hg' fun g hg => .inr (by have := hlv g hg; omega)).grown (grown_set _ _ _) fun g hg => .inr (by cases hg; show w.heap.size ≤ w.heap.size; omega))⟩
      rw [HS.out]
      exact Lib.hid (HU5.out _ _ _ HO'.out hg' hat')
    case measure => simp [intOf]; omega

set_option maxHeartbeats 1000000 in
theorem cl11_any (s t g1 g2 : Nat) (N : NetD) (nodes : List Int) (V1 V2 : Value) (lo1 hi1 lo2 hi2 : Nat) (w : World) (x1 : w.cell? ⟨g1, 0, none⟩ = some V1) (x2 : w.cell? ⟨g2, 0, none⟩ = some V2) (h1 : IntS w lo1 hi1 V1 (compAll N)) (h2 : IntS w lo2 hi2 V2 nodes)
    (hs : s < N.ends.length) (ht : t < N.ends.length) (hn : 0 < nodes.length) (h0 : nth nodes 0 = t) (hn4 : N.ends.length ≤ 40) :
    Calls Try.prog 98 #[.int .i64 s, .pointer (some ⟨g1, 0, none⟩), .pointer (some ⟨g2, 0, none⟩)] w fun e w' => e = .returned (.bool (!decide (nth (compAll N) s = nth (compAll N) t))) ∧ Below w.heap.size w w' := by
  obtain ⟨A1, c1, rfl, hc1, hd1⟩ := h1.dims
  obtain ⟨A2, c2, rfl, hc2, hd2⟩ := h2.dims
  obtain ⟨b1, o1, rfl, _, _, y1, _⟩ := h1.opened (j := s) (by rw [compAll_length]; exact hs)
  have y3 := (h1.at_ (j := t) (by rw [compAll_length]; exact ht)).1
  obtain ⟨b2, o2, rfl, _, _, y2, _⟩ := h2.opened hn
  rw [h0] at y2
  rw [compAll_length] at x1 hc1
  obtain ⟨p, hp⟩ : ∃ p, Hid (nth (compAll N) s = p) := ⟨_, Lib.hid rfl⟩
  obtain ⟨q, hq⟩ : ∃ q, Hid (nth (compAll N) t = q) := ⟨_, Lib.hid rfl⟩
  rw [hp.out] at y1 ⊢
  rw [hq.out] at y3 ⊢
  rw [Nat.add_zero] at y2
  have hsi : (s : Int) < N.ends.length := by omega
  have hti : (t : Int) < N.ends.length := by omega
  have hnl : (0 : Int) < nodes.length := by omega
  have HH := Lib.hid h0
  clear h1 h2 h0
  cases hpq : (p != q) with
  | true =>
    have HPQ := Lib.hid (show (!decide (p = q)) = true by simpa using hpq)
    go_enter Try.func98, Try.ntmps98
    go_wp2_with fail
    go_quiet (fail)
    go_wp2_with fail
    go_ret
    exact ⟨ret_bool HPQ.out.symm, below_drewN (Below.refl _ _) _⟩
  | false =>
    have HPQ := Lib.hid (show (!decide (p = q)) = false by simpa using hpq)
    go_enter Try.func98, Try.ntmps98
    go_wp2_with fail
    go_quiet (fail)
    go_wp2_with fail
    go_ret
    exact ⟨ret_bool HPQ.out.symm, below_drewN (Below.refl _ _) _⟩
set_option maxHeartbeats 4000000 in
theorem cl1_any (g1 : Nat) (N : NetD) (nodes : List Int) (V1 V2 : Value) (lo1 hi1 lo2 hi2 : Nat) (w : World) (x1 : w.cell? ⟨g1, 0, none⟩ = some V1) (hg1 : g1 < w.heap.size) (h1 : IntS w lo1 hi1 V1 (compAll N)) (hh1 : hi1 ≤ w.heap.size) (h2 : IntS w lo2 hi2 V2 nodes) (hh2 : hi2 ≤ w.heap.size)
    (hn4 : N.ends.length ≤ 40) (hnode : ∀ x ∈ nodes, ∃ t : Nat, x = t ∧ t < N.ends.length) :
    Calls Try.prog 96 #[V2, .pointer (some ⟨g1, 0, none⟩)] w fun e w' => e = .returned (.bool (badFib N nodes)) ∧ Below w.heap.size w w' := by
  have hmf : ∀ (fn : Fn) (first cap : Array Value) (w : World), (Instr.makeFunc fn first cap).run Try.prog w = .ok (.func fn first cap) w := fun _ _ _ _ => rfl
  obtain ⟨A2, c2, rfl, hc2, hd2⟩ := h2.dims
  obtain ⟨WA, HWA⟩ : ∃ W, Hid (W = w.alloc (.cells #[.slice A2 nodes.length c2] 23)) := ⟨_, Lib.hid rfl⟩
  have hbA : Below w.heap.size w WA := by rw [HWA.out]; exact below_a1 _ _
  have hsA : w.heap.size + 1 ≤ WA.heap.size := by rw [HWA.out]; simp
  have bx : BoxN WA w.heap.size #[.slice A2 nodes.length c2] 23 := by rw [HWA.out]; exact BoxN.new _ _ _
  have G1 := Lib.hid (h1.below hbA hh1)
  have G2 := Lib.hid (h2.below hbA hh2)
  have z1 : WA.cell? ⟨g1, 0, none⟩ = some V1 := (hbA.cell (p := ⟨g1, 0, none⟩) hg1).trans x1
  have z2 : WA.cell? ⟨w.heap.size, 0, none⟩ = some (.slice A2 nodes.length c2) := bx.cell 0 (by simp)
  have HN := Lib.hid hnode
  clear h1 h2 hnode
  by_cases hz : nodes.length = 0
  · have hz' : ((nodes.length : Int) == 0) = true := by simpa using hz
    have HZ := Lib.hid (show badFib N nodes = true by unfold badFib; rw [decide_eq_true hz]; rfl)
    clear hz
    go_enter Try.func96, Try.ntmps96
    go_upto_region 1 with (fail)
    rw [← HWA.out]; clear HWA
    go_wp2_with fail
    go_ret
    exact ⟨ret_bool HZ.out.symm, hbA⟩
  · have hz' : ((nodes.length : Int) == 0) = false := by simpa using hz
    have hpos : 0 < nodes.length := by omega
    obtain ⟨t, h0, ht⟩ := HN.out _ (nth_mem hpos)
    have HZ := Lib.hid (show badFib N nodes = nodes.any fun x => !decide (nth (compAll N) x.toNat = nth (compAll N) t) by unfold badFib; rw [decide_eq_false hz, h0, Int.toNat_natCast]; rfl)
    have H0 := Lib.hid h0
    clear hz h0
    have HCF := Lib.hid (ContainsFunc_int 98 #[.pointer (some ⟨g1, 0, none⟩), .pointer (some ⟨w.heap.size, 0, none⟩)] (enters_of Try.func98 (by kernel_rfl) rfl) (fun x => !decide (nth (compAll N) x.toNat = nth (compAll N) t)) _ nodes _ _ _ G2.out (by omega) (fun x hx W hW => by
      obtain ⟨s, rfl, hs⟩ := HN.out x hx
      rw [Int.toNat_natCast]
      exact cl11_any s t g1 w.heap.size N nodes _ _ _ _ _ _ W ((hW.cell (p := ⟨g1, 0, none⟩) (by show g1 < _; omega)).trans z1) ((hW.cell (p := ⟨w.heap.size, 0, none⟩) (by show w.heap.size < _; omega)).trans z2) (G1.out.below hW (by omega)) (G2.out.below hW (by omega)) hs ht hpos H0.out hn4))
    go_enter Try.func96, Try.ntmps96
    go_upto_region 1 with (fail)
    rw [← HWA.out]; clear HWA
    go_wp2_with (go_at_call 97; refine HCF.out.mono ?_; rintro e w' ⟨rfl, hb'⟩)
    go_ret
    exact ⟨ret_bool HZ.out.symm, hbA.trans (hb'.mono (by omega))⟩

set_option maxHeartbeats 4000000 in
set_option maxRecDepth 100000 in
theorem isClustering_any (v1 : Value) (N : NetD) (lo1 hi1 : Nat) (v2 : Value) (l : List Int) (lo2 hi2 : Nat) (w : World) (h1 : Net w lo1 hi1 v1 N) (hh1 : hi1 ≤ w.heap.size) (h2 : IntS w lo2 hi2 v2 l) (hh2 : hi2 ≤ w.heap.size) (hg : N.good = true) (hz : l.length ≤ 1048576) :
    Calls Try.prog 80 #[v1, v2] w fun e w' => e = .returned (.bool (clusB N l)) ∧ Below w.heap.size w w' := by
  obtain ⟨n1, n40⟩ := good_n hg
  have HG := Lib.hid hg; clear hg
  have hmf : ∀ (fn : Fn) (first cap : Array Value) (w : World), (Instr.makeFunc fn first cap).run Try.prog w = .ok (.func fn first cap) w := fun _ _ _ _ => rfl
  have F1 := Lib.hid h1
  obtain ⟨A1, c1, A1', c1', A1'', c1'', rfl, hc1, hd1, _⟩ := h1.parts
  obtain ⟨b1, o1, _, _, rfl, _⟩ := Net.rowAt F1.out (u := 0) (by omega)
  clear h1
  have F2 := Lib.hid h2
  obtain ⟨A2, c2, rfl, hc2, hd2⟩ := h2.dims
  clear h2
  obtain ⟨WA, HWA⟩ : ∃ W, Hid (W = (w.alloc (.cells #[.slice (some ⟨b1, o1, none⟩) N.ends.length c1, .slice A1' N.ids.length c1', .slice A1'' N.inputs.length c1''] 34))) := ⟨_, Lib.hid rfl⟩
  have hbA : Below w.heap.size w WA := by rw [HWA.out]; exact ((Below.refl _ _).alloc (Nat.le_refl _) _)
  have hsA : w.heap.size + 1 ≤ WA.heap.size := by rw [HWA.out]; simp; try omega
  have bx1 : BoxN WA (w.heap.size) #[.slice (some ⟨b1, o1, none⟩) N.ends.length c1, .slice A1' N.ids.length c1', .slice A1'' N.inputs.length c1''] 34 := by rw [HWA.out]; exact (BoxN.new' _ _ _ (by simp))
  have G1 := Lib.hid (Net.below F1.out hbA hh1); clear F1
  have G2 := Lib.hid (IntS.below F2.out hbA hh2); clear F2
  go_enter Try.func80, Try.ntmps80
  go_upto_region 1 with (fail)
  rw [← HWA.out]; clear HWA
  have kbx1_0 : WA.cell? ⟨w.heap.size, 0, none⟩ = some (.slice (some ⟨b1, o1, none⟩) N.ends.length c1) := bx1.cell 0 (by simp)
  have kbx1_1 : WA.cell? ⟨w.heap.size, 1, none⟩ = some (.slice A1' N.ids.length c1') := bx1.cell 1 (by simp)
  have kbx1_2 : WA.cell? ⟨w.heap.size, 2, none⟩ = some (.slice A1'' N.inputs.length c1'') := bx1.cell 2 (by simp)
  by_cases hl : l.length = N.ends.length
  case neg =>
    have hl' : ((l.length : Int) != (N.ends.length : Int)) = true := by simp; omega
    have HL := Lib.hid (clusB_no (N := N) (l := l) fun h => hl h.len); clear hl
    go_wp2_with fail
    go_ret
    exact ⟨ret_bool HL.out.symm, hbA⟩
  have hl' : ((l.length : Int) != (N.ends.length : Int)) = false := by simp; omega
  have HL := Lib.hid hl
  have hle : N.ends.length ≤ l.length := by omega
  have hle2 : l.length ≤ N.ends.length := by omega
  clear hl
  go_wp2_with fail
  clear kbx1_0 kbx1_1 kbx1_2
  refine (allWithin_any _ l 0 ((N.ends.length : Int) - 1) _ _ _ G2.out (by omega)).mono ?_
  rintro e W1 ⟨rfl, hb1⟩
  have hg1 := grown_below hb1; clear hb1
  have hs1 := hg1.size
  have HF1 := Lib.hid ((Turned.refl WA.heap.size WA.heap.size WA).still hg1)
  cases hok : l.all (fun x => inB x 0 ((N.ends.length : Int) - 1)) with
  | false =>
    have HOK := Lib.hid (clusB_no (N := N) (l := l) fun h => by rw [Bool.eq_false_iff] at hok; exact hok (List.all_eq_true.2 fun x hx => by have := h.low x hx; exact inB_true (by omega) (by omega))); clear hok
    go_wp2_with fail
    go_ret
    exact ⟨ret_bool HOK.out.symm, (HF1.out.below_of hbA (by omega) (by omega))⟩
  | true =>
    have HLOW := Lib.hid (clus_all hok); clear hok
    obtain ⟨m, hm⟩ : ∃ m : Nat, mostI l + 1 = m := ⟨(mostI l + 1).toNat, by have := (mostI_spec l).1; omega⟩
    have hmn : m ≤ N.ends.length := by
      obtain ⟨a, b, c⟩ := mostI_spec l
      rcases c with c | c
      · omega
      · have := HLOW.out _ c; omega
    have HM := Lib.hid hm; clear hm
    have HCB := Lib.hid (clusB_eq HL.out HLOW.out HM.out)
    have kbx1_0 : W1.cell? ⟨w.heap.size, 0, none⟩ = some (.slice (some ⟨b1, o1, none⟩) N.ends.length c1) := (HF1.out.boxN bx1 (by omega)).cell 0 (by simp)
    have kbx1_1 : W1.cell? ⟨w.heap.size, 1, none⟩ = some (.slice A1' N.ids.length c1') := (HF1.out.boxN bx1 (by omega)).cell 1 (by simp)
    have kbx1_2 : W1.cell? ⟨w.heap.size, 2, none⟩ = some (.slice A1'' N.inputs.length c1'') := (HF1.out.boxN bx1 (by omega)).cell 2 (by simp)
    go_wp2_with fail
    clear kbx1_0 kbx1_1 kbx1_2
    refine (components_any _ N lo1 hi1 _ (Net.turned G1.out HF1.out (by omega) (by omega)) (by omega) HG.out).mono ?_
    rintro e W2 ⟨ro, rfl, hro, hb2⟩
    have hg2 := grown_below hb2; clear hb2
    have hs2 := hg2.size
    have HF2 := Lib.hid (HF1.out.still hg2); clear HF1
    have C2 := Lib.hid hro; clear hro
    obtain ⟨Ac, cc, rfl, hcc, hdc⟩ := C2.out.dims
    rw [compAll_length] at hcc C2 ⊢
    go_upto_region 4 with (fail)
    refine nameC ?_
    intro W3 HW3
    have hg3 : W2.grownBy W3 none := by rw [HW3.out]; exact grown_alloc _ _
    have hs3 := hg3.size
    have HF3 := Lib.hid (HF2.out.still hg3); clear HF2
    have C3 := Lib.hid (IntS.still C2.out hg3 (by omega)); clear C2
    have bxc := Lib.hid (show BoxN W3 W2.heap.size #[.slice Ac N.ends.length cc] 23 by rw [HW3.out]; exact BoxN.new _ _ _)
    clear HW3
    have N_3 := Lib.hid (Net.turned G1.out HF3.out (by omega) (by omega)); clear G1
    have l_3 := Lib.hid (IntS.turned G2.out HF3.out (by omega) (by omega)); clear G2
    have bx1_3 := HF3.out.boxN bx1 (by omega); clear bx1
    have hbA3 := (HF3.out.below_of hbA (by omega) (by omega)); clear hbA HF3
    go_wp2_with fail
    refine (classCount_any _ l _ _ _ l_3.out (by omega) (fun x hx => (HLOW.out x hx).1) (fun x hx => by have := (HLOW.out x hx).2; omega)).mono ?_
    rintro e w' ⟨rfl, rfl⟩
    rw [HM.out]
    go_wp2_with fail
    refine (fibres_any _ l _ _ m _ l_3.out (by omega) (by omega) (by omega) (fun j hj => by have h1 := HLOW.out _ (nth_mem hj); have h2 := (mostI_spec l).2.1 _ (nth_mem hj); have h3 := HM.out; exact ⟨(nth l j).toNat, by omega, by omega⟩)).mono ?_
    rintro e W4 ⟨rf, rfl, hrf, hb4⟩
    have hg4 := grown_below hb4; clear hb4
    have hs4 := hg4.size
    have HF4 := Lib.hid ((Turned.refl W3.heap.size W3.heap.size W3).still hg4)
    have Fb4 := Lib.hid hrf; clear hrf
    obtain ⟨Af, cf, rfl, hcf, hdf⟩ := Fb4.out.dims
    rw [fibsAt_length] at hcf ⊢
    have c9 := Lib.hid (IntS.turned C3.out HF4.out (by omega) (by omega))
    have b9 := Lib.hid (HF4.out.boxN bxc.out (by omega))
    have f9 := Lib.hid Fb4.out
    have HCF := Lib.hid (ContainsFunc_row 96 #[.pointer (some ⟨W2.heap.size, 0, none⟩)] (enters_of Try.func96 (by kernel_rfl) rfl) (fun c => badFib N (fibL l c l.length)) _ (fibsAt l m l.length) _ _ _ f9.out (Nat.le_refl _) (fun c u hc W hW hu => by
      rw [fibsAt_length] at hc
      rw [nthL_fibsAt hc] at hu
      have hws := hW.size
      have l9 := b9.out.lt
      exact cl1_any W2.heap.size N (fibL l c l.length) _ _ _ _ _ _ W ((b9.out.below hW l9).cell 0 (by simp)) (by omega) (c9.out.below hW (by omega)) (by omega) hu (by omega) (by omega) (fun x hx => by
        obtain ⟨v, hv, _, e⟩ := mem_fibL.1 hx
        exact ⟨v, e, by omega⟩)))
    rw [fibsAt_length] at HCF
    clear c9 b9 f9
    go_wp2_with fail
    refine (HCF.out).mono ?_
    rintro e W5 ⟨rfl, hb5⟩
    have hg5 := grown_below hb5; clear hb5
    have hs5 := hg5.size
    have HF5 := Lib.hid (HF4.out.still hg5); clear HF4
    have Fb5 := Lib.hid (ISS.still Fb4.out hg5 (by omega)); clear Fb4
    have HR := Lib.hid HCB.out; clear HCB
    cases hany : (List.range m).any (fun c => badFib N (fibL l c l.length)) with
    | true =>
      rw [hany] at HR; clear hany
      go_wp2_with fail
      go_ret
      exact ⟨ret_bool HR.out.symm, (HF5.out.below_of hbA3 (by omega) (by omega))⟩
    | false =>
      rw [hany] at HR; clear hany
      go_wp2_with fail
      go_ret
      exact ⟨ret_bool HR.out.symm, (HF5.out.below_of hbA3 (by omega) (by omega))⟩

end Go.Proofs.Ytcmmklcampmkjaa
