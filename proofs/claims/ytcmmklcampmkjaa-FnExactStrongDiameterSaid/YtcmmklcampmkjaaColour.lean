/-
  Contracts: greedy colours of nodes in an order, near and at distances (program and reference).
-/
import Derived.Test.YtcmmklcampmkjaaPerm
import Derived.Test.YtcmmklcampmkjaaPeelP
namespace Go.Proofs.Ytcmmklcampmkjaa
open Go.ChangeShapes Go.WideShapes Go.ChangeAt Go.RowKit
set_option linter.unusedVariables false

def gcStep (N : NetD) (out : List Int) (v : Int) : List Int := out.set v.toNat (lf (nears N v.toNat out))
def negs (n : Nat) : List Int := List.replicate n (-1)
theorem negs_length (n : Nat) : (negs n).length = n := by simp [negs]
def gcAll (N : NetD) (zs : List Int) : List Int := zs.foldl (gcStep N) (negs N.ends.length)
def gcOut (N : NetD) (zs : List Int) : List Int := if orderB N zs = true then gcAll N zs else []
theorem foldl_takeI {β : Type} (f : β → Int → β) (l : List Int) (x : β) {k : Nat} (hk : k < l.length) : (l.take (k + 1)).foldl f x = f ((l.take k).foldl f x) (nth l k) := by
  rw [List.take_succ_eq_append_getElem hk, List.foldl_append, nth_eq hk]; rfl
theorem set_foldl_len {f : List Int → Int → List Int} (hf : ∀ o v, (f o v).length = o.length) (zs : List Int) (x : List Int) : (zs.foldl f x).length = x.length := by
  induction zs generalizing x with
  | nil => rfl
  | cons z zs ih => rw [List.foldl_cons, ih, hf]
theorem gcAll_len (N : NetD) (zs : List Int) : (gcAll N zs).length = N.ends.length := by
  unfold gcAll; rw [set_foldl_len (fun o v => by simp [gcStep]), negs_length]
theorem gcOut_len (N : NetD) (zs : List Int) : (gcOut N zs).length ≤ N.sz := by
  unfold gcOut NetD.sz szSS; split
  · rw [gcAll_len]; omega
  · exact Nat.zero_le _
theorem orderB_parts {N : NetD} {zs : List Int} (h : orderB N zs = true) : N.good = true ∧ permB zs N.ends.length = true := by
  unfold orderB at h; rwa [Bool.and_eq_true] at h
def thruL (l at_ : List Int) : List Int := at_.map fun x => nth l x.toNat
def lessL (l less : List Int) : List Int := l.filter fun x => !decide (x ∈ less)
theorem thruL_length (l at_ : List Int) : (thruL l at_).length = at_.length := by simp [thruL]
theorem lessL_le (l less : List Int) : (lessL l less).length ≤ l.length := List.length_filter_le _ _
/-- the neighbours but the node itself -/
def seen (N : NetD) (v : Nat) : List Int := (nbs N v).filter fun x => !decide (x = (v : Int))
theorem seen_len (N : NetD) (v : Nat) : (seen N v).length ≤ (nthL N.ends v).length := by rw [← nbs_length]; exact List.length_filter_le _ _
theorem lf_seen {N : NetD} {v : Nat} {out : List Int} (hv : nth out v = -1) : lf (thruL out (seen N v)) = lf (nears N v out) := by
  apply lf_congr
  intro x hx
  unfold thruL seen nears
  simp only [List.mem_map, List.mem_filter, Bool.not_eq_true', decide_eq_false_iff_not]
  constructor
  · rintro ⟨w, ⟨h1, _⟩, e⟩; exact ⟨w, h1, e⟩
  · rintro ⟨w, h1, e⟩
    refine ⟨w, ⟨h1, fun h => ?_⟩, e⟩
    rw [h, Int.toNat_natCast, hv] at e
    omega
/-- what the reference's list is, and that nodes to come have no colour yet -/
theorem gc_fresh {f : List Int → Int → List Int} (hl : ∀ o v, (f o v).length = o.length) (hf : ∀ o v (j : Nat), (j : Int) ≠ v → 0 ≤ v → nth (f o v) j = nth o j) {zs : List Int} {n : Nat} (hp : permB zs n = true) : ∀ k, k ≤ zs.length → ∀ t : Nat, t < n → (t : Int) ∉ zs.take k → nth ((zs.take k).foldl f (negs n)) t = -1
  | 0, _, t, ht, _ => by show nth (negs n) t = -1; exact nth_replicate _ _ ht
  | k + 1, hk, t, ht, hm => by
    rw [foldl_takeI _ _ _ (by omega)]
    rw [List.take_succ_eq_append_getElem (by omega)] at hm
    simp only [List.mem_append, List.mem_singleton, not_or] at hm
    obtain ⟨s, es, hs, _⟩ := perm_at hp (k := k) (by omega)
    rw [hf _ _ t (by rw [nth_eq (by omega)]; exact hm.2) (by rw [es]; omega)]
    exact gc_fresh hl hf hp k (by omega) t ht hm.1
theorem gcStep_other (N : NetD) (o : List Int) (v : Int) (j : Nat) (h : (j : Int) ≠ v) (h0 : 0 ≤ v) : nth (gcStep N o v) j = nth o j := by
  unfold gcStep
  by_cases hl : v.toNat < o.length
  · rw [nth_set _ _ _ _ hl, if_neg (by omega)]
  · rw [List.set_eq_of_length_le (by omega)]
def usedOf (ds out : List Int) (k : Int) (m : Nat) : List Int := ((List.range m).filter fun w => inB (nth ds w) 1 k).map fun w => nth out w
theorem used_yes {ds out : List Int} {k : Int} {m : Nat} (h : inB (nth ds m) 1 k = true) : usedOf ds out k (m + 1) = usedOf ds out k m ++ [nth out m] := by simp [usedOf, List.range_succ, h]
theorem used_no {ds out : List Int} {k : Int} {m : Nat} (h : inB (nth ds m) 1 k = false) : usedOf ds out k (m + 1) = usedOf ds out k m := by simp [usedOf, List.range_succ, h]
def gdStep (N : NetD) (k : Int) (out : List Int) (v : Int) : List Int := out.set v.toNat (lf (usedOf (dist N v.toNat) out k N.ends.length))
def gdAll (N : NetD) (zs : List Int) (k : Int) : List Int := zs.foldl (gdStep N k) (negs N.ends.length)
def gdOk (N : NetD) (zs : List Int) (k : Int) : Bool := orderB N zs && inB k 1 40
def gdOut (N : NetD) (zs : List Int) (k : Int) : List Int := if gdOk N zs k = true then gdAll N zs k else []
theorem gdOut_len (N : NetD) (zs : List Int) (k : Int) : (gdOut N zs k).length ≤ N.sz := by
  unfold gdOut NetD.sz szSS; split
  · unfold gdAll; rw [set_foldl_len (fun o v => by simp [gdStep]), negs_length]; omega
  · exact Nat.zero_le _

set_option maxHeartbeats 4000000 in
set_option maxRecDepth 100000 in
theorem deLess_any (v1 : Value) (l : List Int) (lo1 hi1 : Nat) (v2 : Value) (less : List Int) (lo2 hi2 : Nat) (w : World) (h1 : IntS w lo1 hi1 v1 l) (hh1 : hi1 ≤ w.heap.size) (h2 : IntS w lo2 hi2 v2 less) (hh2 : hi2 ≤ w.heap.size) (hz : l.length ≤ 1048576) :
    Calls Try.prog 64 #[v1, v2] w fun e w' => ∃ r, e = .returned (r) ∧ IntS w' w.heap.size w'.heap.size r (lessL l less) ∧ Below w.heap.size w w' := by
  have F1 := Lib.hid h1
  obtain ⟨A1, c1, rfl, hc1, hd1⟩ := h1.dims
  clear h1
  have F2 := Lib.hid h2
  obtain ⟨A2, c2, rfl, hc2, hd2⟩ := h2.dims
  clear h2
  go_enter Try.func64, Try.ntmps64
  go_wp2_with fail
  go_loopw [10, 5] (fun i ov wr => ∃ (m : Nat) (zs : List Int), m ≤ l.length ∧ i = .int .i64 m ∧ Hid (OwnI wr w.heap.size 3 ov zs) ∧ Hid (zs = (l.take m).filter fun x => !decide (x ∈ less)) ∧ zs.length ≤ m ∧ Hid (Turned w.heap.size w.heap.size w wr)) (fun i ov _ => l.length - (intOf i).toNat)
  case atStart => exact ⟨0, [], Nat.zero_le _, rfl, Lib.hid (OwnI.nil _ _ _), Lib.hid rfl, Nat.zero_le _, Lib.hid (Turned.refl w.heap.size w.heap.size w)⟩
  case round =>
    obtain ⟨m, zs, hm, rfl, HO, HD, hl, HF1⟩ := hrel
    have hs1 := HF1.out.size
    by_cases hml : m < l.length
    case neg =>
      obtain rfl : m = l.length := by omega
      go_wp2_with fail
      go_ret
      refine ⟨_, rfl, ?_, (HF1.out.below_of (Below.refl _ _) (by omega) (by omega))⟩
      have e : lessL l less = zs := by rw [HD.out, List.take_length]; rfl
      rw [e]
      exact HO.out.ints
    obtain ⟨be, oe, rfl, _, hbe', xe, _⟩ := (IntS.turned F1.out HF1.out (by omega) (by omega)).opened hml
    have HT := Lib.hid (show (l.take (m + 1)).filter (fun x => !decide (x ∈ less)) = zs ++ if decide (nth l m ∈ less) = true then [] else [nth l m] by rw [List.take_succ_eq_append_getElem hml, List.filter_append, ← HD.out, ← nth_eq hml]; by_cases h : nth l m ∈ less <;> simp [h])
    obtain ⟨x, HX⟩ : ∃ x, Hid (nth l m = x) := ⟨_, Lib.hid rfl⟩
    rw [HX.out] at xe HT
    have hlv := HO.out.lt
    cases hm2 : decide (x ∈ less) with
    | true =>
      have HM := Lib.hid hm2; clear hm2
      go_wp2_with (go_at_call 51; refine (l1Has_any _ less _ _ _ _ (IntS.turned F2.out HF1.out (by omega) (by omega))).mono ?_; rintro e w' ⟨rfl, rfl⟩; rw [HM.out])
      go_roundw
      case rel => exact ⟨m + 1, zs, by omega, by go_num, HO, Lib.hid (by rw [HT.out, HM.out]; simp), by omega, HF1⟩
      case measure => simp [intOf]; omega
    | false =>
      have HM := Lib.hid hm2; clear hm2
      go_wp2_with (first | (go_at_call 51; refine (l1Has_any _ less _ _ _ _ (IntS.turned F2.out HF1.out (by omega) (by omega))).mono ?_; rintro e w' ⟨rfl, rfl⟩; rw [HM.out]) | (at_builtin; refine append_int (s := .tmp 18) Try.underlying23 Try.info3 (by decide) wr rfl _ rfl HO.out x _ rfl (by simp [Act.eval, go_sem]) (by omega) (by omega) ?_; intro v' w' ho' hg' hat'))
      go_roundw
      case rel => exact ⟨m + 1, _, by omega, by go_num, Lib.hid ho', Lib.hid (by rw [HT.out, HM.out]; simp), by simp; omega, Lib.hid (HF1.out.grown hg' fun g hg => .inr (hlv g hg).1)⟩
      case measure => simp [intOf]; omega

theorem seen_node {N : NetD} (hg : N.good = true) {v j : Nat} (hv : v < N.ends.length) (hj : j < (seen N v).length) : ∃ t : Nat, nth (seen N v) j = t ∧ t < N.ends.length := by
  have hm := nth_mem hj
  unfold seen at hm
  rw [List.mem_filter] at hm
  obtain ⟨i, hi, e⟩ := List.mem_iff_getElem.1 hm.1
  rw [nbs_length] at hi
  rw [← nth_eq, nth_nbs N v hi] at e
  obtain ⟨t, r, et, ht, _⟩ := good_end hg hv hi
  rw [et] at e
  exact ⟨t, e.symm, ht⟩

end Go.Proofs.Ytcmmklcampmkjaa
