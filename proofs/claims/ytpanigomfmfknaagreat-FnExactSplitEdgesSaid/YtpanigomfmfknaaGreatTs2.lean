/-
  Contracts: how ports compare, and the insertion sort of trails (reference).
-/
import Derived.Test.YtpanigomfmfknaaGreatTs1
import Derived.Test.YtpanigomfmfknaaGreatTr5
import Derived.Test.YtpanigomfmfknaaGreatExt
import Derived.Laws.AppendOwnNone
namespace Go.Proofs.YtpanigomfmfknaaGreat
open Go.ChangeShapes Go.WideShapes Go.ChangeAt Go.RowKit
set_option linter.unusedVariables false

def sgn (x : Int) : Int := if 0 < x then 1 else if x < 0 then -1 else 0
theorem l1Sign_any (x : Int) (w : World) : Calls Tryz.prog 66 #[.int .i64 x] w fun e w' => e = .returned (.int .i64 (sgn x)) ∧ w = w' := by
  by_cases h1 : 0 < x
  · go_enter Tryz.func66, Tryz.ntmps66
    go_wp2
    go_ret
    exact ⟨ret_int (by unfold sgn; rw [if_pos h1]), rfl⟩
  · by_cases h2 : x < 0
    · go_enter Tryz.func66, Tryz.ntmps66
      go_wp2
      go_ret
      exact ⟨ret_int (by unfold sgn; rw [if_neg (by omega), if_pos h2]), rfl⟩
    · go_enter Tryz.func66, Tryz.ntmps66
      go_wp2
      go_ret
      exact ⟨ret_int (by unfold sgn; rw [if_neg (by omega), if_neg (by omega)]), rfl⟩
def prO : List Int → List Int → Int
  | [], _ => 0
  | _ :: _, [] => 0
  | x :: a, y :: b => if x = y then prO a b else sgn (x - y)
theorem prO_step {a b : List Int} {k : Nat} (h1 : k < a.length) (h2 : k < b.length) : prO (a.drop k) (b.drop k) = if nth a k = nth b k then prO (a.drop (k + 1)) (b.drop (k + 1)) else sgn (nth a k - nth b k) := by
  rw [drop_nth h1, drop_nth h2, prO]
theorem prO_end {a b : List Int} {k : Nat} (h1 : a.length = k) : prO (a.drop k) (b.drop k) = 0 := by
  have e1 : a.drop k = [] := List.drop_eq_nil_of_le (by omega)
  rw [e1, prO]
theorem IntS.takeS {w : World} {lo hi m c : Nat} {A : Option Addr} {zs : List Int} (h : IntS w lo hi (.slice A zs.length c) zs) (hm : m ≤ zs.length) : IntS w lo hi (.slice A m c) (zs.take m) := by
  obtain ⟨A', c', e, h1, h2, h3⟩ := h
  injection e with e1 _ e3
  subst e1 e3
  have hl : (zs.take m).length = m := by rw [List.length_take]; omega
  refine ⟨A, c, by rw [hl], by omega, h2, fun hp => ?_⟩
  rw [hl] at hp
  obtain ⟨b, off, e4, h4, h5, h6⟩ := h3 (by omega)
  refine ⟨b, off, e4, h4, h5, fun j hj => ?_⟩
  rw [hl] at hj
  have := h6 j (by omega)
  have e : nth (zs.take m) j = nth zs j := by simp [nth, show j < m by omega]
  dsimp only
  rw [e]
  exact this

set_option maxHeartbeats 2000000 in
set_option maxRecDepth 100000 in
theorem prOrder_any (v1 : Value) (a : List Int) (lo1 hi1 : Nat) (v2 : Value) (b : List Int) (lo2 hi2 : Nat) (w : World) (h1 : IntS w lo1 hi1 v1 a) (hh1 : hi1 ≤ w.heap.size) (h2 : IntS w lo2 hi2 v2 b) (hh2 : hi2 ≤ w.heap.size) (hl : a.length ≤ b.length) (hz : a.length ≤ 1048576) (ha : ∀ z ∈ a, 0 ≤ z ∧ z < 1000000) (hb : ∀ z ∈ b, 0 ≤ z ∧ z < 1000000) :
    Calls Tryz.prog 54 #[v1, v2] w fun e w' => e = .returned (.int .i64 (prO a b)) ∧ w = w' := by
  have F1 := Lib.hid h1
  obtain ⟨A1, c1, rfl, hc1, hd1⟩ := h1.dims
  clear h1
  have F2 := Lib.hid h2
  obtain ⟨A2, c2, rfl, hc2, hd2⟩ := h2.dims
  clear h2
  go_enter Tryz.func54, Tryz.ntmps54
  have HA := Lib.hid ha; have HB := Lib.hid hb; clear ha hb
  go_wp2_with fail
  go_loop [9] (fun i => ∃ (k : Nat), k ≤ a.length ∧ i = .int .i64 k ∧ Hid (prO a b = prO (a.drop k) (b.drop k))) (fun i => a.length - (intOf i).toNat)
  case atStart => exact ⟨0, Nat.zero_le _, rfl, Lib.hid rfl⟩
  case round =>
    obtain ⟨k, hk, rfl, HX⟩ := hrel
    by_cases hlt : k < a.length
    case neg =>
      have HKA := Lib.hid (show a.length = k by omega)
      go_wp2_with fail
      go_ret
      exact ⟨ret_int (by rw [HX.out, prO_end HKA.out]), rfl⟩
    obtain ⟨ba, oa, rfl, _, _, xa, _⟩ := F1.out.opened hlt
    obtain ⟨bb, ob, rfl, _, _, xb, _⟩ := F2.out.opened (show k < b.length by omega)
    have h3 : (k : Int) < b.length := by omega
    have HST := Lib.hid (prO_step hlt (show k < b.length by omega))
    obtain ⟨x, HXX⟩ : ∃ x, Hid (nth a k = x) := ⟨_, Lib.hid rfl⟩
    obtain ⟨y, HYY⟩ : ∃ x, Hid (nth b k = x) := ⟨_, Lib.hid rfl⟩
    have hx := HA.out _ (nth_mem hlt)
    have hy := HB.out _ (nth_mem (show k < b.length by omega))
    rw [HXX.out] at xa HST hx
    rw [HYY.out] at xb HST hy
    obtain ⟨hx0, hx1⟩ := hx
    obtain ⟨hy0, hy1⟩ := hy
    by_cases hc : x = y
    case neg =>
      have hc' : (x != y) = true := by simpa using hc
      have HC := Lib.hid hc; clear hc
      obtain ⟨s, HS⟩ : ∃ s, Hid (sgn (x - y) = s) := ⟨_, Lib.hid rfl⟩
      have hcm := l1Sign_any (x - y)
      rw [HS.out] at hcm
      have HCM := Lib.hid hcm; clear hcm
      go_wp2_with (go_at_call 66; refine (HCM.out _).mono ?_; rintro e w' ⟨rfl, rfl⟩)
      go_ret
      exact ⟨ret_int (by rw [HX.out, HST.out, if_neg HC.out, HS.out]), rfl⟩
    have hc' : (x != y) = false := by simpa using hc
    go_wp2_with fail
    go_round
    case rel => exact ⟨k + 1, by omega, by go_num, Lib.hid (by rw [HX.out, HST.out, if_pos hc])⟩
    case measure => simp [intOf]; omega

theorem prO_ports (p q : Po) (hp : p.2 < 8) (hq : q.2 < 8) : (0 < prO [(p.1 : Int), (p.2 : Int)] [(q.1 : Int), (q.2 : Int)]) ↔ keyP q < keyP p := by
  simp only [prO]
  unfold sgn keyP
  by_cases h1 : (p.1 : Int) = q.1
  · rw [if_pos h1]
    by_cases h2 : (p.2 : Int) = q.2
    · rw [if_pos h2]; omega
    · rw [if_neg h2]
      split
      · omega
      · split <;> omega
  · rw [if_neg h1]
    split
    · omega
    · split <;> omega
theorem take2 {l : List Po} (h : 0 < l.length) : (numsP l).take 2 = [((headP l).1 : Int), ((headP l).2 : Int)] := by
  cases l with
  | nil => simp at h
  | cons p l => rfl
/-- append of a slice's elements, one cell each -/
theorem append_vals {P : Program} {ops : Array Oper} {rest : List Oper} {o : Oper} {a : Act} {Q : Exit → Act → World → Prop} {t e : TypeId} {z : Value} {bytes : Nat}
    (ht : P.underlying t = some (.slice e)) (hinfo : (P.info? e).map (fun i => (i.zero, i.size, i.bytes)) = some (some z, 1, bytes)) (hz1 : z.cells.size = 1) (hby : bytes ≤ 64)
    (w : World) (hgd : o.guard = none) {s : Operand} (x : Operand) (ho : o.op = .call { callee := .builtin .append, args := #[s, x], argTypes := #[t, t] })
    {base : Nat} {v : Value} {xs : List Value} (hown : Own w base e v xs) (hs : a.eval s = v) {A : Option Addr} {m c : Nat} (ys : List Value) (hm : ys.length = m) (hx : a.eval x = .slice A m c)
    (hA : (A = none ∧ m = 0 ∧ c = 0) ∨ ∃ b off, A = some ⟨b, off, none⟩ ∧ ∀ j u, ys[j]? = some u → w.cell? ⟨b, off + j, none⟩ = some u)
    (h1 : ∀ u ∈ ys, u.oneCell' = true) (hlen : xs.length + m ≤ 1099511627776) (hbase : base ≤ w.heap.size)
    (h : ∀ v' w', Own w' base e v' (xs ++ ys) → w.grownBy w' v.ownBlock → (v'.ownBlock = v.ownBlock ∨ v'.ownBlock = some w.heap.size) → wpList P ops Q rest (a.put o.dst v') w') :
    wpList P ops Q (o :: rest) a w := by
  rcases hA with ⟨rfl, rfl, rfl⟩ | ⟨b, off, rfl, hc⟩
  · have hy : ys = [] := List.eq_nil_of_length_eq_zero hm
    subst hy
    obtain ⟨i, hi, hzz⟩ := Option.map_eq_some_iff.1 hinfo
    refine wpList_append_own_none hgd s x t ho base e i 1 ht hi v xs.length xs hs hown hx ?_
    exact h v w (by rw [List.append_nil]; exact hown) (World.grownBy.refl _ _) (.inl rfl)
  · refine append_row ht hinfo hz1 (by omega) hby w hgd x ho hown hs ys hx (by omega) ?_ h1 (by omega) hbase fun v' w' a1 a2 a3 => h v' w' ?_ a2 a3
    · intro j u hj
      rw [show (⟨b, off, none⟩ : Addr).add j = ⟨b, off + j, none⟩ from Go.WideShapes.add_plain b off j]
      exact hc j u hj
    · unfold Own
      rw [List.length_append, hm]
      exact a1
/-- where an own slice's elements lie -/
theorem Own.valsAt {w w' : World} {base n c : Nat} {e : TypeId} {A : Option Addr} {ys : List Value} (h : Own w base e (.slice A n c) ys) (hk : ∀ b, (Value.slice A n c).ownBlock = some b → w'.heap[b]? = w.heap[b]?) :
    (A = none ∧ n = 0 ∧ c = 0) ∨ ∃ b off, A = some ⟨b, off, none⟩ ∧ off = 0 ∧ ∀ j u, ys[j]? = some u → w'.cell? ⟨b, off + j, none⟩ = some u := by
  have hf := h.form
  obtain ⟨hr1, hr2⟩ := h
  rcases hr2 with ⟨e1, _⟩ | ⟨g, cap, cur, e1, hg, hh, hn, hm, hs, ht⟩
  · injection e1 with a1 a2 a3; exact .inl ⟨a1, a2, a3⟩
  · injection e1 with a1 a2 a3
    subst a1
    refine .inr ⟨g, 0, rfl, rfl, fun j u hj => ?_⟩
    obtain ⟨A', c', e2, h1, h2, h3⟩ := hf
    injection e2 with b1 b2 b3
    have hpos : 0 < ys.length := by have := (List.getElem?_eq_some_iff.1 hj).1; omega
    obtain ⟨b, e4, h5, h6, h7⟩ := h3 hpos
    rw [← b1] at e4
    injection e4 with e4
    injection e4 with e4 _
    subst e4
    rw [World.cell?_of_block (w := w) (a := ⟨g, 0 + j, none⟩) (hk g rfl), Nat.zero_add]
    exact (h7 j u hj).1
theorem grow_step {W W1 : World} {o : Obj} {n c : Nat} (hg : (W.alloc o).grownBy W1 (Value.slice (some ⟨W.heap.size, 0, none⟩) n c).ownBlock) : Below W.heap.size W W1 :=
  ⟨hg.os, hg.tape, hg.output, Nat.le_trans (by simp) hg.size, fun k hk => (hg.block k (by simp; omega) (fun e => by injection e with e; simp at e; omega)).trans (Below.heap_alloc _ _ _ hk)⟩
theorem own_high {W : World} {o : Obj} {v1 : Value} {n c : Nat} (h : v1.ownBlock = (Value.slice (some ⟨W.heap.size, 0, none⟩) n c).ownBlock ∨ v1.ownBlock = some (W.alloc o).heap.size) : ∀ q, v1.ownBlock = some q → W.heap.size ≤ q := by
  intro q hq
  rcases h with e | e <;> rw [e] at hq
  · simp [Value.ownBlock] at hq; omega
  · simp at hq; omega
theorem Own.formN {w : World} {base n : Nat} {e : TypeId} {v : Value} {xs : List Value} (h : Own w base e v xs) (hn : xs.length = n) : ∃ A c, v = .slice A n c := by
  obtain ⟨A, c, e, _⟩ := h.form
  exact ⟨A, c, by rw [e, hn]⟩
theorem size_alloc9 (w : World) (o : Obj) : (w.alloc o).heap.size = w.heap.size + 1 := by simp
theorem Own.emptyB (w : World) (base : Nat) (e : TypeId) {g : Nat} (hg : w.heap.size = g) (hb : base ≤ g) : Own (w.alloc (.cells #[] e)) base e (.slice (some ⟨g, 0, none⟩) 0 0) [] := by
  subst hg
  refine ⟨by simp, .inr ⟨w.heap.size, 0, #[], by simp, hb, heap_alloc_new w _, by simp, by simp, by simp, by simp⟩⟩

set_option maxHeartbeats 4000000 in
set_option maxRecDepth 100000 in
theorem orSorted_any (v : Value) (ts : List (List Po)) (lo hi : Nat) (w : World) (h : IntSSx w lo hi v (ts.map numsP)) (hlh : lo ≤ hi) (hh : hi ≤ w.heap.size) (hts : SrtOk ts) (hsm : ∀ l ∈ ts, (nthP l 0).1 < 1000) (hlen : ts.length ≤ 240) :
    Calls Tryz.prog 36 #[v] w fun e w' => ∃ r, e = .returned r ∧ IntSSx w' lo w'.heap.size r ((srt ts).map numsP) ∧ Below w.heap.size w w' := by
  obtain ⟨vs, h1, h2, h3, h4⟩ := h
  rw [List.length_map] at h1 h2 h3
  -- a trail's slice
  obtain ⟨val, HVAL⟩ : ∃ val : List Po → Value, Hid (∀ j, j < ts.length → val (nthT ts j) = vs j) := ⟨fun l => vs (ts.idxOf l), Lib.hid (fun j hj => by
    show vs (ts.idxOf (nthT ts j)) = vs j
    have hm := nthT_mem hj
    have h5 := List.idxOf_lt_length_of_mem hm
    have h6 : nthT ts (ts.idxOf (nthT ts j)) = nthT ts j := by rw [nthT_eq h5]; exact List.getElem_idxOf h5
    rw [key_inj hts h5 hj (by rw [h6])])⟩
  have HROW := Lib.hid (show ∀ l ∈ ts, IntS w lo hi (val l) (numsP l) from fun l hl => by
    obtain ⟨j, hj, e⟩ := List.mem_iff_getElem.1 hl
    have e2 : nthT ts j = l := by rw [nthT_eq hj]; exact e
    have := h2 j hj
    rw [← e2, HVAL.out j hj]
    have e3 : nthL (ts.map numsP) j = numsP (nthT ts j) := by simp [nthL, nthT, hj]
    rw [e3] at this
    exact this)
  have HOPEN := Lib.hid (show ∀ l ∈ ts, ∃ b off c, val l = .slice (some ⟨b, off, none⟩) (numsP l).length c ∧ 2 ≤ c ∧ c ≤ 9223372036854775807 ∧ IntS w lo hi (.slice (some ⟨b, off, none⟩) 2 c) [((headP l).1 : Int), ((headP l).2 : Int)] from fun l hl => by
    obtain ⟨o1, o2, o3⟩ := hts.ok l hl
    have hr := HROW.out l hl
    obtain ⟨A, c, e, k1, k2⟩ := hr.dims
    rw [e] at hr
    have hln := numsP_length l
    obtain ⟨b, off, rfl, _⟩ := hr.opened (j := 0) (by omega)
    refine ⟨b, off, c, e, by omega, k2, ?_⟩
    have := hr.takeS (m := 2) (by omega)
    rwa [take2 o1] at this)
  have HAP := Lib.hid (show ∀ i j, i < j → j < ts.length → rowOf (numsP (nthT ts i)).length (val (nthT ts i)) = none ∨ rowOf (numsP (nthT ts i)).length (val (nthT ts i)) ≠ rowOf (numsP (nthT ts j)).length (val (nthT ts j)) from fun i j hij hj => by
    have := h3 i j hij hj
    rw [HVAL.out i (by omega), HVAL.out j hj]
    have e3 : ∀ k, k < ts.length → nthL (ts.map numsP) k = numsP (nthT ts k) := fun k hk => by simp [nthL, nthT, hk]
    rwa [e3 i (by omega), e3 j hj] at this)
  have HTS := Lib.hid hts
  have HSM := Lib.hid hsm
  have HLEN := Lib.hid hlen
  clear h2 h3 h4 hts hsm
  obtain ⟨A0, c0, rfl, hc0, hm0, hin⟩ := h1
  have HIN := Lib.hid hin; clear hin
  obtain ⟨n, HN⟩ : ∃ n, Hid (ts.length = n) := ⟨_, Lib.hid rfl⟩
  rw [HN.out] at hc0 hlen
  rw [HN.out]
  go_enter Tryz.func36, Tryz.ntmps36
  go_wp2_with fail
  go_loopw [3, 10] (fun ov iv wr => ∃ (k : Nat) (L : List (List Po)), k ≤ n ∧ iv = .int .i64 k ∧ Hid (srtK ts k = L) ∧ Hid (Own wr w.heap.size 23 ov (L.map val)) ∧ Hid (k = 0 → ov = .slice none 0 0) ∧ Hid (Below w.heap.size w wr)) (fun _ iv _ => n - (intOf iv).toNat)
  case atStart => exact ⟨0, [], Nat.zero_le _, rfl, Lib.hid rfl, Lib.hid (Own.nil _ _ _), Lib.hid (fun _ => rfl), Lib.hid (Below.refl _ _)⟩
  case round =>
    obtain ⟨k, L, hk, rfl, HL, HO, HNIL, HB⟩ := hrel
    have hs1 := HB.out.size
    have HPM := Lib.hid (show L.Perm (ts.take k) by rw [← HL.out]; exact srt_perm _)
    have HLL := Lib.hid (show L.length = k by rw [HPM.out.length_eq, List.length_take, HN.out]; omega)
    have HMEM := Lib.hid (show ∀ l ∈ L, l ∈ ts from fun l hl => List.mem_of_mem_take (HPM.out.mem_iff.1 hl))
    obtain ⟨Ao, co, hov, hco, hmo, hcells⟩ := HO.out.form
    rw [List.length_map, HLL.out] at hov hco hcells
    subst hov
    have HCL := Lib.hid hcells; clear hcells
    by_cases hlt : k < n
    case neg =>
      obtain rfl : k = n := by omega
      go_wp2_with fail
      go_ret
      refine ⟨_, rfl, ?_, HB.out⟩
      have hL : L = srt ts := by rw [← HL.out, ← HN.out]; unfold srtK; rw [List.take_length]
      rw [← hL]
      have hm9 : ∀ i, i < L.length → val (nthT L i) = (L.map val).getD i undef := fun i hi => by simp [nthT, hi]
      have hnd := HTS.out.nd
      have hap : ∀ a ∈ ts, ∀ b ∈ ts, a ≠ b → rowOf (numsP a).length (val a) = none ∨ rowOf (numsP a).length (val a) ≠ rowOf (numsP b).length (val b) := fun a ha b hb hne => by
        obtain ⟨i, hi, rfl⟩ := List.mem_iff_getElem.1 ha
        obtain ⟨j, hj, rfl⟩ := List.mem_iff_getElem.1 hb
        rw [← nthT_eq hi, ← nthT_eq hj] at hne ⊢
        rcases Nat.lt_trichotomy i j with h1 | h1 | h1
        · exact HAP.out i j h1 hj
        · subst h1; exact absurd rfl hne
        · rcases HAP.out j i h1 hi with h2 | h2
          · cases hr : rowOf (numsP (nthT ts i)).length (val (nthT ts i)) with
            | none => exact .inl rfl
            | some q => right; rw [h2]; simp
          · right; exact fun e => h2 e.symm
      have hLn : (L.map keyL).Nodup := by rw [hL]; exact ((srt_perm ts).map keyL).nodup_iff.2 hnd
      have hne : ∀ i j, i < j → j < L.length → nthT L i ≠ nthT L j := fun i j hij hj e => by
        unfold List.Nodup at hLn
        rw [List.pairwise_map] at hLn
        have := List.pairwise_iff_getElem.1 hLn i j (by omega) hj hij
        rw [nthT_eq (by omega), nthT_eq hj] at e
        exact this (by rw [e])
      have hlen9 : ∀ i, i < L.length → nthL (L.map numsP) i = numsP (nthT L i) := fun i hi => by simp [nthL, nthT, hi]
      have hrow9 : ∀ i, i < L.length → IntS wr lo hi (val (nthT L i)) (numsP (nthT L i)) := fun i hi => (HROW.out _ (HMEM.out _ (nthT_mem hi))).below HB.out hh
      have hsl : Sl wr lo wr.heap.size 1 (.slice Ao k co) (L.map numsP).length (fun j => (L.map val).getD j undef) := by
        have h9 := Sl.of_own (f := fun j => (L.map val).getD j undef) HO.out (fun j hj => by simp at hj; simp [hj])
        rw [List.length_map] at h9
        rw [List.length_map]
        exact h9.mono (by omega) (Nat.le_refl _)
      refine ⟨fun j => (L.map val).getD j undef, hsl, fun i hi => ?_, fun i j hij hj => ?_, fun i hi => ?_⟩
      · rw [List.length_map] at hi
        dsimp only
        rw [← hm9 i hi, hlen9 i hi]
        exact (hrow9 i hi).mono (Nat.le_refl _) (by omega)
      · rw [List.length_map] at hj
        dsimp only
        rw [← hm9 i (by omega), ← hm9 j hj, hlen9 i (by omega), hlen9 j hj]
        exact hap _ (HMEM.out _ (nthT_mem (by omega))) _ (HMEM.out _ (nthT_mem hj)) (hne i j hij hj)
      · rw [List.length_map] at hi
        dsimp only
        rw [← hm9 i hi, hlen9 i hi]
        rcases Sl.row (hrow9 i hi) with e1 | ⟨q, e1, c1, c2⟩
        · exact .inl e1
        · right
          rw [e1]
          unfold rowOf
          rw [if_neg (by rw [List.length_map]; omega)]
          intro e3
          have := (HO.out.lt q e3.symm).1
          omega
    obtain ⟨x, HX⟩ : ∃ x, Hid (nthT ts k = x) := ⟨_, Lib.hid rfl⟩
    have HXM := Lib.hid (show x ∈ ts by rw [← HX.out]; exact nthT_mem (by rw [HN.out]; exact hlt))
    obtain ⟨bx, ox, cx, hvx, hcx, hmx, hix⟩ := HOPEN.out x HXM.out
    obtain ⟨nx, HNX⟩ : ∃ z, Hid ((numsP x).length = z) := ⟨_, Lib.hid rfl⟩
    rw [HNX.out] at hvx
    have HIX := Lib.hid hix; clear hix
    have HVX := Lib.hid hvx
    obtain ⟨b0, o0, rfl, _, hb0, hc⟩ := HIN.out (by rw [HN.out]; omega)
    have q0 := (hc k (by rw [HN.out]; omega)).1
    rw [← HVAL.out k (by rw [HN.out]; exact hlt), HX.out, hvx] at q0
    replace q0 := (HB.out.cell (p := ⟨b0, o0 + k, none⟩) (by show b0 < _; omega)).trans q0
    clear hc hvx
    go_wp2_with fail
    obtain ⟨wo, rfl⟩ : ∃ wo : World, wo = wr := ⟨_, rfl⟩
    clear q0
    go_loopw [6] (fun jv wi => ∃ (j : Nat), j ≤ k ∧ jv = .int .i64 j ∧ Hid (posK L (keyL x) j = posT L x) ∧ Hid (Below wo.heap.size wo wi)) (fun jv _ => (intOf jv).toNat)
    case atStart => exact ⟨k, Nat.le_refl _, rfl, Lib.hid (by unfold posT; rw [HLL.out]), Lib.hid (Below.refl _ _)⟩
    case round =>
      obtain ⟨j, hj, rfl, HJ, HBI⟩ := hrel
      have hs2 := HBI.out.size
      rcases Nat.eq_zero_or_pos j with hj0 | hj0
      · subst hj0
        by_cases hk0 : k = 0
        · subst hk0
          have HPOS := Lib.hid (show posT L x = 0 from HJ.out.symm)
          have hnil := HNIL.out rfl
          injection hnil with hn1 _ hn3
          subst hn1
          subst hn3
          go_wp2_with fail
          refine wp_region_ext (by kernel_rfl) (by kernel_rfl) ?_
          repeat (go_big_quiet_step (fail))
          refine wpQuiet_nil ?_
          rintro w1 ⟨p, rfl⟩
          obtain ⟨W0, HW0⟩ : ∃ W, Hid (W = ext wr p) := ⟨_, Lib.hid rfl⟩
          rw [← HW0.out]
          have hbW : Below wr.heap.size wr W0 := by rw [HW0.out]; exact ext_below _ _
          have HBW := Lib.hid (show Below wo.heap.size wo W0 from HBI.out.trans (hbW.mono hs2))
          clear HW0 hbW HBI HJ
          have HWB := Lib.hid (show Below w.heap.size w W0 from HB.out.trans (HBW.out.mono hs1))
          have hzW := HWB.out.size
          have hL0 : L = [] := List.eq_nil_of_length_eq_zero HLL.out
          have HIN9 := Lib.hid (show (insT L x).map val = ([] ++ [val x]) ++ [] by rw [hL0]; unfold insT; simp)
          clear hL0
          have hvx := HVX.out
          have HE2 := Lib.hid (Own.emptyB (W0.alloc (.cells #[] 23)) w.heap.size 23 (g := W0.heap.size + 1) (by simp) (by omega))
          have HBE := Lib.hid (show Below w.heap.size w ((W0.alloc (.cells #[] 23)).alloc (.cells #[] 23)) from (HWB.out.alloc hzW _).alloc (by simp; omega) _)
          go_wp2_with (first
            | (at_builtin; refine append1 (s := .tmp 41) Tryz.underlying27 Tryz.infoRow rfl (by decide) ((W0.alloc (.cells #[] 23)).alloc (.cells #[] 23)) rfl _ rfl HE2.out (.slice (some ⟨bx, ox, none⟩) nx cx) _ (by simp [Act.eval, go_sem]) (by simp [Act.eval, go_sem]) rfl (by simp) (by simp; omega) ?_; intro v3 W3 ho3 hg3 hat3; have HO3 := Lib.hid ho3; have HG3 := Lib.hid hg3; have hz3 := hg3.size; clear ho3 hg3 hat3; simp only [size_alloc9] at hz3)
            | (at_builtin; refine append_vals (s := .tmp 44) Tryz.underlying27 Tryz.infoRow rfl (by decide) W3 rfl (.tmp 45) rfl HO3.out rfl [] rfl rfl (.inr ⟨_, _, rfl, fun j u h => absurd h (by simp)⟩) (by simp) (by simp) (by omega) ?_; intro v4 W4 ho4 hg4 hat4; have HO4 := Lib.hid ho4; have HG4 := Lib.hid hg4; have hz4 := hg4.size; clear ho4 hg4 hat4))
          go_roundw
          case rel =>
            refine ⟨0 + 1, insT L x, by omega, by go_num, Lib.hid ?_, Lib.hid (by rw [HIN9.out, hvx]; exact HO4.out), Lib.hid (fun e => absurd e (by omega)), Lib.hid ?_⟩
            · rw [srtK_succ (by rw [HN.out]; omega), HL.out, HX.out]
            · have b3 : Below w.heap.size w W3 := HBE.out.trans ⟨HG3.out.os, HG3.out.tape, HG3.out.output, HG3.out.size, fun q hq => HG3.out.block q (by simp; omega) (fun e => by simp [Value.ownBlock] at e; omega)⟩
              exact b3.trans ⟨HG4.out.os, HG4.out.tape, HG4.out.output, HG4.out.size, fun q hq => HG4.out.block q (by omega) (fun e => by have := (HO3.out.lt q e.symm).1; omega)⟩
          case measure => simp [intOf]; omega
        · skip
          have HPOS := Lib.hid (show posT L x = 0 from HJ.out.symm)
          obtain ⟨g, rfl, hg1, hg2, hgc⟩ := HCL.out (Nat.pos_of_ne_zero hk0)
          have hco0 : ¬ co = 0 := by omega
          clear hgc
          go_wp2_with fail
          refine wp_region_ext (by kernel_rfl) (by kernel_rfl) ?_
          repeat (go_big_quiet_step (fail))
          refine wpQuiet_nil ?_
          rintro w1 ⟨p, rfl⟩
          obtain ⟨W0, HW0⟩ : ∃ W, Hid (W = ext wr p) := ⟨_, Lib.hid rfl⟩
          rw [← HW0.out]
          have hbW : Below wr.heap.size wr W0 := by rw [HW0.out]; exact ext_below _ _
          have HBW := Lib.hid (show Below wo.heap.size wo W0 from HBI.out.trans (hbW.mono hs2))
          clear HW0 hbW HBI HJ
          have HWB := Lib.hid (show Below w.heap.size w W0 from HB.out.trans (HBW.out.mono hs1))
          have hzW := HWB.out.size
          have HIN9 := Lib.hid (show (insT L x).map val = ([] ++ (L.take 0).map val) ++ [val x] ++ ([] ++ (L.drop 0).map val) by unfold insT; rw [HPOS.out]; simp)
          have HV := Lib.hid (show ∀ u ∈ L.map val, u.oneCell' = true from fun u hu => by
            obtain ⟨l, hl, rfl⟩ := List.mem_map.1 hu
            obtain ⟨b, off, c, e, _⟩ := HOPEN.out l (HMEM.out l hl)
            rw [e]; rfl)
          have HCW := Lib.hid (fun (w' : World) (hb : Below W0.heap.size W0 w') => HO.out.valsAt (w' := w') (fun b e => (hb.block b (by have := (HO.out.lt b e).2; have := HBW.out.size; omega)).trans (HBW.out.block b (HO.out.lt b e).2)))
          have hD : ((L.drop 0).map val).length = k - 0 := by rw [List.length_map, List.length_drop, HLL.out]
          have hT : ((L.take 0).map val).length = 0 := by rw [List.length_map, List.length_take, HLL.out]; omega
          have HD := Lib.hid hD
          have HT := Lib.hid hT
          have HX35 := Lib.hid (show ∀ w', Below W0.heap.size W0 w' → (((some ⟨g, 0, none⟩ : Option Addr)) = none ∧ k = 0 ∧ co = 0) ∨ ∃ b off, ((some ⟨g, 0, none⟩ : Option Addr)) = some ⟨b, off, none⟩ ∧ ∀ j u, ((L.drop 0).map val)[j]? = some u → w'.cell? ⟨b, off + j, none⟩ = some u from fun w' hb => (HCW.out w' hb).imp id (fun ⟨b, off, e, _, h⟩ => ⟨b, off, e, h⟩))
          have HX40 := Lib.hid (show ∀ w', Below W0.heap.size W0 w' → (((some ⟨g, 0, none⟩ : Option Addr)) = none ∧ 0 = 0 ∧ co = 0) ∨ ∃ b off, ((some ⟨g, 0, none⟩ : Option Addr)) = some ⟨b, off, none⟩ ∧ ∀ j u, ((L.take 0).map val)[j]? = some u → w'.cell? ⟨b, off + j, none⟩ = some u from fun w' hb => (HCW.out w' hb).imp (fun ⟨a, _, c⟩ => ⟨a, rfl, c⟩) (fun ⟨b, off, e, _, _⟩ => ⟨b, off, e, fun j u h => absurd h (by simp)⟩))
          have hvx := HVX.out
          have HE1 := Lib.hid (Own.emptyB W0 w.heap.size 23 rfl hzW)
          clear hD hT
          go_wp2_with (first
            | (at_builtin; refine append_vals (s := .tmp 32) Tryz.underlying27 Tryz.infoRow rfl (by decide) (W0.alloc (.cells #[] 23)) rfl (.tmp 35) rfl HE1.out rfl ((L.drop 0).map val) (by have := HD.out; omega) rfl (HX35.out _ (below_a1 _ _)) (fun u hu => HV.out u ((List.drop_sublist _ _).map val |>.subset hu)) (by have h9 := HD.out; show 0 + _ ≤ _; omega) (by rw [size_alloc9]; omega) ?_; intro v1 W1 ho1 hg1 hat1; have HO1 := Lib.hid ho1; have HB1 := Lib.hid (grow_step hg1); have HR1 := Lib.hid (own_high hat1); have hz1 := HB1.out.size; have HE2 := Lib.hid (Own.emptyB W1 w.heap.size 23 rfl (by omega)); clear ho1 hg1 hat1; obtain ⟨A1, c1, hv1⟩ := HO1.out.formN HD.out; subst hv1)
            | (at_builtin; refine append_vals (s := .tmp 37) Tryz.underlying27 Tryz.infoRow rfl (by decide) (W1.alloc (.cells #[] 23)) rfl (.tmp 40) rfl HE2.out rfl ((L.take 0).map val) (by have := HT.out; omega) rfl (HX40.out _ (HB1.out.trans ((below_a1 W1 _).mono hz1))) (fun u hu => HV.out u ((List.take_sublist _ _).map val |>.subset hu)) (by have h9 := HT.out; show 0 + _ ≤ _; omega) (by rw [size_alloc9]; omega) ?_; intro v2 W2 ho2 hg2 hat2; have HO2 := Lib.hid ho2; have HB2 := Lib.hid (grow_step hg2); have HR2 := Lib.hid (own_high hat2); have hz2 := HB2.out.size; clear ho2 hg2 hat2)
            | (at_builtin; refine append1 (s := .tmp 41) Tryz.underlying27 Tryz.infoRow rfl (by decide) W2 rfl _ rfl HO2.out (.slice (some ⟨bx, ox, none⟩) nx cx) _ rfl (by simp [Act.eval, go_sem]) rfl (by have h9 := HT.out; show (List.map val (List.take _ L)).length < _; omega) (by omega) ?_; intro v3 W3 ho3 hg3 hat3; have HO3 := Lib.hid ho3; have HG3 := Lib.hid hg3; have hz3 := hg3.size; have HV1 := Lib.hid (HO1.out.valsAt (w' := W3) (fun b e => (HG3.out.block b (by have := (HO1.out.lt b e).2; omega) (fun e2 => by have := HR2.out b e2.symm; have := (HO1.out.lt b e).2; omega)).trans (HB2.out.block b (HO1.out.lt b e).2))); clear ho3 hg3 hat3)
            | (at_builtin; refine append_vals (s := .tmp 44) Tryz.underlying27 Tryz.infoRow rfl (by decide) W3 rfl (.tmp 45) rfl HO3.out rfl ([] ++ (L.drop 0).map val) HD.out rfl (HV1.out.imp id (fun ⟨b, off, e, _, h⟩ => ⟨b, off, e, h⟩)) (fun u hu => HV.out u ((List.drop_sublist _ _).map val |>.subset hu)) (by have h9 := HD.out; have h8 := HT.out; rw [List.length_append]; show (List.map val (List.take _ L)).length + 1 + _ ≤ _; omega) (by omega) ?_; intro v4 W4 ho4 hg4 hat4; have HO4 := Lib.hid ho4; have HG4 := Lib.hid hg4; have hz4 := hg4.size; clear ho4 hg4 hat4))
          go_roundw
          case rel =>
            refine ⟨k + 1, insT L x, by omega, by go_num, Lib.hid ?_, Lib.hid (by rw [HIN9.out, hvx]; exact HO4.out), Lib.hid (fun e => absurd e (by omega)), Lib.hid ?_⟩
            · rw [srtK_succ (by rw [HN.out]; omega), HL.out, HX.out]
            · have b1 := HWB.out.trans (HB1.out.mono hzW)
              have b2 := b1.trans (HB2.out.mono (by omega))
              have b3 : Below w.heap.size w W3 := b2.trans ⟨HG3.out.os, HG3.out.tape, HG3.out.output, HG3.out.size, fun q hq => HG3.out.block q (by omega) (fun e => by have := HR2.out q e.symm; omega)⟩
              exact b3.trans ⟨HG4.out.os, HG4.out.tape, HG4.out.output, HG4.out.size, fun q hq => HG4.out.block q (by omega) (fun e => by have := (HO3.out.lt q e.symm).1; omega)⟩
          case measure => simp [intOf]; omega
      obtain ⟨i, rfl⟩ : ∃ i, j = i + 1 := ⟨j - 1, by omega⟩
      have hkp : 0 < k := by omega
      obtain ⟨g, rfl, hg1, hg2, hgc⟩ := HCL.out hkp
      obtain ⟨y, HY⟩ : ∃ y, Hid (nthT L i = y) := ⟨_, Lib.hid rfl⟩
      have hil : i < L.length := by rw [HLL.out]; omega
      have HYM := Lib.hid (show y ∈ ts by rw [← HY.out]; exact HMEM.out _ (nthT_mem hil))
      have qy := (hgc i (val y) (by rw [List.getElem?_map, ← HY.out, nthT_eq hil]; simp [hil])).1
      obtain ⟨by_, oy, cy, hvy, hcy, hmy, hiy⟩ := HOPEN.out y HYM.out
      obtain ⟨ny, HNY⟩ : ∃ z, Hid ((numsP y).length = z) := ⟨_, Lib.hid rfl⟩
      rw [HNY.out] at hvy
      rw [hvy] at qy
      have HIY := Lib.hid hiy; clear hiy hil
      clear hgc hvy
      have eq1 := ext_cell wr (a := ⟨g, i, none⟩) (by show g < _; omega) ((HBI.out.cell (p := ⟨g, i, none⟩) (by show g < _; omega)).trans qy)
      clear qy
      obtain ⟨o1, o2, o3⟩ := HTS.out.ok x HXM.out
      obtain ⟨p1, p2, p3⟩ := HTS.out.ok y HYM.out
      have hx8 := HSM.out x HXM.out
      have hy8 := HSM.out y HYM.out
      obtain ⟨r, HR⟩ : ∃ r, Hid (prO [((headP y).1 : Int), ((headP y).2 : Int)] [((headP x).1 : Int), ((headP x).2 : Int)] = r) := ⟨_, Lib.hid rfl⟩
      have hrk := prO_ports (headP y) (headP x) p3 o3
      rw [HR.out] at hrk
      have HPRO := Lib.hid (show ∀ p, Calls Tryz.prog 54 #[.slice (some ⟨by_, oy, none⟩) 2 cy, .slice (some ⟨bx, ox, none⟩) 2 cx] (ext wr p) fun e w' => e = .returned (.int .i64 r) ∧ ext wr p = w' from fun p => by
        have hbb : Below w.heap.size w (ext wr p) := (HB.out.trans (HBI.out.mono hs1)).trans ((ext_below wr p).mono (by omega))
        have hzz := hbb.size
        have := prOrder_any (.slice (some ⟨by_, oy, none⟩) 2 cy) [((headP y).1 : Int), ((headP y).2 : Int)] lo hi (.slice (some ⟨bx, ox, none⟩) 2 cx) [((headP x).1 : Int), ((headP x).2 : Int)] lo hi (ext wr p) (HIY.out.below hbb hh) (by omega) (HIX.out.below hbb hh) (by omega) (by simp) (by simp) (by
          have e1 : headP y = nthP y 0 := rfl
          rw [e1]
          intro z hz
          simp only [List.mem_cons, List.not_mem_nil, or_false] at hz
          rcases hz with rfl | rfl <;> omega) (by
          have e1 : headP x = nthP x 0 := rfl
          rw [e1]
          intro z hz
          simp only [List.mem_cons, List.not_mem_nil, or_false] at hz
          rcases hz with rfl | rfl <;> omega)
        rw [HR.out] at this
        exact this)
      clear o1 o2 o3 p1 p2 p3 hx8 hy8
      have hij : (i : Int) < k := by omega
      by_cases hr : 0 < r
      case pos =>
        have HJ2 := Lib.hid (show posK L (keyL x) i = posT L x by
          have := HJ.out
          rw [posK, HY.out, if_pos (show keyL x < keyL y from hrk.1 hr)] at this
          exact this)
        clear hrk
        go_wp2_with fail
        refine wp_region_ext (by kernel_rfl) (by kernel_rfl) ?_
        repeat (go_big_quiet_step ((go_at_call 54; exact ext_call_same (HPRO.out _))))
        refine wpQuiet_nil ?_
        rintro w1 ⟨p, rfl⟩
        clear eq1 HPRO
        obtain ⟨W0, HW0⟩ : ∃ W, Hid (W = ext wr p) := ⟨_, Lib.hid rfl⟩
        rw [← HW0.out]
        have hbW : Below wr.heap.size wr W0 := by rw [HW0.out]; exact ext_below _ _
        clear HW0
        go_wp2_with fail
        go_roundw
        case rel => exact ⟨i, by omega, by go_num, HJ2, Lib.hid (HBI.out.trans (hbW.mono hs2))⟩
        case measure => simp [intOf]
      have HPOS := Lib.hid (show posT L x = i + 1 by
        have := HJ.out
        rw [posK, HY.out, if_neg (show ¬ keyL x < keyL y from fun h => hr (hrk.2 h))] at this
        exact this.symm)
      clear hrk
      go_wp2_with fail
      refine wp_region_ext (by kernel_rfl) (by kernel_rfl) ?_
      repeat (go_big_quiet_step ((go_at_call 54; exact ext_call_same (HPRO.out _))))
      refine wpQuiet_nil ?_
      rintro w1 ⟨p, rfl⟩
      obtain ⟨W0, HW0⟩ : ∃ W, Hid (W = ext wr p) := ⟨_, Lib.hid rfl⟩
      rw [← HW0.out]
      have hbW : Below wr.heap.size wr W0 := by rw [HW0.out]; exact ext_below _ _
      have HBW := Lib.hid (show Below wo.heap.size wo W0 from HBI.out.trans (hbW.mono hs2))
      clear HW0 hbW HBI HJ
      clear eq1 HPRO
      have hcop : 0 < co := by omega
      have hgs : ∀ w', Below W0.heap.size W0 w' → ∀ j u, (L.map val)[j]? = some u → w'.cell? ⟨g, 0 + j, none⟩ = some u := fun w' hb j u hu => by
        rcases HO.out.valsAt (w' := w') (fun b e => (hb.block b (by have := (HO.out.lt b e).2; have := HBW.out.size; omega)).trans (HBW.out.block b (HO.out.lt b e).2)) with ⟨e, _⟩ | ⟨b, off, e, e0, h⟩
        · cases e
        · injection e with e; injection e with e1 e2; subst e1; subst e0; exact h j u hu
      have HGS := Lib.hid hgs; clear hgs
      by_cases hco1 : co = i + 1
      · subst hco1
        obtain rfl : k = i + 1 := by omega
        have HWB := Lib.hid (show Below w.heap.size w W0 from HB.out.trans (HBW.out.mono hs1))
        have hzW := HWB.out.size
        have hL0 : L.drop (i + 1) = [] := List.drop_eq_nil_of_le (by rw [HLL.out]; omega)
        have HIN9 := Lib.hid (show (insT L x).map val = (([] ++ (L.take (i + 1)).map val) ++ [val x]) ++ [] by unfold insT; rw [HPOS.out, hL0]; simp)
        clear hL0
        have HV := Lib.hid (show ∀ u ∈ L.map val, u.oneCell' = true from fun u hu => by
          obtain ⟨l, hl, rfl⟩ := List.mem_map.1 hu
          obtain ⟨b, off, c, e, _⟩ := HOPEN.out l (HMEM.out l hl)
          rw [e]; rfl)
        have hT : ((L.take (i + 1)).map val).length = i + 1 := by rw [List.length_map, List.length_take, HLL.out]; omega
        have HT := Lib.hid hT
        clear hT
        have HX40 := Lib.hid (show ∀ w', Below W0.heap.size W0 w' → (((some ⟨g, 0, none⟩) : Option Addr) = none ∧ (i + 1) = 0 ∧ (i + 1) = 0) ∨ ∃ b off, ((some ⟨g, 0, none⟩) : Option Addr) = some ⟨b, off, none⟩ ∧ ∀ j u, ((L.take (i + 1)).map val)[j]? = some u → w'.cell? ⟨b, off + j, none⟩ = some u from fun w' hb => by
          refine .inr ⟨g, 0, rfl, fun j u hu => HGS.out w' hb j u ?_⟩
          rw [List.getElem?_map] at hu ⊢
          rw [List.getElem?_take] at hu
          split at hu
          · exact hu
          · cases hu)
        have hvx := HVX.out
        have HE2 := Lib.hid (Own.emptyB (W0.alloc (.cells #[] 23)) w.heap.size 23 (g := W0.heap.size + 1) (by simp) (by omega))
        have HB9 := Lib.hid (show Below W0.heap.size W0 ((W0.alloc (.cells #[] 23)).alloc (.cells #[] 23)) from (below_a1 W0 _).alloc (by simp) _)
        go_wp2_with (first
          | (at_builtin; refine append_vals (s := .tmp 37) Tryz.underlying27 Tryz.infoRow rfl (by decide) ((W0.alloc (.cells #[] 23)).alloc (.cells #[] 23)) rfl (.tmp 40) rfl HE2.out rfl ((L.take (i + 1)).map val) (by have := HT.out; omega) rfl (HX40.out _ HB9.out) (fun u hu => HV.out u ((List.take_sublist _ _).map val |>.subset hu)) (by have h9 := HT.out; show 0 + _ ≤ _; omega) (by simp; omega) ?_; intro v2 W2 ho2 hg2 hat2; have HO2 := Lib.hid ho2; have hz2 := hg2.size; simp only [size_alloc9] at hz2; have HB2 := Lib.hid (show Below W0.heap.size W0 W2 from HB9.out.trans ⟨hg2.os, hg2.tape, hg2.output, hg2.size, fun q hq => hg2.block q (by simp; omega) (fun e => by simp [Value.ownBlock] at e; omega)⟩); have HR2 := Lib.hid (show ∀ q, v2.ownBlock = some q → W0.heap.size ≤ q from fun q e => by rcases hat2 with e2 | e2 <;> rw [e] at e2 <;> simp [Value.ownBlock] at e2 <;> omega); clear ho2 hg2 hat2)
          | (at_builtin; refine append1 (s := .tmp 41) Tryz.underlying27 Tryz.infoRow rfl (by decide) W2 rfl _ rfl HO2.out (.slice (some ⟨bx, ox, none⟩) nx cx) _ rfl (by simp [Act.eval, go_sem]) rfl (by have h9 := HT.out; show (List.map val (List.take _ L)).length < _; omega) (by omega) ?_; intro v3 W3 ho3 hg3 hat3; have HO3 := Lib.hid ho3; have HG3 := Lib.hid hg3; have hz3 := hg3.size; clear ho3 hg3 hat3)
          | (at_builtin; refine append_vals (s := .tmp 44) Tryz.underlying27 Tryz.infoRow rfl (by decide) W3 rfl (.tmp 45) rfl HO3.out rfl [] rfl rfl (.inr ⟨_, _, rfl, fun j u h => absurd h (by simp)⟩) (by simp) (by have h8 := HT.out; rw [List.length_append]; show (List.map val (List.take _ L)).length + 1 + 0 ≤ _; omega) (by omega) ?_; intro v4 W4 ho4 hg4 hat4; have HO4 := Lib.hid ho4; have HG4 := Lib.hid hg4; have hz4 := hg4.size; clear ho4 hg4 hat4))
        go_roundw
        case rel =>
          refine ⟨i + 1 + 1, insT L x, by omega, by go_num, Lib.hid ?_, Lib.hid (by rw [HIN9.out, hvx]; exact HO4.out), Lib.hid (fun e => absurd e (by omega)), Lib.hid ?_⟩
          · rw [srtK_succ (by rw [HN.out]; omega), HL.out, HX.out]
          · have b2 := HWB.out.trans (HB2.out.mono hzW)
            have b3 : Below w.heap.size w W3 := b2.trans ⟨HG3.out.os, HG3.out.tape, HG3.out.output, HG3.out.size, fun q hq => HG3.out.block q (by omega) (fun e => by have := HR2.out q e.symm; omega)⟩
            exact b3.trans ⟨HG4.out.os, HG4.out.tape, HG4.out.output, HG4.out.size, fun q hq => HG4.out.block q (by omega) (fun e => by have := (HO3.out.lt q e.symm).1; omega)⟩
        case measure => simp [intOf]; omega
      · skip
        have HWB := Lib.hid (show Below w.heap.size w W0 from HB.out.trans (HBW.out.mono hs1))
        have hzW := HWB.out.size
        have HIN9 := Lib.hid (show (insT L x).map val = ([] ++ (L.take (i + 1)).map val) ++ [val x] ++ ([] ++ (L.drop (i + 1)).map val) by unfold insT; rw [HPOS.out]; simp)
        have HV := Lib.hid (show ∀ u ∈ L.map val, u.oneCell' = true from fun u hu => by
          obtain ⟨l, hl, rfl⟩ := List.mem_map.1 hu
          obtain ⟨b, off, c, e, _⟩ := HOPEN.out l (HMEM.out l hl)
          rw [e]; rfl)
        have HCW := Lib.hid (fun (w' : World) (hb : Below W0.heap.size W0 w') => HO.out.valsAt (w' := w') (fun b e => (hb.block b (by have := (HO.out.lt b e).2; have := HBW.out.size; omega)).trans (HBW.out.block b (HO.out.lt b e).2)))
        have hD : ((L.drop (i + 1)).map val).length = k - (i + 1) := by rw [List.length_map, List.length_drop, HLL.out]
        have hT : ((L.take (i + 1)).map val).length = (i + 1) := by rw [List.length_map, List.length_take, HLL.out]; omega
        have HD := Lib.hid hD
        have HT := Lib.hid hT
        have HX35 := Lib.hid (show ∀ w', Below W0.heap.size W0 w' → (((some ⟨g, i + 1, none⟩) : Option Addr) = none ∧ (k - (i + 1)) = 0 ∧ (co - (i + 1)) = 0) ∨ ∃ b off, ((some ⟨g, i + 1, none⟩) : Option Addr) = some ⟨b, off, none⟩ ∧ ∀ j u, ((L.drop (i + 1)).map val)[j]? = some u → w'.cell? ⟨b, off + j, none⟩ = some u from fun w' hb => by
          refine .inr ⟨g, i + 1, rfl, fun j u hu => ?_⟩
          rw [List.getElem?_map, List.getElem?_drop] at hu
          have := HGS.out w' hb (i + 1 + j) u (by rw [List.getElem?_map]; exact hu)
          rwa [Nat.zero_add] at this)
        have HX40 := Lib.hid (show ∀ w', Below W0.heap.size W0 w' → (((some ⟨g, 0, none⟩) : Option Addr) = none ∧ (i + 1) = 0 ∧ co = 0) ∨ ∃ b off, ((some ⟨g, 0, none⟩) : Option Addr) = some ⟨b, off, none⟩ ∧ ∀ j u, ((L.take (i + 1)).map val)[j]? = some u → w'.cell? ⟨b, off + j, none⟩ = some u from fun w' hb => by
          refine .inr ⟨g, 0, rfl, fun j u hu => HGS.out w' hb j u ?_⟩
          rw [List.getElem?_map] at hu ⊢
          rw [List.getElem?_take] at hu
          split at hu
          · exact hu
          · cases hu)
        have hvx := HVX.out
        have HE1 := Lib.hid (Own.emptyB W0 w.heap.size 23 rfl hzW)
        clear hD hT
        go_wp2_with (first
          | (at_builtin; refine append_vals (s := .tmp 32) Tryz.underlying27 Tryz.infoRow rfl (by decide) (W0.alloc (.cells #[] 23)) rfl (.tmp 35) rfl HE1.out rfl ((L.drop (i + 1)).map val) (by have := HD.out; omega) rfl (HX35.out _ (below_a1 _ _)) (fun u hu => HV.out u ((List.drop_sublist _ _).map val |>.subset hu)) (by have h9 := HD.out; show 0 + _ ≤ _; omega) (by rw [size_alloc9]; omega) ?_; intro v1 W1 ho1 hg1 hat1; have HO1 := Lib.hid ho1; have HB1 := Lib.hid (grow_step hg1); have HR1 := Lib.hid (own_high hat1); have hz1 := HB1.out.size; have HE2 := Lib.hid (Own.emptyB W1 w.heap.size 23 rfl (by omega)); clear ho1 hg1 hat1; obtain ⟨A1, c1, hv1⟩ := HO1.out.formN HD.out; subst hv1)
          | (at_builtin; refine append_vals (s := .tmp 37) Tryz.underlying27 Tryz.infoRow rfl (by decide) (W1.alloc (.cells #[] 23)) rfl (.tmp 40) rfl HE2.out rfl ((L.take (i + 1)).map val) (by have := HT.out; omega) rfl (HX40.out _ (HB1.out.trans ((below_a1 W1 _).mono hz1))) (fun u hu => HV.out u ((List.take_sublist _ _).map val |>.subset hu)) (by have h9 := HT.out; show 0 + _ ≤ _; omega) (by rw [size_alloc9]; omega) ?_; intro v2 W2 ho2 hg2 hat2; have HO2 := Lib.hid ho2; have HB2 := Lib.hid (grow_step hg2); have HR2 := Lib.hid (own_high hat2); have hz2 := HB2.out.size; clear ho2 hg2 hat2)
          | (at_builtin; refine append1 (s := .tmp 41) Tryz.underlying27 Tryz.infoRow rfl (by decide) W2 rfl _ rfl HO2.out (.slice (some ⟨bx, ox, none⟩) nx cx) _ rfl (by simp [Act.eval, go_sem]) rfl (by have h9 := HT.out; show (List.map val (List.take _ L)).length < _; omega) (by omega) ?_; intro v3 W3 ho3 hg3 hat3; have HO3 := Lib.hid ho3; have HG3 := Lib.hid hg3; have hz3 := hg3.size; have HV1 := Lib.hid (HO1.out.valsAt (w' := W3) (fun b e => (HG3.out.block b (by have := (HO1.out.lt b e).2; omega) (fun e2 => by have := HR2.out b e2.symm; have := (HO1.out.lt b e).2; omega)).trans (HB2.out.block b (HO1.out.lt b e).2))); clear ho3 hg3 hat3)
          | (at_builtin; refine append_vals (s := .tmp 44) Tryz.underlying27 Tryz.infoRow rfl (by decide) W3 rfl (.tmp 45) rfl HO3.out rfl ([] ++ (L.drop (i + 1)).map val) HD.out rfl (HV1.out.imp id (fun ⟨b, off, e, _, h⟩ => ⟨b, off, e, h⟩)) (fun u hu => HV.out u ((List.drop_sublist _ _).map val |>.subset hu)) (by have h9 := HD.out; have h8 := HT.out; rw [List.length_append]; show (List.map val (List.take _ L)).length + 1 + _ ≤ _; omega) (by omega) ?_; intro v4 W4 ho4 hg4 hat4; have HO4 := Lib.hid ho4; have HG4 := Lib.hid hg4; have hz4 := hg4.size; clear ho4 hg4 hat4))
        go_roundw
        case rel =>
          refine ⟨k + 1, insT L x, by omega, by go_num, Lib.hid ?_, Lib.hid (by rw [HIN9.out, hvx]; exact HO4.out), Lib.hid (fun e => absurd e (by omega)), Lib.hid ?_⟩
          · rw [srtK_succ (by rw [HN.out]; omega), HL.out, HX.out]
          · have b1 := HWB.out.trans (HB1.out.mono hzW)
            have b2 := b1.trans (HB2.out.mono (by omega))
            have b3 : Below w.heap.size w W3 := b2.trans ⟨HG3.out.os, HG3.out.tape, HG3.out.output, HG3.out.size, fun q hq => HG3.out.block q (by omega) (fun e => by have := HR2.out q e.symm; omega)⟩
            exact b3.trans ⟨HG4.out.os, HG4.out.tape, HG4.out.output, HG4.out.size, fun q hq => HG4.out.block q (by omega) (fun e => by have := (HO3.out.lt q e.symm).1; omega)⟩
        case measure => simp [intOf]; omega

end Go.Proofs.YtpanigomfmfknaaGreat
