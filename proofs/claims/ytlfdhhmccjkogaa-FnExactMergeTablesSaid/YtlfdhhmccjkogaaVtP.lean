/-
  Plain: views as trees; the program's reading and the reference's reading of a view's text, and that they agree. No condition on any program.
-/
import Derived.Test.YtlfdhhmccjkogaaMem
namespace Go.Proofs.Ytlfdhhmccjkogaa
set_option linter.unusedVariables false

/-- a view that was read: its degree, input, the ports at the other sides, its parts, its depth -/
inductive VT where
  | node (degree input : Nat) (ports : List Int) (parts : List VT) (depth : Nat)
def VT.degree : VT → Nat
  | .node d _ _ _ _ => d
def VT.input : VT → Nat
  | .node _ i _ _ _ => i
def VT.ports : VT → List Int
  | .node _ _ ps _ _ => ps
def VT.parts : VT → List VT
  | .node _ _ _ ts _ => ts
def VT.depth : VT → Nat
  | .node _ _ _ _ k => k

mutual
def VT.fits : VT → Int → Bool
  | .node d _ _ ts _, n => d == 0 || ((ts.isEmpty == (n == 0)) && fitsL ts (n - 1))
def fitsL : List VT → Int → Bool
  | [], _ => true
  | t :: ts, n => VT.fits t n && fitsL ts n
end
theorem fitsL_iff (n : Int) : ∀ ts : List VT, fitsL ts n = true ↔ ∀ t ∈ ts, t.fits n = true
  | [] => by simp [fitsL]
  | t :: ts => by simp [fitsL, fitsL_iff n ts]
theorem fits_node (d i : Nat) (ps : List Int) (ts : List VT) (k : Nat) (n : Int) : (VT.node d i ps ts k).fits n = (d == 0 || ((ts.isEmpty == (n == 0)) && fitsL ts (n - 1))) := by rw [VT.fits]

/-- byte k of a text; 256 past its end -/
def bt (s : ByteArray) (k : Nat) : Nat := if h : k < s.size then s[k].toNat else 256
theorem bt_in {s : ByteArray} {k : Nat} (h : k < s.size) : bt s k = s[k].toNat := by unfold bt; rw [dif_pos h]
theorem bt_out {s : ByteArray} {k : Nat} (h : ¬ k < s.size) : bt s k = 256 := by unfold bt; rw [dif_neg h]
theorem bt_lt {s : ByteArray} {k b : Nat} (h : bt s k = b) (hb : b < 256) : k < s.size := by
  by_cases e : k < s.size
  · exact e
  · rw [bt_out e] at h; omega
def dg (s : ByteArray) (most k : Nat) : Option Nat := if 48 ≤ bt s k ∧ bt s k ≤ 48 + most then some (bt s k - 48) else none
theorem dg_some {s : ByteArray} {most k d : Nat} (h : dg s most k = some d) (hm : most ≤ 9) : k < s.size ∧ d ≤ most ∧ bt s k = 48 + d := by
  unfold dg at h
  split at h
  · rename_i hc
    injection h with h
    exact ⟨bt_lt rfl (by omega), by omega, by omega⟩
  · cases h
/-- where the port of a next part stands -/
def sepAt (s : ByteArray) (first : Bool) (p : Nat) : Option Nat := if first then some p else if bt s p = 44 then some (p + 1) else none
/-- does a next part go with those before it -/
def goes (prog : Bool) (ts : List VT) (t : VT) : Bool := !prog || (match ts with | [] => true | t0 :: _ => t.depth == t0.depth)
def ploop (prog : Bool) (sub : Nat → Option (VT × Nat)) (s : ByteArray) : Nat → List Int → List VT → Nat → Option (List Int × List VT × Nat)
  | 0, ps, ts, p => some (ps, ts, p)
  | c + 1, ps, ts, p =>
    match sepAt s ts.isEmpty p with
    | none => none
    | some p1 =>
      match dg s 5 p1 with
      | none => none
      | some j =>
        if bt s (p1 + 1) = 58 then
          match sub (p1 + 2) with
          | none => none
          | some (t, q) => if (decide (j < t.degree) && goes prog ts t) = true then ploop prog sub s c (ps ++ [(j : Int)]) (ts ++ [t]) q else none
        else none
def mxD (ts : List VT) : Nat := ts.foldl (fun a t => if t.depth + 1 < a then a else t.depth + 1) 0
def hdD : List VT → Nat
  | [] => 0
  | t :: _ => t.depth + 1
def pnode (prog : Bool) (sub : Nat → Option (VT × Nat)) (s : ByteArray) (p : Nat) : Option (VT × Nat) :=
  match dg s 6 p with
  | none => none
  | some d =>
    if bt s (p + 1) = 46 then
      match dg s 9 (p + 2) with
      | none => none
      | some i =>
        if d = 0 ∨ bt s (p + 3) ≠ 40 then some (.node d i [] [] 0, p + 3)
        else
          match ploop prog sub s d [] [] (p + 4) with
          | none => none
          | some (ps, ts, q) => if bt s q = 41 ∧ (prog = true → hdD ts ≤ 80) then some (.node d i ps ts (if prog then hdD ts else mxD ts), q + 1) else none
    else none
def pv : Nat → ByteArray → Nat → Option (VT × Nat)
  | 0, _, _ => none
  | f + 1, s, p => pnode true (pv f s) s p
def sv : Nat → ByteArray → Nat → Option (VT × Nat)
  | 0, _, _ => none
  | f + 1, s, p => pnode false (sv f s) s p

theorem mxD_snoc (ts : List VT) (t : VT) : mxD (ts ++ [t]) = if t.depth + 1 < mxD ts then mxD ts else t.depth + 1 := by unfold mxD; rw [List.foldl_append]; rfl
theorem mxD_spec (ts : List VT) : (∀ t ∈ ts, t.depth + 1 ≤ mxD ts) ∧ (ts = [] ∨ ∃ t ∈ ts, mxD ts = t.depth + 1) := by
  suffices h : ∀ l : List VT, (∀ t ∈ l, t.depth + 1 ≤ mxD l.reverse) ∧ (l = [] ∨ ∃ t ∈ l, mxD l.reverse = t.depth + 1) by
    have := h ts.reverse
    simpa using this
  intro l
  induction l with
  | nil => exact ⟨(fun t h => by cases h), .inl rfl⟩
  | cons x l ih =>
    rw [List.reverse_cons, mxD_snoc]
    obtain ⟨h1, h2⟩ := ih
    by_cases e : x.depth + 1 < mxD l.reverse
    · rw [if_pos e]
      refine ⟨fun t ht => ?_, .inr ?_⟩
      · rcases List.mem_cons.1 ht with rfl | ht
        · omega
        · exact h1 t ht
      · rcases h2 with h2 | ⟨t, ht, h2⟩
        · subst h2; simp [mxD] at e
        · exact ⟨t, List.mem_cons_of_mem _ ht, h2⟩
    · rw [if_neg e]
      refine ⟨fun t ht => ?_, .inr ⟨x, List.mem_cons_self .., rfl⟩⟩
      rcases List.mem_cons.1 ht with rfl | ht
      · omega
      · have := h1 t ht; omega
/-- what the loop leaves: its parts come from the readings, and have ports -/
theorem ploop_parts {prog : Bool} {sub : Nat → Option (VT × Nat)} {s : ByteArray} : ∀ {c : Nat} {ps : List Int} {ts : List VT} {p : Nat} {ps' : List Int} {ts' : List VT} {q : Nat}, ploop prog sub s c ps ts p = some (ps', ts', q) →
    ∃ us, ts' = ts ++ us ∧ us.length = c ∧ ∀ t ∈ us, 0 < t.degree ∧ ∃ p1 q1, sub p1 = some (t, q1)
  | 0, ps, ts, p, ps', ts', q, h => by
    rw [ploop] at h
    injection h with h
    injection h with h1 h2
    injection h2 with h2 h3
    exact ⟨[], by simp [h2], rfl, fun t ht => by cases ht⟩
  | c + 1, ps, ts, p, ps', ts', q, h => by
    rw [ploop] at h
    split at h
    · cases h
    · rename_i p1 e1
      split at h
      · cases h
      · rename_i j e2
        split at h
        · split at h
          · cases h
          · rename_i t q1 e3
            split at h
            · rename_i hc
              obtain ⟨us, h1, h2, h3⟩ := ploop_parts h
              rw [Bool.and_eq_true, decide_eq_true_eq] at hc
              refine ⟨t :: us, by rw [h1, List.append_assoc]; rfl, by simp [h2], fun u hu => ?_⟩
              rcases List.mem_cons.1 hu with rfl | hu
              · exact ⟨by omega, _, _, e3⟩
              · exact h3 u hu
            · cases h
        · cases h
/-- a reading of the reference with a port: it can have no depth but its own -/
theorem sv_fits {s : ByteArray} : ∀ {f p : Nat} {t : VT} {q : Nat}, sv f s p = some (t, q) → 0 < t.degree → ∀ n, t.fits n = true → n = t.depth
  | 0, p, t, q, h, _, _, _ => by cases h
  | f + 1, p, t, q, h, hd, n, hn => by
    rw [sv] at h
    unfold pnode at h
    split at h
    · cases h
    · rename_i d e1
      split at h
      · split at h
        · cases h
        · rename_i i e2
          split at h
          · injection h with h
            injection h with h1 h2
            subst h1
            have hd' : d ≠ 0 := by have : 0 < d := hd; omega
            rw [fits_node] at hn
            simp [hd'] at hn
            show n = ((0 : Nat) : Int)
            have := hn.1
            omega
          · split at h
            · cases h
            · rename_i ps ts q1 e3
              split at h
              · injection h with h
                injection h with h1 h2
                subst h1
                have hd' : d ≠ 0 := by have : 0 < d := hd; omega
                obtain ⟨us, h1, h2, h3⟩ := ploop_parts e3
                simp only [List.nil_append] at h1
                subst h1
                rw [fits_node] at hn
                rw [Bool.or_eq_true, Bool.and_eq_true] at hn
                rcases hn with hn | ⟨hn1, hn2⟩
                · simp at hn; omega
                · rw [fitsL_iff] at hn2
                  show n = ((mxD ts : Nat) : Int)
                  rcases (mxD_spec ts).2 with e | ⟨t, ht, e⟩
                  · subst e; simp at h2; omega
                  · obtain ⟨k1, p1, q2, k2⟩ := h3 t ht
                    have := sv_fits k2 k1 _ (hn2 t ht)
                    omega
              · cases h
      · cases h
/-- what the program asks of a reading's tree beside the reference -/
def fine (t : VT) : Bool := t.fits t.depth && decide (t.depth ≤ 80)
def fineL (ts : List VT) : Bool := ts.all fun t => fine t && (t.depth + 1 == hdD ts)
def keepF (r : Option (VT × Nat)) : Option (VT × Nat) := match r with
  | none => none
  | some (t, q) => if fine t = true then some (t, q) else none
def keepL (r : Option (List Int × List VT × Nat)) : Option (List Int × List VT × Nat) := match r with
  | none => none
  | some (ps, ts, q) => if fineL ts = true then some (ps, ts, q) else none
theorem hdD_append {ts us : List VT} (h : ts ≠ []) : hdD (ts ++ us) = hdD ts := by
  cases ts with
  | nil => exact absurd rfl h
  | cons t ts => rfl
theorem fineL_append_left {ts us : List VT} (h : fineL (ts ++ us) = true) : fineL ts = true := by
  by_cases e : ts = []
  · subst e; rfl
  · unfold fineL at *
    rw [hdD_append e, List.all_append, Bool.and_eq_true] at h
    exact h.1
theorem fineL_snoc {ts : List VT} {t : VT} (h : fineL ts = true) : fineL (ts ++ [t]) = (fine t && goes true ts t) := by
  cases ts with
  | nil => simp [fineL, goes, hdD]
  | cons t0 ts =>
    unfold fineL at *
    rw [hdD_append (by simp), List.all_append, h]
    simp [goes, hdD]
theorem goes_false (ts : List VT) (t : VT) : goes false ts t = true := rfl
theorem ploop_eq {subp subs : Nat → Option (VT × Nat)} {s : ByteArray} (hs : ∀ p, subp p = keepF (subs p)) : ∀ (c : Nat) (ps : List Int) (ts : List VT) (p : Nat), fineL ts = true → ploop true subp s c ps ts p = keepL (ploop false subs s c ps ts p)
  | 0, ps, ts, p, h => by rw [ploop, ploop]; simp [keepL, h]
  | c + 1, ps, ts, p, h => by
    rw [ploop, ploop]
    cases e1 : sepAt s ts.isEmpty p with
    | none => rfl
    | some p1 =>
      dsimp only
      cases e2 : dg s 5 p1 with
      | none => rfl
      | some j =>
        dsimp only
        by_cases e3 : bt s (p1 + 1) = 58
        · rw [if_pos e3, if_pos e3, hs]
          cases e4 : subs (p1 + 2) with
          | none => rfl
          | some tq =>
            obtain ⟨t, q⟩ := tq
            have hbad : ∀ ps', (fine t && goes true ts t) = false → keepL (ploop false subs s c ps' (ts ++ [t]) q) = none := fun ps' hb => by
              cases e5 : ploop false subs s c ps' (ts ++ [t]) q with
              | none => rfl
              | some r =>
                obtain ⟨ps'', ts', q'⟩ := r
                obtain ⟨us, h1, _, _⟩ := ploop_parts e5
                simp only [keepL]
                rw [if_neg]
                intro hfl
                rw [h1] at hfl
                have := fineL_append_left hfl
                rw [fineL_snoc h, hb] at this
                cases this
            by_cases hj : j < t.degree
            · have hr : (decide (j < t.degree) && goes false ts t) = true := by rw [decide_eq_true hj]; rfl
              dsimp only
              rw [if_pos hr]
              cases hf : fine t with
              | true =>
                have hk : keepF (some (t, q)) = some (t, q) := by simp [keepF, hf]
                rw [hk]
                dsimp only
                cases hg : goes true ts t with
                | true =>
                  rw [if_pos (by rw [decide_eq_true hj]; rfl)]
                  exact ploop_eq hs c _ _ _ (by rw [fineL_snoc h, hf, hg]; rfl)
                | false =>
                  rw [if_neg (by rw [Bool.and_false]; intro h; cases h)]
                  exact (hbad _ (by rw [hg, Bool.and_false])).symm
              | false =>
                have hk : keepF (some (t, q)) = none := by simp [keepF, hf]
                rw [hk]
                exact (hbad _ (by rw [hf, Bool.false_and])).symm
            · have hr : ¬ (decide (j < t.degree) && goes false ts t) = true := by rw [decide_eq_false hj]; intro h; cases h
              dsimp only
              rw [if_neg hr]
              cases hf : fine t with
              | true =>
                have hk : keepF (some (t, q)) = some (t, q) := by simp [keepF, hf]
                rw [hk]
                dsimp only
                rw [if_neg (by rw [decide_eq_false hj]; intro h; cases h)]; rfl
              | false =>
                have hk : keepF (some (t, q)) = none := by simp [keepF, hf]
                rw [hk]; rfl
        · rw [if_neg e3, if_neg e3]; rfl
theorem pv_eq (s : ByteArray) : ∀ f p, pv f s p = keepF (sv f s p)
  | 0, p => rfl
  | f + 1, p => by
    rw [pv, sv]
    unfold pnode
    cases e1 : dg s 6 p with
    | none => rfl
    | some d =>
      dsimp only
      by_cases e2 : bt s (p + 1) = 46
      · rw [if_pos e2, if_pos e2]
        cases e3 : dg s 9 (p + 2) with
        | none => rfl
        | some i =>
          dsimp only
          by_cases e4 : d = 0 ∨ bt s (p + 3) ≠ 40
          · rw [if_pos e4, if_pos e4]
            have : fine (.node d i [] [] 0) = true := by simp [fine, fits_node, fitsL, VT.depth]
            simp [keepF, this]
          · rw [if_neg e4, if_neg e4, ploop_eq (fun p => pv_eq s f p) d [] [] (p + 4) rfl]
            cases e5 : ploop false (sv f s) s d [] [] (p + 4) with
            | none => rfl
            | some r =>
              obtain ⟨ps, ts, q⟩ := r
              obtain ⟨us, h1, h2, h3⟩ := ploop_parts e5
              simp only [List.nil_append] at h1
              subst h1
              have hd : d ≠ 0 := fun h => e4 (.inl h)
              have hne : ts ≠ [] := by rintro rfl; simp at h2; omega
              obtain ⟨t0, tr, rfl⟩ : ∃ t0 tr, ts = t0 :: tr := by
                cases ts with
                | nil => exact absurd rfl hne
                | cons a b => exact ⟨a, b, rfl⟩
              -- the whole is fine exactly if its parts are, and it is not too deep
              have key : fine (.node d i ps (t0 :: tr) (mxD (t0 :: tr))) = true ↔ fineL (t0 :: tr) = true ∧ hdD (t0 :: tr) ≤ 80 := by
                have hmx := mxD_spec (t0 :: tr)
                unfold fine
                rw [Bool.and_eq_true, decide_eq_true_eq, fits_node]
                show _ ∧ mxD (t0 :: tr) ≤ 80 ↔ _
                have hk : (VT.node d i ps (t0 :: tr) (mxD (t0 :: tr))).depth = mxD (t0 :: tr) := rfl
                rw [hk]
                have hm1 : 1 ≤ mxD (t0 :: tr) := by have := hmx.1 t0 (List.mem_cons_self ..); omega
                have hb : ((t0 :: tr).isEmpty == (((mxD (t0 :: tr) : Nat) : Int) == 0)) = true := by
                  have : (((mxD (t0 :: tr) : Nat) : Int) == 0) = false := by simp; omega
                  rw [this]; rfl
                rw [hb, Bool.true_and, Bool.or_eq_true, fitsL_iff]
                have hd0 : (d == 0) = false := by simpa using hd
                rw [hd0]
                simp only [Bool.false_eq_true, false_or]
                constructor
                · rintro ⟨h4, h5⟩
                  have hall : ∀ t ∈ t0 :: tr, t.depth + 1 = mxD (t0 :: tr) := fun t ht => by
                    obtain ⟨k1, p1, q1, k2⟩ := h3 t ht
                    have := sv_fits k2 k1 _ (h4 t ht)
                    omega
                  have hh : hdD (t0 :: tr) = mxD (t0 :: tr) := hall t0 (List.mem_cons_self ..)
                  refine ⟨?_, by omega⟩
                  unfold fineL
                  rw [List.all_eq_true]
                  intro t ht
                  have h6 := hall t ht
                  rw [Bool.and_eq_true]
                  refine ⟨?_, by rw [hh]; simpa using h6⟩
                  unfold fine
                  rw [Bool.and_eq_true, decide_eq_true_eq]
                  refine ⟨?_, by omega⟩
                  have := h4 t ht
                  rwa [show ((mxD (t0 :: tr) : Nat) : Int) - 1 = (t.depth : Int) by omega] at this
                · rintro ⟨h4, h5⟩
                  unfold fineL at h4
                  rw [List.all_eq_true] at h4
                  have hall : ∀ t ∈ t0 :: tr, fine t = true ∧ t.depth + 1 = hdD (t0 :: tr) := fun t ht => by
                    have := h4 t ht
                    rw [Bool.and_eq_true] at this
                    exact ⟨this.1, by simpa using this.2⟩
                  have hm : mxD (t0 :: tr) = hdD (t0 :: tr) := by
                    rcases hmx.2 with e | ⟨t, ht, e⟩
                    · cases e
                    · rw [e]; exact (hall t ht).2
                  refine ⟨fun t ht => ?_, by omega⟩
                  obtain ⟨h6, h7⟩ := hall t ht
                  unfold fine at h6
                  rw [Bool.and_eq_true] at h6
                  rw [show ((mxD (t0 :: tr) : Nat) : Int) - 1 = (t.depth : Int) by omega]
                  exact h6.1
              have hmh : fineL (t0 :: tr) = true → mxD (t0 :: tr) = hdD (t0 :: tr) := fun h4 => by
                unfold fineL at h4
                rw [List.all_eq_true] at h4
                rcases (mxD_spec (t0 :: tr)).2 with e | ⟨t, ht, e⟩
                · cases e
                · have := h4 t ht
                  rw [Bool.and_eq_true] at this
                  rw [e]; simpa using this.2
              simp only [keepL]
              cases hfl : fineL (t0 :: tr) with
              | true =>
                simp only [if_true]
                by_cases e6 : bt s q = 41
                · by_cases e7 : hdD (t0 :: tr) ≤ 80
                  · have hk := key.2 ⟨hfl, e7⟩
                    simp only [e6, e7, true_and, implies_true, if_true, Bool.false_eq_true, if_false, keepF, hmh hfl]
                    rw [hmh hfl] at hk
                    rw [if_pos hk]
                  · have hk : ¬ fine (.node d i ps (t0 :: tr) (mxD (t0 :: tr))) = true := fun h => e7 (key.1 h).2
                    simp only [e6, e7, true_and, if_true, Bool.false_eq_true, false_implies, if_false, keepF, true_implies]
                    rw [if_neg hk]
                · simp [e6, keepF]
              | false =>
                have hk : ¬ fine (.node d i ps (t0 :: tr) (mxD (t0 :: tr))) = true := fun h => by have := (key.1 h).1; rw [hfl] at this; cases this
                simp only [Bool.false_eq_true, if_false]
                by_cases e6 : bt s q = 41
                · simp only [e6, true_and, false_implies, if_true, keepF]
                  rw [if_neg hk]
                · simp [e6, keepF]
      · rw [if_neg e2, if_neg e2]; rfl

end Go.Proofs.Ytlfdhhmccjkogaa
