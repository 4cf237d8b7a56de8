/-
  Several texts in one: CarP, Stp, Bss, KeA. No condition on any program.
-/
import Derived.Test.YtcmmklcampmkjaaBcG
import Derived.Test.YtcmmklcampmkjaaBcH
import Derived.Test.YtcmmklcampmkjaaBcI
import Derived.Test.YtcmmklcampmkjaaBcE
import Derived.Test.YtcmmklcampmkjaaBcF
import Derived.Test.YtcmmklcampmkjaaBcA

/- Plain: carving balls. The balls in the network of the active nodes, the radius at which carving stops, one carving, a phase, all phases. No condition on any program. -/
namespace Go.Proofs.Ytcmmklcampmkjaa
set_option linter.unusedVariables false

/-- ports between active nodes -/
def kpA (N : NetD) (ac : List Bool) (v i : Nat) : Bool := nthB ac v && nthB ac (nthE (nthL N.ends v) i).1.toNat
def aloneN (N : NetD) (ac : List Bool) : NetD := partN N (allV N.ends.length) (kpA N ac)
/-- distances from a centre in the network of the active nodes -/
def dA (N : NetD) (ac : List Bool) (c : Nat) : List Int := dist (aloneN N ac) c
/-- the active nodes -/
def actL (ac : List Bool) (n : Nat) : List Int := ((List.range n).filter fun v => nthB ac v).map fun (v : Nat) => (v : Int)
theorem mem_actL {ac : List Bool} {n : Nat} {x : Int} : x ∈ actL ac n ↔ ∃ v : Nat, v < n ∧ nthB ac v = true ∧ x = v := by
  simp only [actL, List.mem_map, List.mem_filter, List.mem_range]
  constructor
  · rintro ⟨v, ⟨a, b⟩, e⟩; exact ⟨v, a, b, e.symm⟩
  · rintro ⟨v, a, b, e⟩; exact ⟨v, ⟨a, b⟩, e.symm⟩
theorem rangeF_sorted (p : Nat → Bool) (n : Nat) : (((List.range n).filter p).map fun (v : Nat) => (v : Int)).Pairwise (· < ·) :=
  List.pairwise_map.2 ((List.pairwise_lt_range.filter p).imp fun h => by omega)
theorem actL_sorted (ac : List Bool) (n : Nat) : (actL ac n).Pairwise (· < ·) := rangeF_sorted _ n
theorem sorted_once {l : List Int} (h : l.Pairwise (· < ·)) {a b : Nat} (ha : a < l.length) (hb : b < l.length) (e : nth l a = nth l b) : a = b := by
  rw [nth_eq ha, nth_eq hb] at e
  have key := List.pairwise_iff_getElem.1 h
  rcases Nat.lt_trichotomy a b with h1 | h1 | h1
  · have := key a b ha hb h1; omega
  · exact h1
  · have := key b a hb ha h1; omega
theorem actL_pick (N : NetD) (ac : List Bool) : PickOk N (actL ac N.ends.length) := by
  refine ⟨fun k hk => ?_, fun a b ha hb e => sorted_once (actL_sorted _ _) ha hb e⟩
  obtain ⟨v, hv, _, e⟩ := mem_actL.1 (nth_mem hk)
  exact ⟨v, e, hv⟩
theorem actL_len (ac : List Bool) (n : Nat) : (actL ac n).length ≤ n := by
  unfold actL
  rw [List.length_map]
  exact Nat.le_trans (List.length_filter_le _ _) (by simp)
section
variable {N : NetD} {ac : List Bool}
theorem kpA_keep (hg : N.good = true) : KeepS N (fun v w => nthB ac v = true ∧ nthB ac w = true) (kpA N ac) := ⟨fun v i w hv hi e => by unfold kpA; rw [e, Bool.and_eq_true, Int.toNat_natCast]⟩
theorem alone_n (N : NetD) (ac : List Bool) : (aloneN N ac).ends.length = N.ends.length := by unfold aloneN; rw [part_n, allV_len]
theorem alone_good (hg : N.good = true) : (aloneN N ac).good = true :=
  part_good hg (allV_pick N) ((kpA_keep hg).ok hg fun v w h => h.symm) (by rw [allV_len]; exact (good_n hg).1) (by rw [allV_len]; exact (good_n hg).2)
theorem alone_corr (hg : N.good = true) : Corr (aloneN N ac) (partN N (actL ac N.ends.length) (kpB N (actL ac N.ends.length))) (fun u a => a < (actL ac N.ends.length).length ∧ nth (actL ac N.ends.length) a = (u : Int)) := by
  refine corr_part hg (kpA_keep hg) (fun v w h => h.symm) (actL_pick N ac) fun v w hw hv => ?_
  obtain ⟨v', _, hv1, e⟩ := mem_actL.1 hv
  have e2 : v = v' := by omega
  subst e2
  rw [mem_actL]
  exact ⟨fun h => ⟨w, hw, h.2, rfl⟩, fun ⟨w', _, h, e⟩ => ⟨hv1, by rw [show w = w' by omega]; exact h⟩⟩
theorem keep_good (hg : N.good = true) {c : Nat} (hc : c < N.ends.length) (hac : nthB ac c = true) : (partN N (actL ac N.ends.length) (kpB N (actL ac N.ends.length))).good = true :=
  part_good hg (actL_pick N ac) (kpB_ok hg (actL_pick N ac)) (List.length_pos_of_mem (mem_actL.2 ⟨c, hc, hac, rfl⟩)) (by have := actL_len ac N.ends.length; have := (good_n hg).2; omega)
theorem dA_len (hg : N.good = true) {c : Nat} (hc : c < N.ends.length) : (dA N ac c).length = N.ends.length := by
  unfold dA
  rw [dist_len (good_nodes (alone_good hg)) (by rw [alone_n]; exact hc), alone_n]
theorem dA_low (hg : N.good = true) {c v : Nat} (hc : c < N.ends.length) (hv : v < N.ends.length) : -1 ≤ nth (dA N ac c) v ∧ nth (dA N ac c) v ≤ N.ends.length := by
  have := dist_low (good_nodes (alone_good (ac := ac) hg)) (v := c) (by rw [alone_n]; exact hc) (j := v) (by rw [alone_n]; exact hv)
  rw [alone_n] at this
  exact this
theorem dA_self (hg : N.good = true) {c : Nat} (hc : c < N.ends.length) : nth (dA N ac c) c = 0 := dist_self (good_nodes (alone_good hg)) (by rw [alone_n]; exact hc)
/-- the ball as the reference has it -/
theorem ball_alone (hg : N.good = true) {c a : Nat} (hc : c < N.ends.length) (hac : nthB ac c = true) (ha : a < (actL ac N.ends.length).length) (ea : nth (actL ac N.ends.length) a = (c : Int)) (r : Int) :
    (ball (partN N (actL ac N.ends.length) (kpB N (actL ac N.ends.length))) a r).map (fun k => nth (actL ac N.ends.length) k.toNat) = ballL (dA N ac c) r N.ends.length := by
  have hC := alone_corr (ac := ac) hg
  have hP := good_nodes (alone_good (ac := ac) hg)
  have hQ := good_nodes (keep_good hg hc hac)
  have hs := actL_sorted ac N.ends.length
  have hmem : ∀ x : Int, x ∈ actL ac N.ends.length ↔ ∃ v : Nat, v < N.ends.length ∧ nthB ac v = true ∧ x = v := fun x => mem_actL
  generalize actL ac N.ends.length = Z at *
  have hn : (partN N Z (kpB N Z)).ends.length = Z.length := part_n _ _ _
  refine rise_ext ?_ (rangeF_sorted _ _) fun x => ?_
  · refine List.pairwise_map.2 ?_
    unfold ball ballL
    refine List.pairwise_map.2 ((List.pairwise_lt_range.filter _).imp_of_mem fun {i j} hi hj h => ?_)
    rw [List.mem_filter, List.mem_range, hn] at hi hj
    rw [Int.toNat_natCast, Int.toNat_natCast, nth_eq hi.1, nth_eq hj.1]
    exact List.pairwise_iff_getElem.1 hs i j hi.1 hj.1 h
  · rw [List.mem_map]
    constructor
    · rintro ⟨y, hy, rfl⟩
      obtain ⟨b, hb, hin, rfl⟩ := mem_ball.1 hy
      rw [hn] at hb
      rw [Int.toNat_natCast]
      obtain ⟨u, hu, _, eu⟩ := (hmem _).1 (nth_mem hb)
      rw [eu]
      rw [hC.eq hP hQ (u := c) (t := u) ⟨ha, ea⟩ ⟨hb, eu⟩] at hin
      exact List.mem_map.2 ⟨u, List.mem_filter.2 ⟨List.mem_range.2 hu, hin⟩, rfl⟩
    · intro hx
      obtain ⟨u, hu, rfl⟩ := List.mem_map.1 hx
      rw [List.mem_filter, List.mem_range] at hu
      obtain ⟨hun, hin⟩ := hu
      obtain ⟨b, ⟨hb, eb⟩, ed⟩ := hC.dist hP hQ (u := c) (a := a) (t := u) ⟨ha, ea⟩ (by rw [alone_n]; exact hun) (inB_le hin).1
      refine ⟨b, mem_ball.2 ⟨b, by rw [hn]; exact hb, ?_, rfl⟩, by rw [Int.toNat_natCast]; exact eb⟩
      rw [ed]; exact hin
end
/-- how far a ball is too large against the next one -/
def stopB (D : List Int) (n r : Nat) : Bool := decide ((ballL D ((r + 1 : Nat) : Int) n).length ≤ 2 * (ballL D (r : Int) n).length)
def radG (D : List Int) (n : Nat) : Nat → Nat → Nat
  | 0, r => r
  | f + 1, r => if stopB D n r then r else radG D n f (r + 1)
/-- the radius that is carved -/
def radD (D : List Int) (n : Nat) : Nat := radG D n 41 0
theorem radG_is {D : List Int} {n r : Nat} (h : stopB D n r = true) (hb : ∀ s, s < r → stopB D n s = false) : ∀ f a, a ≤ r → r ≤ a + f → radG D n f a = r
  | 0, a, h1, h2 => by show a = r; omega
  | f + 1, a, h1, h2 => by
    unfold radG
    by_cases e : a = r
    · subst e; rw [h, if_pos rfl]
    · rw [hb a (by omega), if_neg (by simp)]
      exact radG_is h hb f (a + 1) (by omega) (by omega)
theorem radD_is {D : List Int} {n r : Nat} (h : stopB D n r = true) (hb : ∀ s, s < r → stopB D n s = false) (hr : r ≤ 41) : radD D n = r := radG_is h hb 41 0 (Nat.zero_le _) (by omega)
theorem ballL_snoc (D : List Int) (r : Int) (m : Nat) : ballL D r (m + 1) = ballL D r m ++ if inB (nth D m) 0 r then [(m : Int)] else [] := by
  unfold ballL
  rw [List.range_succ, List.filter_append, List.map_append]
  by_cases h : inB (nth D m) 0 r = true
  · rw [if_pos h, List.filter_cons_of_pos (by simpa using h)]; rfl
  · rw [if_neg h, List.filter_cons_of_neg (by simpa using h)]; rfl
/-- a ball is the smaller one and a shell -/
theorem ball_shell (D : List Int) (r : Nat) : ∀ n, (ballL D ((r + 1 : Nat) : Int) n).length = (ballL D (r : Int) n).length + (fibL D (r + 1) n).length
  | 0 => rfl
  | n + 1 => by
    rw [ballL_snoc, ballL_snoc, List.length_append, List.length_append, ball_shell D r n]
    by_cases h1 : nth D n = ((r + 1 : Nat) : Int)
    · rw [fibL_yes h1, List.length_append, h1, if_pos (inB_true (by omega) (by omega)), if_neg (by rw [inB_high (by omega)]; simp)]
      simp only [List.length_cons, List.length_nil]; omega
    · rw [fibL_no h1]
      by_cases h2 : inB (nth D n) 0 (r : Int) = true
      · have := inB_le h2
        rw [if_pos h2, if_pos (inB_true (by omega) (by omega))]; omega
      · rw [if_neg h2, if_neg (fun h => h2 (by have := inB_le h; exact inB_true (by omega) (by omega)))]; simp
theorem ball_zero (D : List Int) : ∀ n, (ballL D 0 n).length = (fibL D 0 n).length
  | 0 => rfl
  | n + 1 => by
    rw [ballL_snoc, List.length_append, ball_zero D n]
    by_cases h1 : nth D n = ((0 : Nat) : Int)
    · rw [fibL_yes h1, List.length_append, h1, if_pos (inB_true (by omega) (by omega))]
    · rw [fibL_no h1, if_neg (fun h => h1 (by have := inB_le h; omega))]; simp
theorem fibL_none {D : List Int} {c : Nat} : ∀ n, (∀ v, v < n → nth D v ≠ (c : Int)) → (fibL D c n).length = 0
  | 0, _ => rfl
  | n + 1, h => by rw [fibL_no (h n (by omega))]; exact fibL_none n fun v hv => h v (by omega)
theorem stop_far {D : List Int} {n r : Nat} (h : ∀ v, v < n → nth D v ≤ (r : Int)) : stopB D n r = true := by
  unfold stopB
  rw [decide_eq_true_eq, ball_shell, fibL_none n fun v hv => by have := h v hv; omega]
  omega
theorem stop_shell {D : List Int} {n r : Nat} : stopB D n r = true ↔ (fibL D (r + 1) n).length ≤ (ballL D (r : Int) n).length := by
  unfold stopB
  rw [decide_eq_true_eq, ball_shell]
  omega
theorem mem_ballL {D : List Int} {r : Int} {n : Nat} {x : Int} : x ∈ ballL D r n ↔ ∃ v : Nat, v < n ∧ inB (nth D v) 0 r = true ∧ x = v := by
  simp only [ballL, List.mem_map, List.mem_filter, List.mem_range]
  constructor
  · rintro ⟨v, ⟨a, b⟩, e⟩; exact ⟨v, a, b, e.symm⟩
  · rintro ⟨v, a, b, e⟩; exact ⟨v, ⟨a, b⟩, e.symm⟩

/-- clusters, active nodes, colours -/
structure CarD where
  cl : List Int
  ac : List Bool
  co : List Int
/-- one centre -/
def carC (N : NetD) (ph : Nat) (s : CarD) (c : Int) : CarD :=
  if nthB s.ac c.toNat then
    ⟨(List.range N.ends.length).map fun v => if inB (nth (dA N s.ac c.toNat) v) 0 (radD (dA N s.ac c.toNat) N.ends.length : Nat) then (s.co.length : Int) else nth s.cl v,
     (List.range N.ends.length).map fun v => nthB s.ac v && !inB (nth (dA N s.ac c.toNat) v) 0 ((radD (dA N s.ac c.toNat) N.ends.length + 1 : Nat) : Int),
     s.co ++ [(ph : Int)]⟩
  else s
def opens (cl : List Int) (n : Nat) : List Bool := (List.range n).map fun v => decide (nth cl v < 0)
/-- a phase; carving with all centres so far -/
def carF (N : NetD) (ord : List Int) (ph : Nat) (cl co : List Int) (k : Nat) : CarD := (ord.take k).foldl (carC N ph) ⟨cl, opens cl N.ends.length, co⟩
def carP (N : NetD) (ord : List Int) : Nat → List Int × List Int
  | 0 => (List.replicate N.ends.length (-1), [])
  | k + 1 => ((carF N ord k (carP N ord k).1 (carP N ord k).2 ord.length).cl, (carF N ord k (carP N ord k).1 (carP N ord k).2 ord.length).co)
/-- how many nodes have no cluster -/
def bareC (cl : List Int) (n : Nat) : Nat := ((List.range n).filter fun v => decide (nth cl v < 0)).length
structure CarOk (N : NetD) (s : CarD) : Prop where
  lcl : s.cl.length = N.ends.length
  lac : s.ac.length = N.ends.length
  bare : ∀ v, v < N.ends.length → nthB s.ac v = true → nth s.cl v < 0
  val : ∀ v, v < N.ends.length → -1 ≤ nth s.cl v ∧ nth s.cl v < (s.co.length : Int)
  room : s.co.length + bareC s.cl N.ends.length ≤ N.ends.length
theorem filterC_lt {l : List Nat} {p q : Nat → Bool} (h : ∀ x ∈ l, p x = true → q x = true) {y : Nat} (hy : y ∈ l) (h1 : p y = false) (h2 : q y = true) : (l.filter p).length < (l.filter q).length := by
  induction l with
  | nil => cases hy
  | cons a l ih =>
    have hle : (l.filter p).length ≤ (l.filter q).length := by
      have hl : ∀ x ∈ l, p x = true → q x = true := fun x hx => h x (List.mem_cons_of_mem _ hx)
      clear ih h hy
      induction l with
      | nil => simp
      | cons b l ih2 =>
        have := ih2 fun x hx => hl x (List.mem_cons_of_mem _ hx)
        have hb := hl b (List.mem_cons_self ..)
        rw [List.filter_cons, List.filter_cons]
        by_cases e1 : p b = true
        · rw [if_pos e1, if_pos (hb e1)]; simp; omega
        · rw [if_neg e1]; split <;> simp <;> omega
    have ha := h a (List.mem_cons_self ..)
    rw [List.filter_cons, List.filter_cons]
    rcases List.mem_cons.1 hy with e | e
    · subst e
      rw [if_neg (by rw [h1]; simp), if_pos h2]; simp; omega
    · have := ih (fun x hx => h x (List.mem_cons_of_mem _ hx)) e
      by_cases e1 : p a = true
      · rw [if_pos e1, if_pos (ha e1)]; simp; omega
      · rw [if_neg e1]; split <;> simp <;> omega
theorem nth_mapR {n : Nat} {f : Nat → Int} {v : Nat} (h : v < n) : nth ((List.range n).map f) v = f v := by simp [nth, h]
theorem nthB_mapR {n : Nat} {f : Nat → Bool} {v : Nat} (h : v < n) : nthB ((List.range n).map f) v = f v := by simp [nthB, h]
section
variable {N : NetD} {ord : List Int}
/-- a carving keeps things in order, and covers a node more -/
theorem CarOk.step (hg : N.good = true) {s : CarD} (h : CarOk N s) {ph c : Nat} (hc : c < N.ends.length) (hac : nthB s.ac c = true) :
    CarOk N (carC N ph s (c : Int)) ∧ bareC (carC N ph s (c : Int)).cl N.ends.length < bareC s.cl N.ends.length ∧ (carC N ph s (c : Int)).co.length = s.co.length + 1 := by
  have hself := dA_self (ac := s.ac) hg hc
  unfold carC
  rw [Int.toNat_natCast, if_pos hac]
  have hb : bareC ((List.range N.ends.length).map fun v => if inB (nth (dA N s.ac c) v) 0 (radD (dA N s.ac c) N.ends.length : Nat) then (s.co.length : Int) else nth s.cl v) N.ends.length < bareC s.cl N.ends.length := by
    unfold bareC
    refine filterC_lt (fun x hx hp => ?_) (List.mem_range.2 hc) ?_ (by rw [decide_eq_true_eq]; exact h.bare c hc hac)
    · rw [List.mem_range] at hx
      rw [decide_eq_true_eq] at hp ⊢
      rw [nth_mapR hx] at hp
      split at hp
      · omega
      · exact hp
    · rw [decide_eq_false_iff_not, nth_mapR hc, hself, if_pos (inB_true (by omega) (by omega))]
      omega
  refine ⟨⟨by simp, by simp, fun v hv hav => ?_, fun v hv => ?_, ?_⟩, hb, by simp⟩
  · dsimp only at hav ⊢
    rw [nthB_mapR hv, Bool.and_eq_true] at hav
    rw [nth_mapR hv, if_neg]
    · exact h.bare v hv hav.1
    · intro e
      have := inB_le e
      rw [inB_true (by omega) (by omega)] at hav
      simp at hav
  · dsimp only
    rw [nth_mapR hv, List.length_append]
    have := h.val v hv
    split
    · simp; omega
    · simp; omega
  · dsimp only
    have := h.room
    rw [List.length_append]
    simp only [List.length_cons, List.length_nil]
    omega
theorem carC_no {s : CarD} {ph : Nat} {c : Int} (h : nthB s.ac c.toNat = false) : carC N ph s c = s := by unfold carC; rw [h, if_neg (by simp)]
theorem carF_succ (ph : Nat) (cl co : List Int) {k : Nat} (hk : k < ord.length) : carF N ord ph cl co (k + 1) = carC N ph (carF N ord ph cl co k) (nth ord k) := by
  unfold carF
  rw [List.take_succ_eq_append_getElem hk, List.foldl_append, nth_eq hk]
  rfl
def CarIn (N : NetD) (cl co : List Int) : Prop := CarOk N ⟨cl, opens cl N.ends.length, co⟩
theorem opens_len (cl : List Int) (n : Nat) : (opens cl n).length = n := by simp [opens]
theorem nthB_opens {cl : List Int} {n v : Nat} (h : v < n) : nthB (opens cl n) v = decide (nth cl v < 0) := nthB_mapR h
theorem CarOk.again {s : CarD} (h : CarOk N s) : CarIn N s.cl s.co :=
  ⟨h.lcl, opens_len _ _, fun v hv hav => by dsimp only at hav; rw [nthB_opens hv, decide_eq_true_eq] at hav; exact hav, h.val, h.room⟩
theorem CarIn.start (N : NetD) : CarIn N (List.replicate N.ends.length (-1)) [] := by
  have hb : bareC (List.replicate N.ends.length (-1)) N.ends.length ≤ N.ends.length := by
    unfold bareC
    exact Nat.le_trans (List.length_filter_le _ _) (by simp)
  refine ⟨by simp, opens_len _ _, fun v hv hav => ?_, fun v hv => ?_, by simpa using hb⟩
  · dsimp only; rw [nth_replicate _ _ hv]; omega
  · dsimp only; rw [nth_replicate _ _ hv]; simp
theorem CarIn.fold (hg : N.good = true) (ho : ∀ j, j < ord.length → ∃ t : Nat, nth ord j = t ∧ t < N.ends.length) {ph : Nat} {cl co : List Int} (h : CarIn N cl co) : ∀ k, k ≤ ord.length → CarOk N (carF N ord ph cl co k) ∧ bareC (carF N ord ph cl co k).cl N.ends.length ≤ bareC cl N.ends.length
  | 0, _ => ⟨h, Nat.le_refl _⟩
  | k + 1, hk => by
    obtain ⟨h1, h2⟩ := CarIn.fold hg ho h k (by omega)
    obtain ⟨t, et, ht⟩ := ho k (by omega)
    rw [carF_succ _ _ _ (by omega), et]
    cases e : nthB (carF N ord ph cl co k).ac t with
    | false => rw [carC_no (by rw [Int.toNat_natCast]; exact e)]; exact ⟨h1, h2⟩
    | true =>
      obtain ⟨a, b, _⟩ := h1.step (ph := ph) hg ht e
      exact ⟨a, by omega⟩
/-- as long as a node is bare, a phase covers one -/
theorem CarIn.less (hg : N.good = true) (ho : ∀ j, j < ord.length → ∃ t : Nat, nth ord j = t ∧ t < N.ends.length) {ph : Nat} {cl co : List Int} (h : CarIn N cl co) {v : Nat} (hv : v < N.ends.length) (hb : nth cl v < 0) : ∀ k, k ≤ ord.length →
    bareC (carF N ord ph cl co k).cl N.ends.length < bareC cl N.ends.length ∨ ((carF N ord ph cl co k) = ⟨cl, opens cl N.ends.length, co⟩ ∧ ∀ j, j < k → nth ord j ≠ (v : Int))
  | 0, _ => .inr ⟨rfl, fun j hj => absurd hj (by omega)⟩
  | k + 1, hk => by
    obtain ⟨t, et, ht⟩ := ho k (by omega)
    rw [carF_succ _ _ _ (by omega), et]
    rcases CarIn.less hg ho (ph := ph) h hv hb k (by omega) with h1 | ⟨h1, h2⟩
    · left
      obtain ⟨h3, _⟩ := CarIn.fold hg ho (ph := ph) h k (by omega)
      cases e : nthB (carF N ord ph cl co k).ac t with
      | false => rw [carC_no (by rw [Int.toNat_natCast]; exact e)]; exact h1
      | true =>
        obtain ⟨_, b, _⟩ := h3.step (ph := ph) hg ht e
        omega
    · rw [h1]
      cases e : nthB (opens cl N.ends.length) t with
      | false =>
        right
        refine ⟨carC_no (by rw [Int.toNat_natCast]; exact e), fun j hj => ?_⟩
        by_cases ej : j = k
        · subst ej
          rw [et]
          intro e2
          rw [show t = v by omega, nthB_opens hv] at e
          simp at e; omega
        · exact h2 j (by omega)
      | true =>
        left
        exact (CarOk.step (ph := ph) hg h ht e).2.1
theorem bareC_zero {cl : List Int} {n : Nat} : bareC cl n = 0 ↔ ∀ v, v < n → ¬ nth cl v < 0 := by
  unfold bareC
  rw [List.length_eq_zero_iff, List.filter_eq_nil_iff]
  simp only [List.mem_range, decide_eq_true_eq]
theorem carP_in (hg : N.good = true) (ho : ∀ j, j < ord.length → ∃ t : Nat, nth ord j = t ∧ t < N.ends.length) : ∀ k, CarIn N (carP N ord k).1 (carP N ord k).2
  | 0 => CarIn.start N
  | k + 1 => ((carP_in hg ho k).fold hg ho (ph := k) ord.length (Nat.le_refl _)).1.again
/-- a phase covers a node, if one is bare -/
theorem carP_less (hg : N.good = true) (ho : ∀ j, j < ord.length → ∃ t : Nat, nth ord j = t ∧ t < N.ends.length) (hall : ∀ t : Nat, t < N.ends.length → (t : Int) ∈ ord) (k : Nat) (h : 0 < bareC (carP N ord k).1 N.ends.length) :
    bareC (carP N ord (k + 1)).1 N.ends.length < bareC (carP N ord k).1 N.ends.length := by
  have hex : ∃ v, v < N.ends.length ∧ nth (carP N ord k).1 v < 0 := by
    apply Classical.byContradiction
    intro hn
    have := bareC_zero.2 (show ∀ v, v < N.ends.length → ¬ nth (carP N ord k).1 v < 0 from fun v hv e => hn ⟨v, hv, e⟩)
    omega
  obtain ⟨v, hv, hb⟩ := hex
  rcases (carP_in hg ho k).less hg ho (ph := k) hv hb ord.length (Nat.le_refl _) with h1 | ⟨_, h2⟩
  · exact h1
  · obtain ⟨j, hj, e⟩ := List.mem_iff_getElem.1 (hall v hv)
    exact absurd (by rw [nth_eq hj]; exact e) (h2 j hj)
theorem carF_idle {ph : Nat} {cl co : List Int} (h : bareC cl N.ends.length = 0) (ho : ∀ j, j < ord.length → ∃ t : Nat, nth ord j = t ∧ t < N.ends.length) : ∀ k, k ≤ ord.length → carF N ord ph cl co k = ⟨cl, opens cl N.ends.length, co⟩
  | 0, _ => rfl
  | k + 1, hk => by
    obtain ⟨t, et, ht⟩ := ho k (by omega)
    rw [carF_succ _ _ _ (by omega), carF_idle h ho k (by omega), et]
    refine carC_no ?_
    dsimp only
    rw [Int.toNat_natCast, nthB_opens ht, decide_eq_false_iff_not]
    exact bareC_zero.1 h t ht
theorem carP_idle {k : Nat} (ho : ∀ j, j < ord.length → ∃ t : Nat, nth ord j = t ∧ t < N.ends.length) (h : bareC (carP N ord k).1 N.ends.length = 0) : ∀ d, carP N ord (k + d) = carP N ord k
  | 0 => rfl
  | d + 1 => by
    have ih := carP_idle ho h d
    show ((carF N ord (k + d) (carP N ord (k + d)).1 (carP N ord (k + d)).2 ord.length).cl, (carF N ord (k + d) (carP N ord (k + d)).1 (carP N ord (k + d)).2 ord.length).co) = _
    rw [ih, carF_idle h ho _ (Nat.le_refl _)]
end
/-- what ball carving hands back -/
def carN (N : NetD) (ord : List Int) : List Int × List Int := carP N ord N.ends.length
theorem carN_is {N : NetD} {ord : List Int} (ho : ∀ j, j < ord.length → ∃ t : Nat, nth ord j = t ∧ t < N.ends.length) {k : Nat} (hk : k ≤ N.ends.length) (h : bareC (carP N ord k).1 N.ends.length = 0) : carP N ord k = carN N ord := by
  unfold carN
  have := carP_idle ho h (N.ends.length - k)
  rw [show k + (N.ends.length - k) = N.ends.length by omega] at this
  exact this.symm
end Go.Proofs.Ytcmmklcampmkjaa

/- Steps of regions that draw their order: an append of a row that the call owns too; a region cut behind its operations. No condition on any program. -/
namespace Go.Proofs.Ytcmmklcampmkjaa
open Go.ChangeShapes Go.WideShapes Go.ChangeAt Go.RowKit
set_option linter.unusedVariables false

/-- append, at a step of a region that draws its order, of a row that the call owns too -/
theorem step_append_own2 {P : Program} {ops : Array Oper} {o : Oper} {a : Act} {K : Act → World → Prop} {Q : Exit → Act → World → Prop} {E : Prop} {t e : TypeId} {z : Value} {sz bytes : Nat}
    (ht : P.underlying t = some (.slice e)) (hinfo : (P.info? e).map (fun i => (i.zero, i.size, i.bytes)) = some (some z, sz, bytes)) (hz1 : z.cells.size = sz) (hsz : 0 < sz) (hby : bytes ≤ 64)
    (w : World) (hgd : o.guard = none) {s : Operand} (x : Operand) (ho : o.op = .call { callee := .builtin .append, args := #[s, x], argTypes := #[t, t] })
    {base : Nat} {v : Value} {n : Nat} {xs : List Value} (hown : w.ownsRow base e sz v n xs) (hs : a.eval s = v) {base2 : Nat} {e2 : TypeId} {v2 : Value} {m : Nat} (news : List Value) (hown2 : w.ownsRow base2 e2 sz v2 m news) (hx : a.eval x = v2)
    (h1 : ∀ u ∈ news, u.oneCell' = true) (hlen : n + m ≤ 1099511627776) (hbase : base ≤ w.heap.size)
    (h : ∀ v' w', w'.ownsRow base e sz v' (n + m) (xs ++ news) → w.grownBy w' v.ownBlock → (v'.ownBlock = v.ownBlock ∨ ∃ g, v'.ownBlock = some g ∧ w.heap.size ≤ g) → K (a.put o.dst v') w') :
    if Region.wanted o (yielded ops a.tmps) = true then Oper.wp P o a w K Q else E := by
  have hw : Region.wanted o (yielded ops a.tmps) = true := by simp [Region.wanted, hgd]
  rw [if_pos hw]
  obtain ⟨i, hi, hzz⟩ := Option.map_eq_some_iff.1 hinfo
  simp only [Prod.mk.injEq] at hzz
  obtain ⟨hz, hsz2, hb⟩ := hzz
  obtain ⟨hl2, h2⟩ := hown2
  rcases h2 with ⟨rfl, hm0⟩ | ⟨g2, cap2, cur2, rfl, hg2, hh2, hn2, hm2, hs2, ht2⟩
  · subst hm0
    have hnil : news = [] := List.eq_nil_of_length_eq_zero (by rw [hl2, Nat.zero_mul])
    subst hnil
    have hrun := run_append_owned_none (P := P) (w := w) base t o.type e i sz ht hi v n xs hown
    have h3 := h v w (by simpa using hown) ⟨rfl, rfl, rfl, Nat.le_refl _, fun _ _ _ => rfl⟩ (.inl rfl)
    unfold Oper.wp
    simp [execOp, ho, resolve, invoke, builtin, hs, hx, hrun, Result.andThen]
    exact h3
  · have hnews : ∀ j u, news[j]? = some u → w.cell? ((⟨g2, 0, none⟩ : Addr).add j) = some u := fun j u hj => by
      have hjl : j < m * sz := by rw [← hl2]; exact (List.getElem?_eq_some_iff.1 hj).1
      rw [Go.WideShapes.add_plain g2 0 j, cell_of_row w g2 _ cur2 e2 (0, 0) hh2, Nat.zero_add]
      rw [← ht2, List.getElem?_take_of_lt hjl] at hj
      simpa using hj
    obtain ⟨v', w', hr, a1, a2, _, a4⟩ := run_append_own_at (P := P) w base t o.type e i z sz bytes ht hi hz hsz2 hb hz1 hsz v n xs hown ⟨g2, 0, none⟩ m cap2 news hl2 hnews h1 (by unfold maxLen; omega) (by
      have : (n + m) * bytes ≤ 1099511627776 * 64 := Nat.mul_le_mul hlen hby
      omega) hbase
    have h3 := h v' w' a1 a2 (a4.imp id fun e => ⟨_, e, Nat.le_refl _⟩)
    unfold Oper.wp execOp
    simp only [ho, resolve, invoke, builtin, Sem.run_bind, Sem.run_pure, Result.andThen_ok, List.map_toArray, List.map_cons, List.map_nil, hs, hx, hr]
    exact h3
/-- a block known whole is a row of one -/
theorem owns_box {w : World} {g : Nat} {cs : Array Value} {e : TypeId} (h : BoxN w g cs e) {k : Nat} (hk : cs.size = k) (base : Nat) (hb : base ≤ g) : w.ownsRow base e k (.slice (some ⟨g, 0, none⟩) 1 1) 1 cs.toList := by
  have h' : w.heap[g]? = some (.cells cs e (0, 0)) := h
  exact ⟨by simp [hk], .inr ⟨g, 1, cs, rfl, hb, h', Nat.le_refl _, by unfold maxLen; omega, by omega, List.take_of_length_le (by simp [hk])⟩⟩
theorem run_append_zero {P : Program} {w : World} (base : Nat) (t ty e : TypeId) (i : TypeInfo) (size : Nat) (ht : P.underlying t = some (.slice e)) (hi : P.info? e = some i)
    (v : Value) (n : Nat) (xs : List Value) (hown : w.ownsRow base e size v n xs) (A : Option Addr) (c : Nat) :
    (Builtin.append_ #[t, t] ty #[v, .slice A 0 c]).run P w = .ok v w := by
  rcases hown.2 with ⟨rfl, rfl⟩ | ⟨g, cap, cur, rfl, _, _, hnc, _⟩
  · cases A <;> simp [Builtin.append_, run_underlying ht, sizeOf, typeInfo, hi, Builtin.lenOf, Builtin.firstCells, loadCells, loadCellsFrom]
  · cases A <;> simp [Builtin.append_, run_underlying ht, sizeOf, typeInfo, hi, Builtin.lenOf, Builtin.firstCells, hnc, storeCells, loadCells, loadCellsFrom]
/-- append of nothing, wherever it lies -/
theorem append_zero {P : Program} {ops : Array Oper} {rest : List Oper} {o : Oper} {a : Act} {Q : Exit → Act → World → Prop} {t e : TypeId} {i : TypeInfo} {size : Nat}
    (ht : P.underlying t = some (.slice e)) (hi : P.info? e = some i) (w : World) (hgd : o.guard = none) {s : Operand} (x : Operand) (ho : o.op = .call { callee := .builtin .append, args := #[s, x], argTypes := #[t, t] })
    {base : Nat} {v : Value} {n : Nat} {xs : List Value} (hown : w.ownsRow base e size v n xs) (hs : a.eval s = v) {A : Option Addr} {c : Nat} (hx : a.eval x = .slice A 0 c)
    (h : wpList P ops Q rest (a.put o.dst v) w) : wpList P ops Q (o :: rest) a w := by
  refine wpList_plain hgd fun K hK => ?_
  have hrun := run_append_zero (P := P) (w := w) base t o.type e i size ht hi v n xs hown A c
  unfold Oper.wp
  simp [execOp, ho, resolve, invoke, builtin, hs, hx, hrun, Result.andThen]
  exact hK _ _ h
theorem nameA {K : Act → World → Prop} {a : Act} {w : World} (h : ∀ W, Hid (W = w) → K a W) : K a w := h w (Lib.hid rfl)
/-- a cell that is known -/
structure CellH (w : World) (p : Addr) (v : Value) : Prop where
  cell : w.cell? p = some v
  lt : p.block < w.heap.size
theorem CellH.far {w w' : World} {p : Addr} {v : Value} {row : Option Nat} (h : CellH w p v) (hg : w.grownBy w' row) (hr : ∀ g, row = some g → g ≠ p.block) : CellH w' p v :=
  ⟨(World.cell?_of_block (hg.block p.block h.lt (fun e => hr _ e.symm rfl))).trans h.cell, Nat.lt_of_lt_of_le h.lt hg.size⟩
theorem CellH.still {w w' : World} {p : Addr} {v : Value} (h : CellH w p v) (hg : w.grownBy w' none) : CellH w' p v := h.far hg (fun g e => by cases e)
/-- values put into slots, one after another -/
def puts (a : Act) : List Nat → List Value → Act
  | d :: ds, v :: vs => puts (a.put (some d) v) ds vs
  | _, _ => a
/-- whatever order the operations came up in: what is known behind them -/
theorem region_cut {P : Program} {id : Nat} {ops : Array Oper} {b : Bool} {Q : Exit → Act → World → Prop} {a0 : Act} {w : World} (ds : List Nat) (R : List Value → World → Prop)
    (h1 : (Code.region id ops b).wp P (fun e a w' => ∃ vs, R vs w' ∧ e = .normal ∧ a = puts a0 ds vs) a0 w)
    (h2 : ∀ vs w', R vs w' → Q .normal (puts a0 ds vs) w') : (Code.region id ops b).wp P Q a0 w :=
  Code.wp_mono (fun e a w' ⟨vs, hr, he, ha⟩ => by subst he ha; exact h2 vs w' hr) h1
end Go.Proofs.Ytcmmklcampmkjaa

/- Slices of slices of booleans that a call owns and appends rows to; a place of one, and what a store leaves. No condition on any program. -/
namespace Go.Proofs.Ytcmmklcampmkjaa
open Go.RowKit
set_option linter.unusedVariables false
abbrev BoolSSx := SSx BoolS

/-- v is a slice of slices that reads as xss; its own row lies from block base on; its rows lie one behind the other, from base on and below top -/
def OwnBS (w : World) (base top : Nat) (e : TypeId) (v : Value) (xss : List (List Bool)) : Prop :=
  ∃ (vs : List Value) (lo hi : Nat → Nat), vs.length = xss.length ∧ Own w base e v vs ∧ base ≤ top ∧ top ≤ w.heap.size ∧
    (∀ j, j < xss.length → ∃ u, vs[j]? = some u ∧ base ≤ lo j ∧ hi j ≤ top ∧ BoolS w (lo j) (hi j) u (nthL xss j) ∧ ∀ g, v.ownBlock = some g → g < lo j ∨ hi j ≤ g) ∧
    ∀ i j, i < j → j < xss.length → hi i ≤ lo j


section
variable {w w' : World} {base top : Nat} {e : TypeId} {v : Value} {xss : List (List Bool)}
theorem OwnBS.nil (w : World) (base top : Nat) (e : TypeId) (h1 : base ≤ top) (h2 : top ≤ w.heap.size) : OwnBS w base top e (.slice none 0 0) [] :=
  ⟨[], fun _ => 0, fun _ => 0, rfl, Own.nil _ _ _, h1, h2, fun j hj => absurd hj (by simp), fun i j _ hj => absurd hj (by simp)⟩
theorem OwnBS.below (h : OwnBS w base top e v xss) (hb : Below w.heap.size w w') : OwnBS w' base top e v xss := by
  obtain ⟨vs, lo, hi, h1, h2, h3, h4, h5, h6⟩ := h
  refine ⟨vs, lo, hi, h1, h2.kept (row := none) ⟨hb.os, hb.tape, hb.output, hb.size, fun k hk _ => hb.block k hk⟩ (by cases hv : v.ownBlock with
    | none => exact .inl rfl
    | some g => right; simp), h3, Nat.le_trans h4 hb.size, fun j hj => ?_, h6⟩
  obtain ⟨u, a1, a2, a3, a4, a5⟩ := h5 j hj
  exact ⟨u, a1, a2, a3, a4.below hb (by omega), a5⟩
theorem OwnBS.alloc (h : OwnBS w base top e v xss) (o : Obj) : OwnBS (w.alloc o) base top e v xss := h.below ((Below.refl _ _).alloc (Nat.le_refl _) o)
theorem OwnBS.drew (h : OwnBS w base top e v xss) : OwnBS w.drew base top e v xss := h
theorem OwnBS.drewN (h : OwnBS w base top e v xss) (k : Nat) : OwnBS (w.drewN k) base top e v xss := h
theorem OwnBS.len (h : OwnBS w base top e v xss) : ∃ A c, v = .slice A xss.length c ∧ xss.length ≤ c ∧ c ≤ maxLen := by
  obtain ⟨vs, lo, hi, h1, h2, _⟩ := h
  obtain ⟨A, c, e, a1, a2, _⟩ := h2.form
  exact ⟨A, c, by rw [e, h1], by omega, a2⟩
theorem OwnBS.lt (h : OwnBS w base top e v xss) : ∀ k, v.ownBlock = some k → base ≤ k ∧ k < w.heap.size := by
  obtain ⟨vs, lo, hi, h1, h2, _⟩ := h
  exact h2.lt
theorem OwnBS.mono (h : OwnBS w base top e v xss) {top' : Nat} (h1 : top ≤ top') (h2 : top' ≤ w.heap.size) : OwnBS w base top' e v xss := by
  obtain ⟨vs, lo, hi, a1, a2, a3, a4, a5, a6⟩ := h
  refine ⟨vs, lo, hi, a1, a2, by omega, h2, fun j hj => ?_, a6⟩
  obtain ⟨u, b1, b2, b3, b4, b5⟩ := a5 j hj
  exact ⟨u, b1, b2, by omega, b4, b5⟩
theorem OwnBS.ssx (h : OwnBS w base top e v xss) : BoolSSx w base w.heap.size v xss := by
  obtain ⟨vs, lo, hi, h1, h2, h3, h4, h5, h6⟩ := h
  have hsl : Sl w base w.heap.size 1 v xss.length (fun j => vs.getD j undef) := by
    have := Sl.of_own (f := fun j => vs.getD j undef) h2 (fun j hj => by simp at hj; simp [hj])
    rwa [h1] at this
  have hr : ∀ j, j < xss.length → BoolS w (lo j) (hi j) (vs.getD j undef) (nthL xss j) ∧ base ≤ lo j ∧ hi j ≤ top ∧ ∀ g, v.ownBlock = some g → g < lo j ∨ hi j ≤ g := fun j hj => by
    obtain ⟨u, a1, a2, a3, a4, a5⟩ := h5 j hj
    have : vs.getD j undef = u := by simp [a1]
    rw [this]
    exact ⟨a4, a2, a3, a5⟩
  refine ⟨fun j => vs.getD j undef, hsl, fun i hi' => (hr i hi').1.mono (hr i hi').2.1 (by have := (hr i hi').2.2.1; omega), fun i j hij hj => ?_, fun i hi' => ?_⟩
  · obtain ⟨a1, _⟩ := hr i (by omega)
    obtain ⟨b1, _⟩ := hr j hj
    rcases Sl.row a1 with e1 | ⟨g1, e1, c1, c2⟩
    · exact .inl e1
    · right
      rw [e1]
      rcases Sl.row b1 with e2 | ⟨g2, e2, d1, d2⟩
      · rw [e2]; simp
      · rw [e2]; intro e3; injection e3 with e3; have := h6 i j hij hj; omega
  · obtain ⟨a1, _, _, a2⟩ := hr i hi'
    rcases Sl.row a1 with e1 | ⟨g1, e1, c1, c2⟩
    · exact .inl e1
    · right
      rw [e1]
      unfold rowOf
      rw [if_neg (by omega)]
      intro e3
      have := a2 g1 e3.symm
      omega
end

/-- append of one row onto a slice of slices of the call's own, the row's slice just laid in a block of its own -/
theorem append_bs {P : Program} {ops : Array Oper} {rest : List Oper} {o : Oper} {a : Act} {Q : Exit → Act → World → Prop} {t e : TypeId} {bytes : Nat}
    (ht : P.underlying t = some (.slice e)) (hinfo : (P.info? e).map (fun i => (i.zero, i.size, i.bytes)) = some (some (.slice none 0 0), 1, bytes)) (hby : bytes ≤ 64)
    (w : World) (hgd : o.guard = none) {s : Operand} (x : Operand) (ho : o.op = .call { callee := .builtin .append, args := #[s, x], argTypes := #[t, t] })
    {base top : Nat} {v : Value} {xss : List (List Bool)} (hown : OwnBS w base top e v xss) {u : Value} {xs : List Bool} {lo hi : Nat} (hu : BoolS w lo hi u xs) (hlo : top ≤ lo) (hhi : hi ≤ w.heap.size) (hlh : lo ≤ hi) (hfar : ∀ g, v.ownBlock = some g → g < lo ∨ hi ≤ g)
    (te : TypeId) (hs : a.eval s = v) (hx : a.eval x = .slice (some ⟨w.heap.size, 0, none⟩) 1 1) (hlen : xss.length < 1099511627776)
    (h : ∀ v' w', OwnBS w' base hi e v' (xss ++ [xs]) → w.grownBy w' v.ownBlock → (v'.ownBlock = v.ownBlock ∨ v'.ownBlock = some (w.heap.size + 1)) → wpList P ops Q rest (a.put o.dst v') w') :
    wpList P ops Q (o :: rest) a (w.alloc (.cells #[u] te)) := by
  obtain ⟨vs, los, his, h1, h2, h3, h4, h5, h6⟩ := hown
  obtain ⟨A, c, rfl⟩ := (show ∃ A c, u = .slice A xs.length c from let ⟨A, c, e, _⟩ := hu; ⟨A, c, e⟩)
  refine append1 ht hinfo rfl hby w hgd x ho h2 _ te hs hx rfl (by omega) (by omega) fun v' w' ho' hg' hat' => h v' w' ?_ hg' hat'
  have hgs := hg'.size
  have hold : ∀ j, j < xss.length → ∃ u, vs[j]? = some u ∧ base ≤ los j ∧ his j ≤ top ∧ BoolS w' (los j) (his j) u (nthL xss j) ∧ ∀ g, v'.ownBlock = some g → g < los j ∨ his j ≤ g := fun j hj => by
    obtain ⟨u, a1, a2, a3, a4, a5⟩ := h5 j hj
    refine ⟨u, a1, a2, a3, a4.far hg' (by omega) a5, fun g hg => ?_⟩
    rcases hat' with e1 | e1
    · exact a5 g (by rw [← e1]; exact hg)
    · rw [e1] at hg; injection hg with hg; omega
  refine ⟨vs ++ [.slice A xs.length c], fun j => if j < xss.length then los j else lo, fun j => if j < xss.length then his j else hi, by simp [h1], ho', by omega, by omega, fun j hj => ?_, fun i j hij hj => ?_⟩
  · dsimp only
    by_cases e1 : j < xss.length
    · obtain ⟨u, a1, a2, a3, a4, a5⟩ := hold j e1
      rw [if_pos e1, if_pos e1, nthL_append_left e1]
      exact ⟨u, by rw [List.getElem?_append_left (by omega)]; exact a1, a2, by omega, a4, a5⟩
    · obtain rfl : j = xss.length := by simp at hj; omega
      rw [if_neg e1, if_neg e1, nthL_append_at]
      refine ⟨.slice A xs.length c, by rw [← h1]; simp, by omega, Nat.le_refl _, hu.far hg' hhi hfar, fun g hg => ?_⟩
      rcases hat' with e2 | e2
      · exact hfar g (by rw [← e2]; exact hg)
      · rw [e2] at hg; injection hg with hg; omega
  · dsimp only
    rw [if_pos (by simp at hj; omega)]
    by_cases e1 : j < xss.length
    · rw [if_pos e1]; exact h6 i j hij e1
    · rw [if_neg e1]
      obtain ⟨u, _, _, a3, _⟩ := h5 i (by simp at hj; omega)
      omega

theorem OwnBS.far {w w' : World} {base top : Nat} {e : TypeId} {v : Value} {xss : List (List Bool)} {row : Option Nat} (h : OwnBS w base top e v xss) (hg : w.grownBy w' row) (hr : ∀ g, row = some g → g < base) : OwnBS w' base top e v xss := by
  obtain ⟨vs, lo, hi, h1, h2, h3, h4, h5, h6⟩ := h
  refine ⟨vs, lo, hi, h1, h2.kept hg ?_, h3, Nat.le_trans h4 hg.size, fun j hj => ?_, h6⟩
  · cases hv : v.ownBlock with
    | none => exact .inl rfl
    | some g =>
      right
      intro e
      have := (h2.lt g hv).1
      have := hr g e.symm
      omega
  · obtain ⟨u, a1, a2, a3, a4, a5⟩ := h5 j hj
    exact ⟨u, a1, a2, a3, a4.far hg (by omega) (fun g e => .inl (by have := hr g e; omega)), a5⟩



/-- one boolean of a list of lists replaced -/
def setAtB (xss : List (List Bool)) (a i : Nat) (z : Bool) : List (List Bool) := xss.set a ((nthL xss a).set i z)
theorem setAtB_length (xss : List (List Bool)) (a i : Nat) (z : Bool) : (setAtB xss a i z).length = xss.length := by simp [setAtB]
theorem nthL_setAtB {xss : List (List Bool)} {a : Nat} (ha : a < xss.length) (i : Nat) (z : Bool) (j : Nat) : nthL (setAtB xss a i z) j = if j = a then (nthL xss a).set i z else nthL xss j := nthL_set ha _ _
theorem setAtB_row (xss : List (List Bool)) {a : Nat} (ha : a < xss.length) (i : Nat) (z : Bool) (j : Nat) : (nthL (setAtB xss a i z) j).length = (nthL xss j).length := by
  rw [nthL_setAtB ha]
  by_cases e : j = a
  · rw [if_pos e, List.length_set, e]
  · rw [if_neg e]
/-- a place of a slice of slices whose rows lie apart: its cells, and what a store leaves -/
theorem BSSx.place {w : World} {lo hi n c : Nat} {A : Option Addr} {xss : List (List Bool)} (h : BoolSSx w lo hi (.slice A n c) xss) (hh : hi ≤ w.heap.size) {a i : Nat} (ha : a < xss.length) (hi' : i < (nthL xss a).length) :
    ∃ b off b2 o2 c2, A = some ⟨b, off, none⟩ ∧ lo ≤ b ∧ b < hi ∧ lo ≤ b2 ∧ b2 < hi ∧ w.cell? ⟨b, off + a, none⟩ = some (.slice (some ⟨b2, o2, none⟩) (nthL xss a).length c2) ∧ (nthL xss a).length ≤ c2 ∧ c2 ≤ 9223372036854775807 ∧
      w.cell? ⟨b2, o2 + i, none⟩ = some (.bool (nthB (nthL xss a) i)) ∧ w.frozen? ⟨b2, o2 + i, none⟩ = false ∧ ∀ z, BoolSSx (w.setCell ⟨b2, o2 + i, none⟩ (.bool z)) lo hi (.slice A n c) (setAtB xss a i z) := by
  obtain ⟨vs, h1, h2, h3, h4⟩ := h
  have hrow := h2 a ha
  obtain ⟨A2, c2, e2, k1, k2⟩ := BoolS.dims hrow
  rw [e2] at hrow
  obtain ⟨b2, o2, rfl, l1, l2, x1, x2⟩ := BoolS.opened hrow hi'
  have htop := h1
  obtain ⟨A', c', e, m1, m2, m3⟩ := h1
  injection e with e3 e4 e5
  subst e3 e5
  obtain ⟨b, off, rfl, n1, n2, n3⟩ := m3 (by omega)
  have hva : w.cell? ⟨b, off + a, none⟩ = some (vs a) := (n3 a (by omega)).1
  rw [e2] at hva
  refine ⟨b, off, b2, o2, c2, rfl, n1, n2, l1, l2, hva, k1, k2, x1, x2, fun z => ?_⟩
  have hra : rowOf (nthL xss a).length (vs a) = some b2 := by rw [e2]; exact rowOf_some (by omega)
  have hg : w.grownBy (w.setCell ⟨b2, o2 + i, none⟩ (.bool z)) (some b2) := grown_set w ⟨b2, o2 + i, none⟩ _
  have hlen : ∀ j, (nthL (setAtB xss a i z) j).length = (nthL xss j).length := setAtB_row xss ha i z
  refine ⟨vs, ?_, fun j hj => ?_, fun j k hjk hk => ?_, fun j hj => ?_⟩
  · rw [setAtB_length]
    refine Sl.grown htop hg hh ?_
    have := h4 a ha
    rw [hra] at this
    rcases this with t | t
    · cases t
    · exact .inr fun e => t e.symm
  · rw [setAtB_length] at hj
    rw [nthL_setAtB ha]
    by_cases ej : j = a
    · subst ej
      rw [if_pos rfl, e2]
      exact hrow.set hi' z
    · rw [if_neg ej]
      refine Sl.grown (h2 j hj) hg hh ?_
      rw [← hra]
      by_cases hlt : j < a
      · exact h3 j a hlt ha
      · rcases h3 a j (by omega) hj with t | t
        · rw [hra] at t; cases t
        · exact .inr fun e => t e.symm
  · rw [setAtB_length] at hk
    rw [hlen j, hlen k]
    exact h3 j k hjk hk
  · rw [setAtB_length] at hj ⊢
    rw [hlen j]
    exact h4 j hj


theorem BSSx.far {w w' : World} {lo hi : Nat} {v : Value} {xss : List (List Bool)} {row : Option Nat} (h : BoolSSx w lo hi v xss) (hg : w.grownBy w' row) (hB : hi ≤ w.heap.size) (hr : ∀ g, row = some g → g < lo ∨ hi ≤ g) : BoolSSx w' lo hi v xss :=
  SSx.keep (fun h => BoolS.far h hg hB hr) h fun k h1 h2 => hg.block k (by omega) (fun e => by have := hr k e.symm; omega)
theorem BSSx.still {w w' : World} {lo hi : Nat} {v : Value} {xss : List (List Bool)} (h : BoolSSx w lo hi v xss) (hg : w.grownBy w' none) (hB : hi ≤ w.heap.size) : BoolSSx w' lo hi v xss := BSSx.far h hg hB (no_row _ _)
theorem BSSx.below {B : Nat} {w w' : World} {lo hi : Nat} {v : Value} {xss : List (List Bool)} (h : BoolSSx w lo hi v xss) (hb : Below B w w') (hB : hi ≤ B) : BoolSSx w' lo hi v xss := SSx.keep (fun h => BoolS.below h hb hB) h fun k _ hk => hb.block k (by omega)
theorem BSSx.turned {w w' : World} {l2 h2 lo hi : Nat} {v : Value} {xss : List (List Bool)} (h : BoolSSx w lo hi v xss) (hb : Turned l2 h2 w w') (hB : hi ≤ w.heap.size) (hd : hi ≤ l2 ∨ h2 ≤ lo) : BoolSSx w' lo hi v xss := SSx.keep (fun h => BoolS.turned h hb hB hd) h fun k h1 hk => hb.block k (by omega) (by omega)
theorem BSSx.mono {w : World} {lo hi lo' hi' : Nat} {v : Value} {xss : List (List Bool)} (h : BoolSSx w lo hi v xss) (h1 : lo' ≤ lo) (h2 : hi ≤ hi') : BoolSSx w lo' hi' v xss := SSx.mono (fun h => BoolS.mono h h1 h2) h h1 h2
theorem SSx.dims {α : Type} {R : World → Nat → Nat → Value → List α → Prop} {w : World} {lo hi : Nat} {v : Value} {xss : List (List α)} (h : SSx R w lo hi v xss) : ∃ A c, v = .slice A xss.length c ∧ xss.length ≤ c ∧ c ≤ 9223372036854775807 := SS.dims h.ss
theorem BSSx.dims {w : World} {lo hi : Nat} {v : Value} {xss : List (List Bool)} (h : BoolSSx w lo hi v xss) : ∃ A c, v = .slice A xss.length c ∧ xss.length ≤ c ∧ c ≤ 9223372036854775807 := SS.dims h.ss


/-- writes behind the rows -/
theorem OwnBS.farT {w w' : World} {base top : Nat} {e : TypeId} {v : Value} {xss : List (List Bool)} {row : Option Nat} (h : OwnBS w base top e v xss) (hg : w.grownBy w' row) (hr : ∀ g, row = some g → top ≤ g ∧ v.ownBlock ≠ some g) : OwnBS w' base top e v xss := by
  obtain ⟨vs, lo, hi, h1, h2, h3, h4, h5, h6⟩ := h
  refine ⟨vs, lo, hi, h1, h2.kept hg ?_, h3, Nat.le_trans h4 hg.size, fun j hj => ?_, h6⟩
  · cases hv : v.ownBlock with
    | none => exact .inl rfl
    | some g => right; intro e; exact (hr g e.symm).2 hv
  · obtain ⟨u, a1, a2, a3, a4, a5⟩ := h5 j hj
    exact ⟨u, a1, a2, a3, a4.far hg (by omega) (fun g e => .inr (by have := (hr g e).1; omega)), a5⟩
/-- a place, the top row's address known -/
theorem BSSx.at2 {w : World} {lo hi n c b off : Nat} {xss : List (List Bool)} (h : BoolSSx w lo hi (.slice (some ⟨b, off, none⟩) n c) xss) (hh : hi ≤ w.heap.size) {a i : Nat} (ha : a < xss.length) (hi' : i < (nthL xss a).length) :
    ∃ b2 o2 c2, lo ≤ b ∧ b < hi ∧ lo ≤ b2 ∧ b2 < hi ∧ w.cell? ⟨b, off + a, none⟩ = some (.slice (some ⟨b2, o2, none⟩) (nthL xss a).length c2) ∧ (nthL xss a).length ≤ c2 ∧ c2 ≤ 9223372036854775807 ∧
      w.cell? ⟨b2, o2 + i, none⟩ = some (.bool (nthB (nthL xss a) i)) ∧ w.frozen? ⟨b2, o2 + i, none⟩ = false ∧ ∀ z, BoolSSx (w.setCell ⟨b2, o2 + i, none⟩ (.bool z)) lo hi (.slice (some ⟨b, off, none⟩) n c) (setAtB xss a i z) := by
  obtain ⟨b', off', b2, o2, c2, e, h1, h2, h3, h4, h5, h6, h7, h8, h9, h10⟩ := BSSx.place h hh ha hi'
  injection e with e
  injection e with e1 e2
  subst e1 e2
  exact ⟨b2, o2, c2, h1, h2, h3, h4, h5, h6, h7, h8, h9, h10⟩
theorem ISSx.at2 {w : World} {lo hi n c b off : Nat} {xss : List (List Int)} (h : IntSSx w lo hi (.slice (some ⟨b, off, none⟩) n c) xss) (hh : hi ≤ w.heap.size) {a i : Nat} (ha : a < xss.length) (hi' : i < (nthL xss a).length) :
    ∃ b2 o2 c2, lo ≤ b ∧ b < hi ∧ lo ≤ b2 ∧ b2 < hi ∧ w.cell? ⟨b, off + a, none⟩ = some (.slice (some ⟨b2, o2, none⟩) (nthL xss a).length c2) ∧ (nthL xss a).length ≤ c2 ∧ c2 ≤ 9223372036854775807 ∧
      w.cell? ⟨b2, o2 + i, none⟩ = some (.int .i64 (nth (nthL xss a) i)) ∧ w.frozen? ⟨b2, o2 + i, none⟩ = false := by
  obtain ⟨b', off', b2, o2, c2, e, h1, h2, h3, h4, h5, h6, h7, h8, h9, h10⟩ := ISSx.place h hh ha hi'
  injection e with e
  injection e with e1 e2
  subst e1 e2
  exact ⟨b2, o2, c2, h1, h2, h3, h4, h5, h6, h7, h8, h9⟩
theorem OwnBS.still {w w' : World} {base top : Nat} {e : TypeId} {v : Value} {xss : List (List Bool)} (h : OwnBS w base top e v xss) (hg : w.grownBy w' none) : OwnBS w' base top e v xss := h.farT hg (fun g e => by cases e)

end Go.Proofs.Ytcmmklcampmkjaa

/- Contract: neAll (reference): a row of booleans a node. -/
namespace Go.Proofs.Ytcmmklcampmkjaa
open Go.ChangeShapes Go.WideShapes Go.ChangeAt Go.RowKit
set_option linter.unusedVariables false

theorem infoBs : (Try.prog.info? 72).map (fun i => (i.zero, i.size, i.bytes)) = some (some (.slice none 0 0), 1, 24) := by kernel_rfl
/-- as many booleans in each row as the node has ports -/
def SameB (N : NetD) (k : Nat) (bss : List (List Bool)) : Prop := bss.length = k ∧ ∀ a, a < k → (nthL bss a).length = (nthL N.ends a).length
theorem SameB.snoc {N : NetD} {k : Nat} {bss : List (List Bool)} (h : SameB N k bss) {bs : List Bool} (hb : bs.length = (nthL N.ends k).length) : SameB N (k + 1) (bss ++ [bs]) := by
  refine ⟨by simp [h.1], fun a ha => ?_⟩
  by_cases e : a < bss.length
  · rw [nthL_append_left e]; exact h.2 a (by rw [← h.1]; exact e)
  · obtain rfl : a = bss.length := by have := h.1; omega
    rw [nthL_append_at, hb, h.1]

set_option maxHeartbeats 2000000 in
set_option maxRecDepth 100000 in
theorem neAll_any (v1 : Value) (N : NetD) (lo1 hi1 : Nat) (w : World) (h1 : Net w lo1 hi1 v1 N) (hh1 : hi1 ≤ w.heap.size) (hg : N.good = true) :
    Calls Try.prog 50 #[v1] w fun e w' => ∃ r bss, e = .returned r ∧ BoolSSx w' w.heap.size w'.heap.size r bss ∧ SameB N N.ends.length bss ∧ Below w.heap.size w w' := by
  obtain ⟨n1, n40⟩ := good_n hg
  have HG := Lib.hid hg; clear hg
  have F1 := Lib.hid h1
  obtain ⟨A1, c1, A1', c1', A1'', c1'', rfl, hc1, hd1, _⟩ := h1.parts
  obtain ⟨b1, o1, _, _, rfl, _⟩ := Net.rowAt F1.out (u := 0) (by omega)
  clear h1
  obtain ⟨WA, HWA⟩ : ∃ W, Hid (W = (w.alloc (.cells #[.slice (some ⟨b1, o1, none⟩) N.ends.length c1, .slice A1' N.ids.length c1', .slice A1'' N.inputs.length c1''] 34))) := ⟨_, Lib.hid rfl⟩
  have hbA : Below w.heap.size w WA := by rw [HWA.out]; exact ((Below.refl _ _).alloc (Nat.le_refl _) _)
  have hsA : w.heap.size + 1 ≤ WA.heap.size := by rw [HWA.out]; simp; try omega
  have bx1 : BoxN WA (w.heap.size) #[.slice (some ⟨b1, o1, none⟩) N.ends.length c1, .slice A1' N.ids.length c1', .slice A1'' N.inputs.length c1''] 34 := by rw [HWA.out]; exact (BoxN.new' _ _ _ (by simp))
  have G1 := Lib.hid (Net.below F1.out hbA hh1); clear F1
  go_enter Try.func50, Try.ntmps50
  go_upto_region 1 with (fail)
  rw [← HWA.out]; clear HWA
  have kbx1_0 : WA.cell? ⟨w.heap.size, 0, none⟩ = some (.slice (some ⟨b1, o1, none⟩) N.ends.length c1) := bx1.cell 0 (by simp)
  have kbx1_1 : WA.cell? ⟨w.heap.size, 1, none⟩ = some (.slice A1' N.ids.length c1') := bx1.cell 1 (by simp)
  have kbx1_2 : WA.cell? ⟨w.heap.size, 2, none⟩ = some (.slice A1'' N.inputs.length c1'') := bx1.cell 2 (by simp)
  go_wp2_with fail
  clear kbx1_0 kbx1_1 kbx1_2
  go_loopw [11, 3] (fun kv ov wr => ∃ (k : Nat) (bss : List (List Bool)) (top : Nat), k ≤ N.ends.length ∧ kv = .int .i64 k ∧ Hid (OwnBS wr WA.heap.size top 72 ov bss) ∧ Hid (SameB N k bss) ∧ Hid (Turned WA.heap.size WA.heap.size WA wr)) (fun kv ov _ => N.ends.length - (intOf kv).toNat)
  case atStart => exact ⟨0, [], WA.heap.size, Nat.zero_le _, rfl, Lib.hid (OwnBS.nil _ _ _ _ (Nat.le_refl _) (Nat.le_refl _)), Lib.hid ⟨rfl, fun a ha => absurd ha (by omega)⟩, Lib.hid (Turned.refl WA.heap.size WA.heap.size WA)⟩
  case round =>
    obtain ⟨k, bss, top, hk, rfl, HO, HS, HF1⟩ := hrel
    have hs1 := HF1.out.size
    obtain ⟨wq, rfl⟩ : ∃ wq : World, wq = wr := ⟨_, rfl⟩
    have htop : top ≤ wq.heap.size := let ⟨_, _, _, _, _, _, h, _⟩ := HO.out; h
    have HLT := Lib.hid HO.out.lt
    have hbl := HS.out.1
    have HBL := Lib.hid hbl; clear hbl
    obtain ⟨Ao, co, rfl, hco, hdo⟩ := HO.out.len
    by_cases hkn : k < N.ends.length
    case neg =>
      obtain rfl : k = N.ends.length := by omega
      go_wp2_with fail
      go_ret
      exact ⟨_, bss, rfl, BSSx.mono HO.out.ssx (by omega) (Nat.le_refl _), HS.out, (HF1.out.below_of hbA (by omega) (by omega))⟩
    have hki : (k : Int) < N.ends.length := by omega
    have hd6 := good_deg HG.out hkn
    obtain ⟨Aa, ca, hba, qa, hca, hda, hRa⟩ := Net.rowIn G1.out hkn
    replace qa := (HF1.out.cell (by omega) (by omega)).trans qa
    have Ra := Lib.hid hRa; clear hRa
    obtain ⟨d, HD⟩ : ∃ d, Hid ((nthL N.ends k).length = d) := ⟨_, Lib.hid rfl⟩
    rw [HD.out] at qa hca hd6
    have hmk := fun W => run_make_row' (P := Try.prog) 72 4 (.bool false) 1 Try.underlying72 Try.infoBool rfl .i64 .i64 d (by omega) (by omega) W
    go_upto_region 6 with (fail)
    clear qa hmk
    refine nameC ?_
    intro W2 HW2
    have hg2 : wq.grownBy W2 none := by rw [HW2.out]; exact grown_alloc _ _
    have hs2 := hg2.size
    have HF2 := Lib.hid (HF1.out.still hg2); clear HF1
    have O2 := Lib.hid (OwnBS.still HO.out hg2); clear HO
    have HB := Lib.hid (show BoolS W2 wq.heap.size (wq.heap.size + 1) (.slice (some ⟨wq.heap.size, 0, none⟩) d d) (List.replicate d false) by rw [HW2.out]; exact made_bools _ _ _ rfl (by omega))
    have hz : wq.heap.size + 1 ≤ W2.heap.size := by rw [HW2.out]; simp
    clear HW2
    go_wp2_with fail
    go_loopw [20] (fun jv wr => ∃ (j : Nat) (bs : List Bool), j ≤ d ∧ jv = .int .i64 j ∧ Hid (OwnBS wr WA.heap.size top 72 (.slice Ao bss.length co) bss) ∧ Hid (BoolS wr wq.heap.size (wq.heap.size + 1) (.slice (some ⟨wq.heap.size, 0, none⟩) d d) bs) ∧ Hid (bs.length = d) ∧ wq.heap.size + 1 ≤ wr.heap.size ∧ Hid (Turned WA.heap.size WA.heap.size WA wr)) (fun jv _ => d - (intOf jv).toNat)
    case atStart => exact ⟨0, _, Nat.zero_le _, rfl, O2, HB, Lib.hid (by simp), hz, HF2⟩
    case round =>
      clear HF2
      obtain ⟨j, bs, hj, rfl, HO, HB, HL, hz1, HF3⟩ := hrel
      have hs3 := HF3.out.size
      obtain ⟨wt, rfl⟩ : ∃ wt : World, wt = wr := ⟨_, rfl⟩
      by_cases hjn : j < d
      case pos =>
        have hji : (j : Int) < d := by omega
        obtain ⟨x1, x2⟩ := HB.out.at0 (j := j) (by rw [HL.out]; exact hjn)
        obtain ⟨xv, HXV⟩ : ∃ x, Hid (nthB bs j = x) := ⟨_, Lib.hid rfl⟩
        rw [HXV.out] at x1
        have HB1 := Lib.hid (HB.out.set0 (j := j) (by rw [HL.out]; exact hjn) true)
        have HL1 := Lib.hid (show (bs.set j true).length = d by rw [List.length_set]; exact HL.out)
        go_wp2_with fail
        go_roundw
        case rel =>
          have hg9 : wt.grownBy (wt.setCell ⟨wq.heap.size, j, none⟩ (.bool true)) (some (wq.heap.size)) := grown_set _ _ _
          have hs9 := hg9.size
          exact ⟨j + 1, bs.set j true, by omega, by go_num, Lib.hid (OwnBS.farT HO.out hg9 (fun g e => by cases e; exact ⟨by omega, fun h => by have := HLT.out _ h; omega⟩)), HB1, HL1, by omega, Lib.hid (HF3.out.grown hg9 (fun g e => .inr (by cases e; omega)))⟩
        case measure => simp [intOf]; omega
      obtain rfl : j = d := by omega
      have HS2 := Lib.hid (SameB.snoc HS.out (show bs.length = (nthL N.ends k).length by rw [HL.out, HD.out]))
      have hbl := HBL.out
      have hbl4 : bss.length ≤ 40 := by omega
      clear hbl
      go_wp2_with (at_builtin; refine append_bs (s := .tmp 27) Try.underlying78 infoBs (by decide) wt rfl _ rfl HO.out HB.out (by omega) (by omega) (by omega) (fun g e => .inl (by have := HLT.out g e; omega)) _ (by simp [Act.eval, go_sem]) (by simp [Act.eval, go_sem]) (by omega) ?_; intro v' w' ho' hg' hat')
      go_roundw
      case rel => exact ⟨k + 1, _, wq.heap.size + 1, by omega, by go_num, Lib.hid ho', HS2, Lib.hid (HF3.out.grown hg' (fun g e => .inr (by have := HLT.out g e; omega)))⟩
      case measure => simp [intOf]; omega

end Go.Proofs.Ytcmmklcampmkjaa
