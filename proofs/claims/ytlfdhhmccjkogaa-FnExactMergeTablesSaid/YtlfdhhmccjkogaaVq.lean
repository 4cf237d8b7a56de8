/-
  Contract: the reference's reading of a view.
-/
import Derived.Test.YtlfdhhmccjkogaaVs
import Derived.Test.YtlfdhhmccjkogaaVw
namespace Go.Proofs.Ytlfdhhmccjkogaa
open Go.ChangeShapes Go.WideShapes Go.ChangeAt Go.RowKit
set_option linter.unusedVariables false

theorem dgN_le {s : ByteArray} {m p : Nat} (hp : p ≤ s.size) (hm : m ≤ 9) : p ≤ dgN s m p ∧ dgN s m p ≤ s.size := by
  unfold dgN
  cases h : dg s m p with
  | none => exact ⟨Nat.le_refl _, hp⟩
  | some d => exact ⟨Nat.le_succ _, (dg_some h hm).1⟩
theorem sdI_le {s : ByteArray} {m p : Nat} (hm : m ≤ 9) : sdI s m p ≤ m := by
  unfold sdI
  cases h : dg s m p with
  | none => exact Nat.zero_le _
  | some d => exact (dg_some h hm).2.1
theorem sgN_le {s : ByteArray} {p b : Nat} (hp : p ≤ s.size) (hb : b < 256) : p ≤ sgN s p b ∧ sgN s p b ≤ s.size := by
  unfold sgN
  by_cases h : bt s p = b
  · rw [if_pos h]; have := bt_lt h hb; omega
  · rw [if_neg h]; omega
theorem sdB_off {s : ByteArray} {m p : Nat} : sdB false s m p = false := by unfold sdB; split <;> rfl
theorem sgB_off {s : ByteArray} {p b : Nat} : sgB false s p b = false := by unfold sgB; rfl
theorem sdB_on {o : Bool} {s : ByteArray} {m p : Nat} (h : sdB o s m p = true) : o = true ∧ dg s m p = some (sdI s m p) ∧ dgN s m p = p + 1 := by
  unfold sdB at h
  cases e : dg s m p with
  | none => rw [e] at h; cases h
  | some d => rw [e] at h; exact ⟨h, by rw [(sd_yes (o := o) e).1], (sd_yes (o := o) e).2.1⟩
theorem sgB_on {o : Bool} {s : ByteArray} {p b : Nat} (h : sgB o s p b = true) : o = true ∧ bt s p = b ∧ sgN s p b = p + 1 := by
  unfold sgB at h
  rw [Bool.and_eq_true, decide_eq_true_eq] at h
  exact ⟨h.1, h.2, (sg_yes (o := o) h.2).1⟩
theorem sv_head_no {f p p1 p2 : Nat} {o1 o2 : Bool} {s : ByteArray} (h1 : sdB true s 6 p = o1) (h2 : dgN s 6 p = p1) (h3 : sgB o1 s p1 46 = o2) (h4 : sgN s p1 46 = p2) (h5 : sdB o2 s 9 p2 = false) : sv (f + 1) s p = none := by
  rw [sv]; unfold pnode
  cases e1 : dg s 6 p with
  | none => rfl
  | some d =>
    dsimp only
    rw [(sd_yes (o := true) e1).2.2] at h1
    rw [(sd_yes (o := true) e1).2.1] at h2
    subst h1; subst h2
    by_cases e2 : bt s (p + 1) = 46
    · rw [if_pos e2]
      rw [(sg_yes e2).2] at h3
      rw [(sg_yes (o := true) e2).1] at h4
      subst h3; subst h4
      cases e3 : dg s 9 (p + 2) with
      | none => rfl
      | some i => rw [show p + 1 + 1 = p + 2 from rfl, (sd_yes (o := true) e3).2.2] at h5; cases h5
    · rw [if_neg e2]
def SLeaf (w w' : World) (e : Ending) (g : Nat) (s : ByteArray) (p : Nat) : Prop :=
  ∃ p' b d i : Nat, p ≤ p' ∧ p' ≤ s.size ∧ BoxN w' g #[.string s, .int .i64 p', .bool false] 75 ∧ w.grownBy w' (some g) ∧ e = .returned (.pointer (some ⟨b, 0, none⟩)) ∧ BoxN w' b #[.int .i64 d, .int .i64 i, .slice none 0 0, .slice none 0 0, .int .i64 (0 : Nat)] 55 ∧ w.heap.size ≤ b ∧ b < w'.heap.size

set_option maxHeartbeats 4000000 in
set_option maxRecDepth 100000 in
theorem sview_off (s : ByteArray) (hs : s.size ≤ 4000) (g p : Nat) (w : World) (hp : p ≤ s.size) (hbx : BoxN w g #[.string s, .int .i64 p, .bool false] 75) : Calls Try.prog 39 #[.pointer (some ⟨g, 0, none⟩)] w (fun e w' => SLeaf w w' e g s p) := by
  have hgw := hbx.lt
  have HB := Lib.hid hbx; clear hbx
  have HGR := Lib.hid (World.grownBy.refl w (some g))
  obtain ⟨d, HD⟩ : ∃ x, Hid (sdI s 6 p = x) := ⟨_, Lib.hid rfl⟩
  obtain ⟨p1, HP1⟩ : ∃ x, Hid (dgN s 6 p = x) := ⟨_, Lib.hid rfl⟩
  obtain ⟨o1, HO1⟩ : ∃ x, Hid (sdB false s 6 p = x) := ⟨_, Lib.hid rfl⟩
  obtain ⟨p2, HP2⟩ : ∃ x, Hid (sgN s p1 46 = x) := ⟨_, Lib.hid rfl⟩
  obtain ⟨o2, HO2⟩ : ∃ x, Hid (sgB o1 s p1 46 = x) := ⟨_, Lib.hid rfl⟩
  obtain ⟨i, HI⟩ : ∃ x, Hid (sdI s 9 p2 = x) := ⟨_, Lib.hid rfl⟩
  obtain ⟨p3, HP3⟩ : ∃ x, Hid (dgN s 9 p2 = x) := ⟨_, Lib.hid rfl⟩
  obtain ⟨o3, HO3⟩ : ∃ x, Hid (sdB o2 s 9 p2 = x) := ⟨_, Lib.hid rfl⟩
  have hd6 : d ≤ 6 := by rw [← HD.out]; exact sdI_le (by omega)
  have hi9 : i ≤ 9 := by rw [← HI.out]; exact sdI_le (by omega)
  have hp1 : p ≤ p1 ∧ p1 ≤ s.size := by rw [← HP1.out]; exact dgN_le hp (by omega)
  have hp2 : p1 ≤ p2 ∧ p2 ≤ s.size := by rw [← HP2.out]; exact sgN_le hp1.2 (by omega)
  have hp3 : p2 ≤ p3 ∧ p3 ≤ s.size := by rw [← HP3.out]; exact dgN_le hp2.2 (by omega)
  go_enter Try.func39, Try.ntmps39
  go_upto_region 2 with (go_at_call 46; refine (sdigit_any g p 6 false s _ HB.out (by omega) hs (by omega)).mono ?_; rintro e V1 ⟨rfl, hb, hg, hz⟩; rw [HP1.out, HO1.out] at hb; rw [HD.out]; have BG1 := Lib.hid hb; clear hb; have GR1 := Lib.hid (grownBy_trans HGR.out hg); have hw1 : V1.heap.size = w.heap.size := hz; have hv1 : w.heap.size ≤ V1.heap.size := Nat.le_of_eq hw1.symm; have hu1 : V1.heap.size ≤ w.heap.size := Nat.le_of_eq hw1; clear hw1 hz; clear hg HB HGR)
  refine nameC ?_
  intro V2 HW2
  have BT := Lib.hid (show BoxN V2 V1.heap.size #[.int .i64 d, .int .i64 0, .slice none 0 0, .slice none 0 0, .int .i64 0] 55 by rw [HW2.out]; exact BoxN.new _ _ _)
  have hg2 : V1.grownBy V2 none := by rw [HW2.out]; exact grown_alloc _ _
  have hs2 : V1.heap.size + 1 ≤ V2.heap.size := by rw [HW2.out]; simp
  have BG := Lib.hid (BG1.out.still hg2)
  have GR := Lib.hid (grownBy_trans GR1.out (grown_any hg2))
  clear HW2 hg2 BG1 GR1
  have hgt : g < V1.heap.size := by omega
  go_upto_region 4 with (first | (go_at_call 47; refine (sign_any g p1 46 o1 s _ BG.out (by omega) hs (by omega)).mono ?_; rintro e V3 ⟨rfl, hb, hg, hz⟩; rw [HP2.out, HO2.out] at hb; have BG3 := Lib.hid hb; clear hb; have GR3 := Lib.hid (grownBy_trans GR.out hg); have hw3 : V3.heap.size = V2.heap.size := hz; have hv3 : V2.heap.size ≤ V3.heap.size := Nat.le_of_eq hw3.symm; have hu3 : V3.heap.size ≤ V2.heap.size := Nat.le_of_eq hw3; clear hw3 hz; have BT3 := Lib.hid (BT.out.far hg (fun k e => by cases e; omega)); clear hg BG GR BT) | (go_at_call 46; refine (sdigit_any g p2 9 o2 s _ BG3.out (by omega) hs (by omega)).mono ?_; rintro e V4 ⟨rfl, hb, hg, hz⟩; rw [HP3.out, HO3.out] at hb; rw [HI.out]; have BG4 := Lib.hid hb; clear hb; have GR4 := Lib.hid (grownBy_trans GR3.out hg); have hw4 : V4.heap.size = V3.heap.size := hz; have hv4 : V3.heap.size ≤ V4.heap.size := Nat.le_of_eq hw4.symm; have hu4 : V4.heap.size ≤ V3.heap.size := Nat.le_of_eq hw4; clear hw4 hz; have BT4 := Lib.hid (BT3.out.far hg (fun k e => by cases e; omega)); clear hg BG3 GR3 BT3; have kz := BT4.out.frozen 1; have ky : V4.cell? ⟨V1.heap.size, 1, none⟩ = some (.int .i64 0) := BT4.out.cell 1 (by simp)))
  clear kz ky
  refine nameC ?_
  intro V5 HV5
  have BT5 := Lib.hid (show BoxN V5 V1.heap.size #[.int .i64 d, .int .i64 i, .slice none 0 0, .slice none 0 0, .int .i64 0] 55 by rw [HV5.out]; exact BT4.out.set 1 _)
  have hg5 : V4.grownBy V5 (some V1.heap.size) := by rw [HV5.out]; exact grown_set _ _ _
  have hz5 : V4.heap.size ≤ V5.heap.size := hg5.size
  have BG5 := Lib.hid (BG4.out.far hg5 (fun k e => by cases e; omega))
  have GR5 := Lib.hid (grown_new GR4.out hg5 (by omega))
  clear HV5 hg5 BT4 BG4 GR4
  have c0 : V5.cell? ⟨g, 0, none⟩ = some (.string s) := BG5.out.cell 0 (by simp)
  have c1 : V5.cell? ⟨g, 1, none⟩ = some (.int .i64 p3) := BG5.out.cell 1 (by simp)
  have c2 : V5.cell? ⟨g, 2, none⟩ = some (.bool o3) := BG5.out.cell 2 (by simp)
  have t0 : V5.cell? ⟨V1.heap.size, 0, none⟩ = some (.int .i64 d) := BT5.out.cell 0 (by simp)
  have e3 : o3 = false := by rw [← HO3.out, ← HO2.out, ← HO1.out, sdB_off, sgB_off, sdB_off]
  rw [e3] at c2
  have HE3 := Lib.hid e3; clear e3
  go_quiet (fail)
  go_wp2_with fail
  go_ret
  exact ⟨p3, V1.heap.size, d, i, by omega, hp3.2, by rw [← HE3.out]; exact BG5.out.still (grown_drewN _ nq), grownBy_trans GR5.out (grown_any (grown_drewN _ nq)), rfl, BT5.out.still (grown_drewN _ nq), by omega, by simp; omega⟩

theorem sv_head_yes {p d i p1 p2 p3 : Nat} {o1 o2 : Bool} {s : ByteArray} (h0 : sdI s 6 p = d) (h1 : sdB true s 6 p = o1) (h2 : dgN s 6 p = p1) (h3 : sgB o1 s p1 46 = o2) (h4 : sgN s p1 46 = p2) (h5 : sdB o2 s 9 p2 = true) (h6 : sdI s 9 p2 = i) (h7 : dgN s 9 p2 = p3) :
    dg s 6 p = some d ∧ bt s (p + 1) = 46 ∧ dg s 9 (p + 2) = some i ∧ p3 = p + 3 := by
  obtain ⟨a1, a2, a3⟩ := sdB_on h5
  rw [a1] at h3
  obtain ⟨b1, b2, b3⟩ := sgB_on h3
  rw [b1] at h1
  obtain ⟨_, c2, c3⟩ := sdB_on h1
  have e1 : p1 = p + 1 := by rw [← h2, c3]
  subst e1
  have e2 : p2 = p + 2 := by rw [← h4, b3]
  subst e2
  exact ⟨by rw [c2, h0], b2, by rw [a2, h6], by rw [← h7, a3]⟩
theorem sv_leaf {f p d i : Nat} {s : ByteArray} (h : dg s 6 p = some d ∧ bt s (p + 1) = 46 ∧ dg s 9 (p + 2) = some i) (h4 : d = 0 ∨ bt s (p + 3) ≠ 40) : sv (f + 1) s p = some (.node d i [] [] 0, p + 3) := by
  rw [sv]; unfold pnode; rw [h.1]; dsimp only; rw [if_pos h.2.1, h.2.2]; dsimp only; rw [if_pos h4]
theorem sv_deep_no {f p d i : Nat} {s : ByteArray} (h : dg s 6 p = some d ∧ bt s (p + 1) = 46 ∧ dg s 9 (p + 2) = some i) (h4 : d ≠ 0) (h5 : bt s (p + 3) = 40) (h6 : ploop false (sv f s) s d [] [] (p + 4) = none) : sv (f + 1) s p = none := by
  rw [sv]; unfold pnode; rw [h.1]; dsimp only; rw [if_pos h.2.1, h.2.2]; dsimp only; rw [if_neg (by rintro (e | e); exact h4 e; exact e h5), h6]
theorem sv_deep {f p d i q : Nat} {s : ByteArray} {ps : List Int} {ts : List VT} (h : dg s 6 p = some d ∧ bt s (p + 1) = 46 ∧ dg s 9 (p + 2) = some i) (h4 : d ≠ 0) (h5 : bt s (p + 3) = 40) (h6 : ploop false (sv f s) s d [] [] (p + 4) = some (ps, ts, q)) :
    sv (f + 1) s p = if bt s q = 41 then some (.node d i ps ts (mxD ts), q + 1) else none := by
  rw [sv]; unfold pnode; rw [h.1]; dsimp only; rw [if_pos h.2.1, h.2.2]; dsimp only; rw [if_neg (by rintro (e | e); exact h4 e; exact e h5), h6]; dsimp only
  by_cases e : bt s q = 41
  · rw [if_pos ⟨e, fun x => by cases x⟩, if_pos e]; rfl
  · rw [if_neg (fun x => e x.1), if_neg e]
def SPost (f g : Nat) (s : ByteArray) (p : Nat) (w : World) (e : Ending) (w' : World) : Prop :=
  ∃ (p' b d i k : Nat) (o : Bool) (vp vq : Value), p ≤ p' ∧ p' ≤ s.size ∧ BoxN w' g #[.string s, .int .i64 p', .bool o] 75 ∧ w.grownBy w' (some g) ∧ e = .returned (.pointer (some ⟨b, 0, none⟩)) ∧ BoxN w' b #[.int .i64 d, .int .i64 i, vp, vq, .int .i64 k] 55 ∧ w.heap.size ≤ b ∧ b < w'.heap.size ∧ k ≤ f ∧
    ((o = false ∧ sv f s p = none) ∨ (o = true ∧ ∃ t, sv f s p = some (t, p') ∧ TreeAt w' 55 w.heap.size w'.heap.size t b ∧ t.degree = d ∧ t.depth = k))
/-- the call whether or not the reader is still whole -/
def SBoth (f g : Nat) (s : ByteArray) (p : Nat) (o0 : Bool) (w : World) (e : Ending) (w' : World) : Prop :=
  ∃ (p' b d i k : Nat) (o : Bool) (vp vq : Value), p ≤ p' ∧ p' ≤ s.size ∧ BoxN w' g #[.string s, .int .i64 p', .bool o] 75 ∧ w.grownBy w' (some g) ∧ e = .returned (.pointer (some ⟨b, 0, none⟩)) ∧ BoxN w' b #[.int .i64 d, .int .i64 i, vp, vq, .int .i64 k] 55 ∧ w.heap.size ≤ b ∧ b < w'.heap.size ∧ k ≤ f ∧
    ((o = false ∧ (o0 = true → sv f s p = none)) ∨ (o = true ∧ o0 = true ∧ ∃ t, sv f s p = some (t, p') ∧ TreeAt w' 55 w.heap.size w'.heap.size t b ∧ t.degree = d ∧ t.depth = k))
theorem sview_both {f : Nat} {s : ByteArray} (hs : s.size ≤ 4000) (ih : ∀ (g p : Nat) (w : World), s.size + 1 ≤ f + p → p ≤ s.size → BoxN w g #[.string s, .int .i64 p, .bool true] 75 → Calls Try.prog 39 #[.pointer (some ⟨g, 0, none⟩)] w (SPost f g s p w))
    (g p : Nat) (o : Bool) (w : World) (hf : o = true → s.size + 1 ≤ f + p) (hp : p ≤ s.size) (hb : BoxN w g #[.string s, .int .i64 p, .bool o] 75) : Calls Try.prog 39 #[.pointer (some ⟨g, 0, none⟩)] w (SBoth f g s p o w) := by
  cases o with
  | false =>
    refine (sview_off s hs g p w hp hb).mono ?_
    rintro e w' ⟨p', b, d, i, h0, h1, h2, h3, h4, h5, h6, h7⟩
    exact ⟨p', b, d, i, 0, false, _, _, h0, h1, h2, h3, h4, h5, h6, h7, Nat.zero_le _, .inl ⟨rfl, fun e => by cases e⟩⟩
  | true =>
    refine (ih g p w (hf rfl) hp hb).mono ?_
    rintro e w' ⟨p', b, d, i, k, o, vp, vq, h0, h1, h2, h3, h4, h5, h6, h7, h8, h9⟩
    refine ⟨p', b, d, i, k, o, vp, vq, h0, h1, h2, h3, h4, h5, h6, h7, h8, ?_⟩
    rcases h9 with ⟨a, c⟩ | ⟨a, t, c⟩
    · exact .inl ⟨a, fun _ => c⟩
    · exact .inr ⟨a, rfl, t, c⟩

/-- the parts that have been read: each in blocks of its own, apart from the rows that grow -/
def TrsS (w : World) (base : Nat) (vp vq : Value) (ts : List VT) (bs : List Nat) : Prop :=
  ∀ j, j < ts.length → ∃ lo hi, TreeAt w 55 lo hi (nthT ts j) (nthN bs j) ∧ base ≤ lo ∧ hi ≤ w.heap.size ∧ (∀ x, vp.ownBlock = some x → x < lo ∨ hi ≤ x) ∧ ∀ x, vq.ownBlock = some x → x < lo ∨ hi ≤ x
theorem TrsS.keep {w w' : World} {base : Nat} {vp vq vp' vq' : Value} {ts : List VT} {bs : List Nat} (h : TrsS w base vp vq ts bs) (hz : w.heap.size ≤ w'.heap.size) (hk : ∀ k, base ≤ k → k < w.heap.size → some k ≠ vp.ownBlock → some k ≠ vq.ownBlock → w'.heap[k]? = w.heap[k]?)
    (hp : ∀ x, vp'.ownBlock = some x → vp.ownBlock = some x ∨ w.heap.size ≤ x) (hq : ∀ x, vq'.ownBlock = some x → vq.ownBlock = some x ∨ w.heap.size ≤ x) : TrsS w' base vp' vq' ts bs := fun j hj => by
  obtain ⟨lo, hi, a1, a2, a3, a4, a5⟩ := h j hj
  refine ⟨lo, hi, TreeAt.keep (fun k k1 k2 => hk k (by omega) (by omega) (fun e => ?_) (fun e => ?_)) (Nat.le_refl _) (Nat.le_refl _) _ _ a1, a2, by omega, fun x hx => ?_, fun x hx => ?_⟩
  · have := a4 k e.symm; omega
  · have := a5 k e.symm; omega
  · rcases hp x hx with e | e
    · exact a4 x e
    · omega
  · rcases hq x hx with e | e
    · exact a5 x e
    · omega
theorem TrsS.far {w w' : World} {base g : Nat} {vp vq : Value} {ts : List VT} {bs : List Nat} (h : TrsS w base vp vq ts bs) (hg : w.grownBy w' (some g)) (hb : g < base) : TrsS w' base vp vq ts bs :=
  h.keep hg.size (fun k h1 h2 _ _ => hg.block k h2 (fun e => by injection e; omega)) (fun x hx => .inl hx) (fun x hx => .inl hx)
theorem TrsS.fst {w w' : World} {base : Nat} {vp vq vp' : Value} {ts : List VT} {bs : List Nat} (h : TrsS w base vp vq ts bs) (hg : w.grownBy w' vp.ownBlock) (hat : vp'.ownBlock = vp.ownBlock ∨ vp'.ownBlock = some (w.heap.size + 1)) : TrsS w' base vp' vq ts bs :=
  h.keep hg.size (fun k h1 h2 e _ => hg.block k h2 e) (fun x hx => by rcases hat with e | e <;> rw [e] at hx; exact .inl hx; injection hx; right; omega) (fun x hx => .inl hx)
theorem TrsS.snd {w w' : World} {base : Nat} {vp vq vq' : Value} {ts : List VT} {bs : List Nat} (h : TrsS w base vp vq ts bs) (hg : w.grownBy w' vq.ownBlock) (hat : vq'.ownBlock = vq.ownBlock ∨ vq'.ownBlock = some (w.heap.size + 1)) : TrsS w' base vp vq' ts bs :=
  h.keep hg.size (fun k h1 h2 _ e => hg.block k h2 e) (fun x hx => .inl hx) (fun x hx => by rcases hat with e | e <;> rw [e] at hx; exact .inl hx; injection hx; right; omega)
theorem TrsS.snoc {w : World} {base lo hi b : Nat} {vp vq : Value} {ts : List VT} {t : VT} {bs : List Nat} (h : TrsS w base vp vq ts bs) (hl : ts.length = bs.length) (ht : TreeAt w 55 lo hi t b) (h1 : base ≤ lo) (h2 : hi ≤ w.heap.size) (h3 : ∀ x, vp.ownBlock = some x → x < lo) (h4 : ∀ x, vq.ownBlock = some x → x < lo) : TrsS w base vp vq (ts ++ [t]) (bs ++ [b]) := fun j hj => by
  rw [List.length_append, List.length_cons, List.length_nil] at hj
  by_cases hjl : j < ts.length
  · rw [nthT_left hjl, nthN_left (by omega)]; exact h j hjl
  · rw [nthT_last (by omega), nthN_last (by omega)]
    exact ⟨lo, hi, ht, h1, h2, fun x hx => .inl (h3 x hx), fun x hx => .inl (h4 x hx)⟩
theorem own_slice {w : World} {base : Nat} {e : TypeId} {v : Value} {xs : List Value} (h : Own w base e v xs) : ∃ A n c, v = .slice A n c := by
  obtain ⟨A, c, h, _⟩ := Own.form h
  exact ⟨A, _, c, h⟩
theorem grown_rows {w a b : World} {g : Nat} {row : Option Nat} (h : w.grownBy a (some g)) (k : a.grownBy b row) (hr : ∀ x, row = some x → w.heap.size ≤ x) : w.grownBy b (some g) :=
  ⟨k.os.trans h.os, k.tape.trans h.tape, k.output.trans h.output, Nat.le_trans h.size k.size, fun i hi ho => (k.block i (Nat.lt_of_lt_of_le hi h.size) (fun e => by have := hr i e.symm; omega)).trans (h.block i hi ho)⟩
theorem l1MostV_any (a b : Int) (w : World) : Calls Try.prog 48 #[.int .i64 a, .int .i64 b] w fun e w' => e = .returned (.int .i64 (if b < a then a else b)) ∧ w = w' := by
  by_cases h : b < a
  · go_enter Try.func48, Try.ntmps48
    go_wp2
    go_ret
    exact ⟨rfl, rfl⟩
  · go_enter Try.func48, Try.ntmps48
    go_wp2
    go_ret
    exact ⟨rfl, rfl⟩
/-- the three signs ahead of a part: read -/
theorem stok_yes {s : ByteArray} {q cc q1 q2 q3 j : Nat} {o1 o2 : Bool} (h1 : sgN s q cc = q1) (h2 : sgB true s q cc = o1) (h3 : sdI s 5 q1 = j) (h4 : dgN s 5 q1 = q2) (h5 : sdB o1 s 5 q1 = o2) (h6 : sgN s q2 58 = q3) (h7 : sgB o2 s q2 58 = true) :
    bt s q = cc ∧ q1 = q + 1 ∧ dg s 5 q1 = some j ∧ bt s (q1 + 1) = 58 ∧ q3 = q1 + 2 := by
  obtain ⟨a1, a2, a3⟩ := sgB_on h7
  rw [a1] at h5
  obtain ⟨b1, b2, b3⟩ := sdB_on h5
  rw [b1] at h2
  obtain ⟨_, c2, c3⟩ := sgB_on h2
  have e2 : q2 = q1 + 1 := by rw [← h4, b3]
  subst e2
  exact ⟨c2, by rw [← h1, c3], by rw [b2, h3], a2, by rw [← h6, a3]⟩
theorem stok_no {s : ByteArray} {q cc q1 q2 q3 j j' : Nat} {o1 o2 o3 : Bool} (h1 : sgN s q cc = q1) (h2 : sgB true s q cc = o1) (h3 : sdI s 5 q1 = j) (h4 : dgN s 5 q1 = q2) (h5 : sdB o1 s 5 q1 = o2) (h6 : sgN s q2 58 = q3) (h7 : sgB o2 s q2 58 = o3)
    (k1 : bt s q = cc) (k2 : dg s 5 (q + 1) = some j') (k3 : bt s (q + 1 + 1) = 58) : o3 = true ∧ j' = j ∧ q3 = q + 1 + 2 := by
  rw [(sg_yes (o := true) k1).1] at h1
  rw [(sg_yes (o := true) k1).2] at h2
  subst h1; subst h2
  rw [(sd_yes (o := true) k2).1] at h3
  rw [(sd_yes (o := true) k2).2.1] at h4
  rw [(sd_yes (o := true) k2).2.2] at h5
  subst h3; subst h4; subst h5
  rw [(sg_yes (o := true) k3).1] at h6
  rw [(sg_yes (o := true) k3).2] at h7
  exact ⟨h7.symm, rfl, h6.symm⟩
theorem sloop_on {f c p p1 q j : Nat} {s : ByteArray} {ps : List Int} {ts : List VT} {t : VT} (h1 : sepAt s ts.isEmpty p = some p1) (h2 : dg s 5 p1 = some j) (h3 : bt s (p1 + 1) = 58) (h4 : sv f s (p1 + 2) = some (t, q)) (h5 : j < t.degree) :
    ploop false (sv f s) s (c + 1) ps ts p = ploop false (sv f s) s c (ps ++ [(j : Int)]) (ts ++ [t]) q := by
  rw [ploop, h1]; dsimp only; rw [h2]; dsimp only; rw [if_pos h3, h4]; dsimp only; rw [if_pos (by rw [decide_eq_true h5]; rfl)]
theorem sloop_off {f c p : Nat} {s : ByteArray} {ps : List Int} {ts : List VT} (h : ∀ p1 j t q, sepAt s ts.isEmpty p = some p1 → dg s 5 p1 = some j → bt s (p1 + 1) = 58 → sv f s (p1 + 2) = some (t, q) → ¬ j < t.degree) :
    ploop false (sv f s) s (c + 1) ps ts p = none := by
  rw [ploop]
  cases e1 : sepAt s ts.isEmpty p with
  | none => rfl
  | some p1 =>
    dsimp only
    cases e2 : dg s 5 p1 with
    | none => rfl
    | some j =>
      dsimp only
      by_cases e3 : bt s (p1 + 1) = 58
      · rw [if_pos e3]
        cases e4 : sv f s (p1 + 2) with
        | none => rfl
        | some r =>
          obtain ⟨t, q⟩ := r
          dsimp only
          rw [if_neg]
          intro h9
          rw [Bool.and_eq_true, decide_eq_true_eq] at h9
          exact h p1 j t q e1 e2 e3 e4 h9.1
      · rw [if_neg e3]
/-- where the next part's port stands, in the loop's own words -/
theorem sep_loop {s : ByteArray} {ts : List VT} {k q : Nat} (hl : ts.length = k) (h0 : k = 0 → bt s q = 40) (p1 : Nat) : sepAt s ts.isEmpty (if k = 0 then q + 1 else q) = some p1 ↔ (bt s q = (if k = 0 then 40 else 44) ∧ p1 = q + 1) := by
  by_cases hk : k = 0
  · have : ts = [] := List.eq_nil_of_length_eq_zero (by omega)
    subst this
    rw [if_pos hk, if_pos hk]
    unfold sepAt
    simp only [List.isEmpty_nil, if_true]
    constructor
    · intro e; injection e with e; exact ⟨h0 hk, e.symm⟩
    · rintro ⟨_, e⟩; rw [e]
  · have : ts.isEmpty = false := by cases ts with
      | nil => simp at hl; omega
      | cons => rfl
    rw [if_neg hk, if_neg hk, this]
    unfold sepAt
    simp only [Bool.false_eq_true, if_false]
    by_cases e : bt s q = 44
    · rw [if_pos e]
      constructor
      · intro e2; injection e2 with e2; exact ⟨e, e2.symm⟩
      · rintro ⟨_, e2⟩; rw [e2]
    · rw [if_neg e]
      constructor
      · intro e2; cases e2
      · rintro ⟨e2, _⟩; exact absurd e2 e
theorem Try.infoS : (Try.prog.info? 49).map (fun i => (i.zero, i.size, i.bytes)) = some (some (.pointer none), 1, 8) := by kernel_rfl
def SLoop (f : Nat) (s : ByteArray) (d p k q m : Nat) (o : Bool) (vp vq : Value) (base : Nat) (w : World) : Prop :=
  (o = false ∧ ploop false (sv f s) s d [] [] (p + 4) = none) ∨
  (o = true ∧ ∃ (ps : List Int) (ts : List VT) (bs : List Nat), (ps.length = k ∧ ts.length = k ∧ bs.length = k) ∧ (k = 0 → q = p + 3) ∧ ploop false (sv f s) s d [] [] (p + 4) = ploop false (sv f s) s (d - k) ps ts (if k = 0 then q + 1 else q) ∧
    OwnI w base 3 vp ps ∧ Own w base 49 vq (bs.map ptrV) ∧ Apart vp vq ∧ TrsS w base vp vq ts bs ∧ m = mxD ts)
theorem trsS_tree {w : World} {base lo H d i k b : Nat} {ps : List Int} {ts : List VT} {bs : List Nat} {vp vq : Value} (h1 : ts.length = k) (h2 : bs.length = k) (h3 : lo ≤ b) (h4 : b < w.heap.size)
    (hb : BoxN w b #[.int .i64 d, .int .i64 i, vp, vq, .int .i64 (mxD ts : Nat)] 55) (hp : IntS w base w.heap.size vp ps) (hq : Sl w base H 1 vq k (fun j => .pointer (some ⟨nthN bs j, 0, none⟩))) (ht : TrsS w base vp vq ts bs) (hlo : lo ≤ base) (hH : H ≤ w.heap.size) :
    TreeAt w 55 lo w.heap.size (.node d i ps ts (mxD ts)) b :=
  TreeAt.mk bs h3 h4 hb (hp.mono hlo (Nat.le_refl _)) (by rw [h1]; exact hq.mono hlo hH) (by omega) (fun j hj => by
    obtain ⟨l, h, a1, a2, a3, _, _⟩ := ht j hj
    exact a1.mono (Nat.le_trans hlo a2) a3)

set_option maxHeartbeats 4000000 in
set_option maxRecDepth 100000 in
theorem sview_any (s : ByteArray) (hs : s.size ≤ 4000) : ∀ (f g p : Nat) (w : World), s.size + 1 ≤ f + p → f ≤ 5000 → p ≤ s.size → BoxN w g #[.string s, .int .i64 p, .bool true] 75 → Calls Try.prog 39 #[.pointer (some ⟨g, 0, none⟩)] w (SPost f g s p w) := by
  intro f
  induction f with
  | zero => intro g p w hf hf5 hp; omega
  | succ f ih =>
    intro g p w hf hf5 hp hbx
    have HIH := Lib.hid (sview_both hs fun g p w h1 h2 h3 => ih g p w h1 (by omega) h2 h3); clear ih
    have hgw := hbx.lt
    have HB := Lib.hid hbx; clear hbx
    have HGR := Lib.hid (World.grownBy.refl w (some g))
    obtain ⟨d, HD⟩ : ∃ x, Hid (sdI s 6 p = x) := ⟨_, Lib.hid rfl⟩
    obtain ⟨p1, HP1⟩ : ∃ x, Hid (dgN s 6 p = x) := ⟨_, Lib.hid rfl⟩
    obtain ⟨o1, HO1⟩ : ∃ x, Hid (sdB true s 6 p = x) := ⟨_, Lib.hid rfl⟩
    obtain ⟨p2, HP2⟩ : ∃ x, Hid (sgN s p1 46 = x) := ⟨_, Lib.hid rfl⟩
    obtain ⟨o2, HO2⟩ : ∃ x, Hid (sgB o1 s p1 46 = x) := ⟨_, Lib.hid rfl⟩
    obtain ⟨i, HI⟩ : ∃ x, Hid (sdI s 9 p2 = x) := ⟨_, Lib.hid rfl⟩
    obtain ⟨p3, HP3⟩ : ∃ x, Hid (dgN s 9 p2 = x) := ⟨_, Lib.hid rfl⟩
    obtain ⟨o3, HO3⟩ : ∃ x, Hid (sdB o2 s 9 p2 = x) := ⟨_, Lib.hid rfl⟩
    have hd6 : d ≤ 6 := by rw [← HD.out]; exact sdI_le (by omega)
    have hi9 : i ≤ 9 := by rw [← HI.out]; exact sdI_le (by omega)
    have hp1 : p ≤ p1 ∧ p1 ≤ s.size := by rw [← HP1.out]; exact dgN_le hp (by omega)
    have hp2 : p1 ≤ p2 ∧ p2 ≤ s.size := by rw [← HP2.out]; exact sgN_le hp1.2 (by omega)
    have hp3 : p2 ≤ p3 ∧ p3 ≤ s.size := by rw [← HP3.out]; exact dgN_le hp2.2 (by omega)
    go_enter Try.func39, Try.ntmps39
    go_upto_region 2 with (go_at_call 46; refine (sdigit_any g p 6 true s _ HB.out (by omega) hs (by omega)).mono ?_; rintro e V1 ⟨rfl, hb, hg, hz⟩; rw [HP1.out, HO1.out] at hb; rw [HD.out]; have BG1 := Lib.hid hb; clear hb; have GR1 := Lib.hid (grownBy_trans HGR.out hg); have hw1 : V1.heap.size = w.heap.size := hz; have hv1 : w.heap.size ≤ V1.heap.size := Nat.le_of_eq hw1.symm; have hu1 : V1.heap.size ≤ w.heap.size := Nat.le_of_eq hw1; clear hw1 hz; clear hg HB HGR)
    refine nameC ?_
    intro V2 HW2
    have BT := Lib.hid (show BoxN V2 V1.heap.size #[.int .i64 d, .int .i64 0, .slice none 0 0, .slice none 0 0, .int .i64 0] 55 by rw [HW2.out]; exact BoxN.new _ _ _)
    have hg2 : V1.grownBy V2 none := by rw [HW2.out]; exact grown_alloc _ _
    have hs2 : V1.heap.size + 1 ≤ V2.heap.size := by rw [HW2.out]; simp
    have BG := Lib.hid (BG1.out.still hg2)
    have GR := Lib.hid (grownBy_trans GR1.out (grown_any hg2))
    clear HW2 hg2 BG1 GR1
    have hgt : g < V1.heap.size := by omega
    go_upto_region 4 with (first | (go_at_call 47; refine (sign_any g p1 46 o1 s _ BG.out (by omega) hs (by omega)).mono ?_; rintro e V3 ⟨rfl, hb, hg, hz⟩; rw [HP2.out, HO2.out] at hb; have BG3 := Lib.hid hb; clear hb; have GR3 := Lib.hid (grownBy_trans GR.out hg); have hw3 : V3.heap.size = V2.heap.size := hz; have hv3 : V2.heap.size ≤ V3.heap.size := Nat.le_of_eq hw3.symm; have hu3 : V3.heap.size ≤ V2.heap.size := Nat.le_of_eq hw3; clear hw3 hz; have BT3 := Lib.hid (BT.out.far hg (fun k e => by cases e; omega)); clear hg BG GR BT) | (go_at_call 46; refine (sdigit_any g p2 9 o2 s _ BG3.out (by omega) hs (by omega)).mono ?_; rintro e V4 ⟨rfl, hb, hg, hz⟩; rw [HP3.out, HO3.out] at hb; rw [HI.out]; have BG4 := Lib.hid hb; clear hb; have GR4 := Lib.hid (grownBy_trans GR3.out hg); have hw4 : V4.heap.size = V3.heap.size := hz; have hv4 : V3.heap.size ≤ V4.heap.size := Nat.le_of_eq hw4.symm; have hu4 : V4.heap.size ≤ V3.heap.size := Nat.le_of_eq hw4; clear hw4 hz; have BT4 := Lib.hid (BT3.out.far hg (fun k e => by cases e; omega)); clear hg BG3 GR3 BT3; have kz := BT4.out.frozen 1; have ky : V4.cell? ⟨V1.heap.size, 1, none⟩ = some (.int .i64 0) := BT4.out.cell 1 (by simp)))
    clear kz ky
    refine nameC ?_
    intro V5 HV5
    have BT5 := Lib.hid (show BoxN V5 V1.heap.size #[.int .i64 d, .int .i64 i, .slice none 0 0, .slice none 0 0, .int .i64 0] 55 by rw [HV5.out]; exact BT4.out.set 1 _)
    have hg5 : V4.grownBy V5 (some V1.heap.size) := by rw [HV5.out]; exact grown_set _ _ _
    have hz5 : V4.heap.size ≤ V5.heap.size := hg5.size
    have BG5 := Lib.hid (BG4.out.far hg5 (fun k e => by cases e; omega))
    have GR5 := Lib.hid (grown_new GR4.out hg5 (by omega))
    clear HV5 hg5 BT4 BG4 GR4
    have c0 : V5.cell? ⟨g, 0, none⟩ = some (.string s) := BG5.out.cell 0 (by simp)
    have c1 : V5.cell? ⟨g, 1, none⟩ = some (.int .i64 p3) := BG5.out.cell 1 (by simp)
    have c2 : V5.cell? ⟨g, 2, none⟩ = some (.bool o3) := BG5.out.cell 2 (by simp)
    have t0 : V5.cell? ⟨V1.heap.size, 0, none⟩ = some (.int .i64 d) := BT5.out.cell 0 (by simp)
    cases o3 with
    | false =>
      go_quiet (fail)
      go_wp2_with fail
      go_ret
      exact ⟨p3, V1.heap.size, d, i, 0, false, _, _, by omega, by omega, BG5.out.still (grown_drewN _ nq), grownBy_trans GR5.out (grown_any (grown_drewN _ nq)), rfl, BT5.out.still (grown_drewN _ nq), by omega, by simp; omega, by omega, .inl ⟨rfl, sv_head_no HO1.out HP1.out HO2.out HP2.out HO3.out⟩⟩
    | true =>
      have HH := Lib.hid (sv_head_yes HD.out HO1.out HP1.out HO2.out HP2.out HO3.out HI.out HP3.out)
      by_cases hd0 : d = 0
      case pos =>
        have HD0 := Lib.hid hd0
        have hd0' : ((d : Int) == 0) = true := by simp; exact hd0
        clear hd0
        go_quiet (fail)
        go_wp2_with fail
        go_ret
        exact ⟨p3, V1.heap.size, d, i, 0, true, _, _, by omega, by omega, BG5.out.still (grown_drewN _ nq), grownBy_trans GR5.out (grown_any (grown_drewN _ nq)), rfl, BT5.out.still (grown_drewN _ nq), by omega, by simp; omega, by omega, .inr ⟨rfl, .node d i [] [] 0, (by rw [HH.out.2.2.2]; exact sv_leaf ⟨HH.out.1, HH.out.2.1, HH.out.2.2.1⟩ (.inl HD0.out)), leaf_at (by omega) (by simp; omega) (BT5.out.still (grown_drewN _ nq)), rfl, rfl⟩⟩
      have hd0' : ((d : Int) == 0) = false := by simp; exact hd0
      have hdp : 0 < d := by omega
      have HD0 := Lib.hid hd0; clear hd0
      by_cases hlt : p3 < s.size
      case neg =>
        have h1 : ((p3 : Int) == (s.size : Int)) = true := by simp; omega
        have HNB := Lib.hid (show bt s (p + 3) ≠ 40 by rw [← HH.out.2.2.2, bt_out hlt]; omega)
        go_quiet (fail)
        go_wp2_with fail
        go_ret
        exact ⟨p3, V1.heap.size, d, i, 0, true, _, _, by omega, by omega, BG5.out.still (grown_drewN _ nq), grownBy_trans GR5.out (grown_any (grown_drewN _ nq)), rfl, BT5.out.still (grown_drewN _ nq), by omega, by simp; omega, by omega, .inr ⟨rfl, .node d i [] [] 0, (by rw [HH.out.2.2.2]; exact sv_leaf ⟨HH.out.1, HH.out.2.1, HH.out.2.2.1⟩ (.inr HNB.out)), leaf_at (by omega) (by simp; omega) (BT5.out.still (grown_drewN _ nq)), rfl, rfl⟩⟩
      have h1 : ((p3 : Int) == (s.size : Int)) = false := by simp; omega
      have h2 : (p3 : Int) < (s.size : Int) := by omega
      have HTB := Lib.hid (bt_in hlt)
      by_cases hc : s[p3].toNat = 40
      case neg =>
        have h3 : ((s[p3].toNat : Int) != 40) = true := by simp; omega
        have HNB := Lib.hid (show bt s (p + 3) ≠ 40 by rw [← HH.out.2.2.2, HTB.out]; exact hc)
        clear hc
        go_quiet (fail)
        go_wp2_with fail
        go_ret
        exact ⟨p3, V1.heap.size, d, i, 0, true, _, _, by omega, by omega, BG5.out.still (grown_drewN _ nq), grownBy_trans GR5.out (grown_any (grown_drewN _ nq)), rfl, BT5.out.still (grown_drewN _ nq), by omega, by simp; omega, by omega, .inr ⟨rfl, .node d i [] [] 0, (by rw [HH.out.2.2.2]; exact sv_leaf ⟨HH.out.1, HH.out.2.1, HH.out.2.2.1⟩ (.inr HNB.out)), leaf_at (by omega) (by simp; omega) (BT5.out.still (grown_drewN _ nq)), rfl, rfl⟩⟩
      have h3 : ((s[p3].toNat : Int) != 40) = false := by simp [hc]
      have H40 := Lib.hid (show bt s (p + 3) = 40 by rw [← HH.out.2.2.2, HTB.out]; exact hc)
      clear hc
      go_quiet (fail)
      go_upto_region 6 with (fail)
      clear h1 h3 hd0' c0 c1 c2 t0
      refine nameC ?_
      intro V6 HV6
      have hg6 : V5.grownBy V6 none := by rw [HV6.out]; exact grown_drewN _ _
      have hz6 := hg6.size
      have BG6 := Lib.hid (BG5.out.still hg6)
      have BT6 := Lib.hid (BT5.out.still hg6)
      have GR6 := Lib.hid (grownBy_trans GR5.out (grown_any hg6))
      clear HV6 hg6 BG5 BT5 GR5
      go_wp2_with fail
      go_loopw [4] (fun i' wr => ∃ (k q m : Nat) (o : Bool) (vp vq : Value), k ≤ d ∧ i' = .int .i64 k ∧ q ≤ s.size ∧ p + 3 ≤ q ∧ Hid (BoxN wr g #[.string s, .int .i64 q, .bool o] 75) ∧ Hid (BoxN wr V1.heap.size #[.int .i64 d, .int .i64 i, vp, vq, .int .i64 m] 55) ∧ Hid (w.grownBy wr (some g)) ∧ V6.heap.size ≤ wr.heap.size ∧ m ≤ f + 1 ∧ Hid (SLoop f s d p k q m o vp vq V6.heap.size wr)) (fun i' _ => d - (intOf i').toNat)
      case atStart => exact ⟨0, p3, 0, true, .slice none 0 0, .slice none 0 0, Nat.zero_le _, rfl, hp3.2, by rw [HH.out.2.2.2]; exact Nat.le_refl _, BG6, BT6, GR6, Nat.le_refl _, Nat.zero_le _, Lib.hid (.inr ⟨rfl, [], [], [], ⟨rfl, rfl, rfl⟩, fun _ => HH.out.2.2.2, by rw [if_pos rfl, HH.out.2.2.2]; rfl, OwnI.nil _ _ _, Own.nil _ _ _, Apart.nil_left _, fun j hj => absurd hj (by simp), rfl⟩)⟩
      case round =>
        clear BG6 BT6 GR6
        obtain ⟨k, q, m, o, vp, vq, hk, rfl, hq1, hq2, BGr, BTr, GRr, hzr, hm1, HSL⟩ := hrel
        have c2 : wr.cell? ⟨g, 2, none⟩ = some (.bool o) := BGr.out.cell 2 (by simp)
        have t0 : wr.cell? ⟨V1.heap.size, 0, none⟩ = some (.int .i64 d) := BTr.out.cell 0 (by simp)
        rcases HSL.out with ⟨ho, hn⟩ | ⟨ho, ps, ts, bs, hlen, hk0, hpl, hop, hoq, hap, htr, hm⟩
        case inl =>
          clear HSL
          have HN := Lib.hid hn; clear hn
          rw [ho] at c2
          have HO := Lib.hid ho; clear ho
          have hbx : BoxN wr g #[.string s, .int .i64 q, .bool false] 75 := by rw [← HO.out]; exact BGr.out
          have BGf := Lib.hid hbx; clear hbx
          obtain ⟨q9, HQ9⟩ : ∃ x, Hid (sgN s q 41 = x) := ⟨_, Lib.hid rfl⟩
          have hq9 : q ≤ q9 ∧ q9 ≤ s.size := by rw [← HQ9.out]; exact sgN_le hq1 (by omega)
          by_cases hkd : k < d
          case pos =>
            go_wp2_with (go_at_call 47; refine (sign_any g q 41 false s _ BGf.out (by omega) hs (by omega)).mono ?_; rintro e V7 ⟨rfl, hb, hg, hz⟩; rw [HQ9.out, sgB_off] at hb; have BG7 := Lib.hid hb; clear hb; have GR7 := Lib.hid (grownBy_trans GRr.out hg); have BT7 := Lib.hid (BTr.out.far hg (fun k e => by cases e; omega)); have hz7 : wr.heap.size ≤ V7.heap.size := Nat.le_of_eq hz.symm; clear hz hg)
            go_ret
            exact ⟨q9, V1.heap.size, d, i, m, false, vp, vq, by omega, by omega, BG7.out, GR7.out, rfl, BT7.out, by omega, by omega, by omega, .inl ⟨rfl, sv_deep_no ⟨HH.out.1, HH.out.2.1, HH.out.2.2.1⟩ HD0.out H40.out HN.out⟩⟩
          case neg =>
            go_wp2_with (go_at_call 47; refine (sign_any g q 41 false s _ BGf.out (by omega) hs (by omega)).mono ?_; rintro e V7 ⟨rfl, hb, hg, hz⟩; rw [HQ9.out, sgB_off] at hb; have BG7 := Lib.hid hb; clear hb; have GR7 := Lib.hid (grownBy_trans GRr.out hg); have BT7 := Lib.hid (BTr.out.far hg (fun k e => by cases e; omega)); have hz7 : wr.heap.size ≤ V7.heap.size := Nat.le_of_eq hz.symm; clear hz hg)
            go_ret
            exact ⟨q9, V1.heap.size, d, i, m, false, vp, vq, by omega, by omega, BG7.out, GR7.out, rfl, BT7.out, by omega, by omega, by omega, .inl ⟨rfl, sv_deep_no ⟨HH.out.1, HH.out.2.1, HH.out.2.2.1⟩ HD0.out H40.out HN.out⟩⟩
        rw [ho] at c2
        have HO := Lib.hid ho; clear ho HSL
        have hbx : BoxN wr g #[.string s, .int .i64 q, .bool true] 75 := by rw [← HO.out]; exact BGr.out
        have BGf := Lib.hid hbx; clear hbx
        have HLEN := Lib.hid hlen; have HK0 := Lib.hid hk0; have HPL := Lib.hid hpl; have HOP := Lib.hid hop; have HOQ := Lib.hid hoq; have HAP := Lib.hid hap; have HTR := Lib.hid htr; have HM := Lib.hid hm
        clear hlen hk0 hpl hop hoq hap htr hm
        by_cases hkd : k < d
        case neg =>
          have hkp : 0 < k := by omega
          have HPE := Lib.hid (show ploop false (sv f s) s d [] [] (p + 4) = some (ps, ts, q) by rw [HPL.out, if_neg (by omega), show d - k = 0 by omega]; rfl)
          obtain ⟨q9, HQ9⟩ : ∃ x, Hid (sgN s q 41 = x) := ⟨_, Lib.hid rfl⟩
          obtain ⟨o9, HO9⟩ : ∃ x, Hid (sgB true s q 41 = x) := ⟨_, Lib.hid rfl⟩
          have hq9 : q ≤ q9 ∧ q9 ≤ s.size := by rw [← HQ9.out]; exact sgN_le hq1 (by omega)
          obtain ⟨gq, cq, hvq, _, _, hSl⟩ := rowP_form HOQ.out HLEN.out.2.2 hkp
          have HSL := Lib.hid hSl; clear hvq hSl
          go_wp2_with (go_at_call 47; refine (sign_any g q 41 true s _ BGf.out (by omega) hs (by omega)).mono ?_; rintro e V7 ⟨rfl, hb, hg, hz⟩; rw [HQ9.out, HO9.out] at hb; have BG7 := Lib.hid hb; clear hb; have GR7 := Lib.hid (grownBy_trans GRr.out hg); have BT7 := Lib.hid (BTr.out.far hg (fun k e => by cases e; omega)); have OP7 := Lib.hid (OwnI.far HOP.out hg (fun k e => by cases e; omega)); have TR7 := Lib.hid (HTR.out.far hg (by omega)); have SL7 := Lib.hid (HSL.out.keep (fun x h1 h2 => hg.block x (by omega) (fun e => by injection e; omega))); have hz7 : wr.heap.size ≤ V7.heap.size := Nat.le_of_eq hz.symm; clear hz hg)
          go_ret
          refine ⟨q9, V1.heap.size, d, i, m, o9, vp, vq, by omega, by omega, BG7.out, GR7.out, rfl, BT7.out, by omega, by omega, by omega, ?_⟩
          have hsv := sv_deep ⟨HH.out.1, HH.out.2.1, HH.out.2.2.1⟩ HD0.out H40.out HPE.out
          by_cases e41 : bt s q = 41
          · rw [if_pos e41] at hsv
            have e9 : o9 = true := by rw [← HO9.out, (sg_yes e41).2]
            have eq9 : q9 = q + 1 := by rw [← HQ9.out, (sg_yes (o := true) e41).1]
            exact .inr ⟨e9, .node d i ps ts (mxD ts), by rw [eq9]; exact hsv, trsS_tree HLEN.out.2.1 HLEN.out.2.2 (by omega) (by omega) (by rw [← HM.out]; exact BT7.out) OP7.out.ints SL7.out TR7.out (by omega) (by omega), rfl, HM.out.symm⟩
          · rw [if_neg e41] at hsv
            exact .inl ⟨by rw [← HO9.out, (sg_no e41).2], hsv⟩
        have hkd2 : (k : Int) < (d : Int) := by omega
        by_cases hk0 : k = 0
        case neg =>
          have hki : ((k : Int) == 0) = false := by simp; exact hk0
          have hkp : 0 < k := by omega
          clear hk0
          obtain ⟨q1, HQ1⟩ : ∃ x, Hid (sgN s q 44 = x) := ⟨_, Lib.hid rfl⟩
          obtain ⟨o1, HP1q⟩ : ∃ x, Hid (sgB true s q 44 = x) := ⟨_, Lib.hid rfl⟩
          obtain ⟨j, HJ⟩ : ∃ x, Hid (sdI s 5 q1 = x) := ⟨_, Lib.hid rfl⟩
          obtain ⟨q2, HQ2⟩ : ∃ x, Hid (dgN s 5 q1 = x) := ⟨_, Lib.hid rfl⟩
          obtain ⟨o2, HP2q⟩ : ∃ x, Hid (sdB o1 s 5 q1 = x) := ⟨_, Lib.hid rfl⟩
          obtain ⟨q3, HQ3⟩ : ∃ x, Hid (sgN s q2 58 = x) := ⟨_, Lib.hid rfl⟩
          obtain ⟨o3, HP3q⟩ : ∃ x, Hid (sgB o2 s q2 58 = x) := ⟨_, Lib.hid rfl⟩
          have hj5 : j ≤ 5 := by rw [← HJ.out]; exact sdI_le (by omega)
          have hq1' : q ≤ q1 ∧ q1 ≤ s.size := by rw [← HQ1.out]; exact sgN_le hq1 (by omega)
          have hq2' : q1 ≤ q2 ∧ q2 ≤ s.size := by rw [← HQ2.out]; exact dgN_le hq1'.2 (by omega)
          have hq3' : q2 ≤ q3 ∧ q3 ≤ s.size := by rw [← HQ3.out]; exact sgN_le hq2'.2 (by omega)
          go_upto_region 14 with (first | (go_at_call 47; refine (sign_any g q 44 true s _ BGf.out (by omega) hs (by omega)).mono ?_; rintro e V11 ⟨rfl, hb, hg, hz⟩; rw [HQ1.out, HP1q.out] at hb; have BG11 := Lib.hid hb; clear hb; have GR11 := Lib.hid (grownBy_trans GRr.out hg); have hw11 : V11.heap.size = wr.heap.size := hz; have hv11 : wr.heap.size ≤ V11.heap.size := Nat.le_of_eq hw11.symm; have hu11 : V11.heap.size ≤ wr.heap.size := Nat.le_of_eq hw11; clear hw11 hz; have BT11 := Lib.hid (BTr.out.far hg (fun k e => by cases e; omega)); have HOP11 := Lib.hid (OwnI.far HOP.out hg (fun k e => by cases e; omega)); have HOQ11 := Lib.hid (Own.kept HOQ.out hg (own_far HOQ.out (by omega))); have HTR11 := Lib.hid (TrsS.far HTR.out hg (by omega)); clear hg BGf GRr BTr HOP HOQ HTR) | (go_at_call 46; refine (sdigit_any g q1 5 o1 s _ BG11.out (by omega) hs (by omega)).mono ?_; rintro e V12 ⟨rfl, hb, hg, hz⟩; rw [HQ2.out, HP2q.out] at hb; rw [HJ.out]; have BG12 := Lib.hid hb; clear hb; have GR12 := Lib.hid (grownBy_trans GR11.out hg); have hw12 : V12.heap.size = V11.heap.size := hz; have hv12 : V11.heap.size ≤ V12.heap.size := Nat.le_of_eq hw12.symm; have hu12 : V12.heap.size ≤ V11.heap.size := Nat.le_of_eq hw12; clear hw12 hz; have BT12 := Lib.hid (BT11.out.far hg (fun k e => by cases e; omega)); have HOP12 := Lib.hid (OwnI.far HOP11.out hg (fun k e => by cases e; omega)); have HOQ12 := Lib.hid (Own.kept HOQ11.out hg (own_far HOQ11.out (by omega))); have HTR12 := Lib.hid (TrsS.far HTR11.out hg (by omega)); clear hg BG11 GR11 BT11 HOP11 HOQ11 HTR11) | (go_at_call 47; refine (sign_any g q2 58 o2 s _ BG12.out (by omega) hs (by omega)).mono ?_; rintro e V13 ⟨rfl, hb, hg, hz⟩; rw [HQ3.out, HP3q.out] at hb; have BG13 := Lib.hid hb; clear hb; have GR13 := Lib.hid (grownBy_trans GR12.out hg); have hw13 : V13.heap.size = V12.heap.size := hz; have hv13 : V12.heap.size ≤ V13.heap.size := Nat.le_of_eq hw13.symm; have hu13 : V13.heap.size ≤ V12.heap.size := Nat.le_of_eq hw13; clear hw13 hz; have BT13 := Lib.hid (BT12.out.far hg (fun k e => by cases e; omega)); have HOP13 := Lib.hid (OwnI.far HOP12.out hg (fun k e => by cases e; omega)); have HOQ13 := Lib.hid (Own.kept HOQ12.out hg (own_far HOQ12.out (by omega))); have HTR13 := Lib.hid (TrsS.far HTR12.out hg (by omega)); clear hg BG12 GR12 BT12 HOP12 HOQ12 HTR12))
          clear c2 t0
          have HLPQ := Lib.hid (And.intro (fun x hx => (HOP13.out.lt x hx).2) (fun x hx => (HOQ13.out.lt x hx).2) : (∀ x, vp.ownBlock = some x → x < V13.heap.size) ∧ (∀ x, vq.ownBlock = some x → x < V13.heap.size))
          go_wp2_with fail
          refine (HIH.out g q3 o3 _ (fun _ => by omega) (by omega) BG13.out).mono ?_
          rintro e V14 ⟨q', b, dt, it, kt, o4, vpt, vqt, hw0, hw1, hb, hg, rfl, hbt, hw2, hw3, hw4, hres⟩
          have BG14 := Lib.hid hb; clear hb
          have GR14 := Lib.hid (grownBy_trans GR13.out hg)
          have hv14 := hg.size
          have BX14 := Lib.hid hbt; clear hbt
          have BT14 := Lib.hid (BT13.out.far hg (fun k e => by cases e; omega))
          have HOP14 := Lib.hid (OwnI.far HOP13.out hg (fun k e => by cases e; omega))
          have HOQ14 := Lib.hid (Own.kept HOQ13.out hg (own_far HOQ13.out (by omega)))
          have HTR14 := Lib.hid (TrsS.far HTR13.out hg (by omega))
          clear hg BG13 GR13 BT13 HOP13 HOQ13 HTR13
          have HRES := Lib.hid hres; clear hres
          have c2 : V14.cell? ⟨g, 2, none⟩ = some (.bool o4) := BG14.out.cell 2 (by simp)
          have kf := BG14.out.frozen 2
          have x0 : V14.cell? ⟨b, 0, none⟩ = some (.int .i64 dt) := BX14.out.cell 0 (by simp)
          cases o4 with
          | false =>
            clear HTR14
            go_upto_region 16 with fail
            clear c2 kf x0
            refine nameC ?_
            intro V15 HV15
            have BG15 := Lib.hid (show BoxN V15 g #[.string s, .int .i64 q', .bool false] 75 by rw [HV15.out]; exact BG14.out.set 2 _)
            have hg : V14.grownBy V15 (some g) := by rw [HV15.out]; exact grown_set _ _ _
            have hv15 := hg.size
            have GR15 := Lib.hid (grownBy_trans GR14.out hg)
            have BT15 := Lib.hid (BT14.out.far hg (fun k e => by cases e; omega))
            have BX15 := Lib.hid (BX14.out.far hg (fun k e => by cases e; omega))
            have HOP15 := Lib.hid (OwnI.far HOP14.out hg (fun k e => by cases e; omega))
            have HOQ15 := Lib.hid (Own.kept HOQ14.out hg (own_far HOQ14.out (by omega)))
            clear HV15 hg BG14 GR14 BT14 BX14 HOP14 HOQ14
            have t2 : V15.cell? ⟨V1.heap.size, 2, none⟩ = some vp := BT15.out.cell 2 (by simp)
            have LP := Lib.hid HOP15.out.lt
            have LQ := Lib.hid HOQ15.out.lt
            go_upto_region 17 with (at_builtin; refine append_int (s := .tmp 100) Try.underlying52 Try.infoI (by decide) V15 rfl _ rfl HOP15.out (j : Int) _ rfl (by simp [Act.eval, go_sem]) (by have := HLEN.out.1; omega) (by omega) ?_; intro vp1 V16 hown hgrow hat; obtain ⟨A1, n1, z1, rfl⟩ := own_slice hown; have hv16 := hgrow.size; have BT16 := Lib.hid (BT15.out.far hgrow (fun x e => by have := (LP.out x e).1; omega)); have kf := BT16.out.frozen 2; have ky : V16.cell? ⟨V1.heap.size, 2, none⟩ = some vp := BT16.out.cell 2 (by simp))
            clear t2 kf ky
            refine nameC ?_
            intro V17 HV17
            have hg17 : V16.grownBy V17 (some V1.heap.size) := by rw [HV17.out]; exact grown_set _ _ _
            have hv17 := hg17.size
            have BT17 := Lib.hid (show BoxN V17 V1.heap.size #[.int .i64 d, .int .i64 i, .slice A1 n1 z1, vq, .int .i64 m] 55 by rw [HV17.out]; exact BT16.out.set 2 _)
            have BG17 := Lib.hid ((BG15.out.far hgrow (fun x e => by have := (LP.out x e).1; omega)).far hg17 (fun x e => by cases e; omega))
            have BX17 := Lib.hid ((BX15.out.far hgrow (fun x e => by have := HLPQ.out.1 x e; omega)).far hg17 (fun x e => by cases e; omega))
            have GR17 := Lib.hid (grown_rows (grown_rows GR15.out hgrow (fun x e => by have := (LP.out x e).1; omega)) hg17 (fun x e => by cases e; omega))
            have OP17 := Lib.hid (OwnI.far hown hg17 (fun x e => by cases e; omega))
            have OQ17 := Lib.hid (Own.kept (Own.kept HOQ15.out hgrow HAP.out.symm.keeps) hg17 (own_far (Own.kept HOQ15.out hgrow HAP.out.symm.keeps) (by omega)))
            have AP17 := Lib.hid (Apart.grow HAP.out.symm HOQ15.out (g := V15.heap.size + 1) (by omega) hat).symm
            clear HV17 BT16 BT15 BG15 BX15 GR15 HOP15 HOQ15 hown hgrow hat hg17 LP
            have t3 : V17.cell? ⟨V1.heap.size, 3, none⟩ = some vq := BT17.out.cell 3 (by simp)
            go_upto_region 18 with (at_builtin; refine append1 (s := .tmp 110) Try.underlying53 Try.infoS rfl (by decide) V17 rfl _ rfl OQ17.out (.pointer (some ⟨b, 0, none⟩)) _ rfl (by simp [Act.eval, go_sem]) rfl (by rw [List.length_map, HLEN.out.2.2]; omega) (by omega) ?_; intro vq1 V18 hown2 hgrow2 hat2; obtain ⟨A2, n2, z2, rfl⟩ := own_slice hown2; have hv18 := hgrow2.size; have BT18 := Lib.hid (BT17.out.far hgrow2 (fun x e => by have := (LQ.out x e).1; omega)); have kf := BT18.out.frozen 3; have ky : V18.cell? ⟨V1.heap.size, 3, none⟩ = some vq := BT18.out.cell 3 (by simp))
            clear t3 kf ky
            refine nameC ?_
            intro V19 HV19
            have hg19 : V18.grownBy V19 (some V1.heap.size) := by rw [HV19.out]; exact grown_set _ _ _
            have hv19 := hg19.size
            have BT19 := Lib.hid (show BoxN V19 V1.heap.size #[.int .i64 d, .int .i64 i, .slice A1 n1 z1, .slice A2 n2 z2, .int .i64 m] 55 by rw [HV19.out]; exact BT18.out.set 3 _)
            have BG19 := Lib.hid ((BG17.out.far hgrow2 (fun x e => by have := (LQ.out x e).1; omega)).far hg19 (fun x e => by cases e; omega))
            have BX19 := Lib.hid ((BX17.out.far hgrow2 (fun x e => by have := HLPQ.out.2 x e; omega)).far hg19 (fun x e => by cases e; omega))
            have GR19 := Lib.hid (grown_rows (grown_rows GR17.out hgrow2 (fun x e => by have := (LQ.out x e).1; omega)) hg19 (fun x e => by cases e; omega))
            have hq2e : bs.map ptrV ++ [.pointer (some ⟨b, 0, none⟩)] = (bs ++ [b]).map ptrV := by rw [List.map_append]; rfl
            rw [hq2e] at hown2
            have OQ19 := Lib.hid (Own.kept hown2 hg19 (own_far hown2 (by omega)))
            have OP19 := Lib.hid (OwnI.far (OwnI.kept OP17.out hgrow2 AP17.out.keeps) hg19 (fun x e => by cases e; omega))
            have AP19 := Lib.hid (Apart.grow AP17.out OP17.out (g := V17.heap.size + 1) (by omega) hat2)
            clear HV19 BT18 BT17 BG17 BX17 GR17 OP17 OQ17 AP17 hown2 hgrow2 hat2 hg19 LQ hq2e
            have hwr : IntKind.i64.wrap ((kt : Int) + 1) = (kt : Int) + 1 := IntWalk.i64_in _ (by omega)
            refine wp_region_U (fun w' => w'.cell? ⟨V1.heap.size, 4, none⟩ = some (.int .i64 m) ∧ w'.cell? ⟨b, 4, none⟩ = some (.int .i64 kt)) [13] (by kernel_rfl) ?_
            refine nameU ?_
            intro C0 HC0
            have hgc : V19.grownBy C0 none := by rw [HC0.out]; exact grown_drew _
            have hvc := hgc.size
            have BTc := Lib.hid (BT19.out.still hgc)
            have BXc := Lib.hid (BX19.out.still hgc)
            clear HC0
            have hS : C0.cell? ⟨V1.heap.size, 4, none⟩ = some (.int .i64 m) ∧ C0.cell? ⟨b, 4, none⟩ = some (.int .i64 kt) := ⟨BTc.out.cell 4 (by simp), BXc.out.cell 4 (by simp)⟩
            refine anyU_take (i := 0) (v := .pointer (some ⟨V1.heap.size, 0, none⟩)) rfl (by kernel_rfl) (by kernel_rfl) (by kernel_rfl) (fun _ _ _ h => h) ⟨by rfl, fun w' hS' => (by obtain ⟨s1, s2⟩ := hS'; go_simp)⟩ hS ?_
            simp only [List.getElem_toArray, List.getElem_cons_zero, Act.put, List.setIfInBounds_toArray, List.set_cons_zero, List.set_cons_succ]
            refine anyU_take (i := 1) (v := .pointer (some ⟨V1.heap.size, 0, none⟩)) rfl (by kernel_rfl) (by kernel_rfl) (by kernel_rfl) (fun _ _ _ h => h) ⟨by rfl, fun w' hS' => (by obtain ⟨s1, s2⟩ := hS'; go_simp)⟩ hS ?_
            simp only [List.getElem_toArray, List.getElem_cons_succ, List.getElem_cons_zero, Act.put, List.setIfInBounds_toArray, List.set_cons_zero, List.set_cons_succ]
            refine anyU_take (i := 2) (v := .pointer (some ⟨V1.heap.size, 0, none⟩)) rfl (by kernel_rfl) (by kernel_rfl) (by kernel_rfl) (fun _ _ _ h => h) ⟨by rfl, fun w' hS' => (by obtain ⟨s1, s2⟩ := hS'; go_simp)⟩ hS ?_
            simp only [List.getElem_toArray, List.getElem_cons_succ, List.getElem_cons_zero, Act.put, List.setIfInBounds_toArray, List.set_cons_zero, List.set_cons_succ]
            refine anyU_take (i := 3) (v := .pointer (some ⟨V1.heap.size, 4, none⟩)) rfl (by kernel_rfl) (by kernel_rfl) (by kernel_rfl) (fun _ _ _ h => h) ⟨by rfl, fun w' hS' => (by obtain ⟨s1, s2⟩ := hS'; go_simp)⟩ hS ?_
            simp only [List.getElem_toArray, List.getElem_cons_succ, List.getElem_cons_zero, Act.put, List.setIfInBounds_toArray, List.set_cons_zero, List.set_cons_succ]
            refine anyU_take (i := 4) (v := .int .i64 m) rfl (by kernel_rfl) (by kernel_rfl) (by kernel_rfl) (fun _ _ _ h => h) ⟨by rfl, fun w' hS' => (by obtain ⟨s1, s2⟩ := hS'; go_simp)⟩ hS ?_
            simp only [List.getElem_toArray, List.getElem_cons_succ, List.getElem_cons_zero, Act.put, List.setIfInBounds_toArray, List.set_cons_zero, List.set_cons_succ]
            refine anyU_take (i := 5) (v := .pointer (some ⟨b, 0, none⟩)) rfl (by kernel_rfl) (by kernel_rfl) (by kernel_rfl) (fun _ _ _ h => h) ⟨by rfl, fun w' hS' => (by obtain ⟨s1, s2⟩ := hS'; go_simp)⟩ hS ?_
            simp only [List.getElem_toArray, List.getElem_cons_succ, List.getElem_cons_zero, Act.put, List.setIfInBounds_toArray, List.set_cons_zero, List.set_cons_succ]
            refine anyU_take (i := 6) (v := .pointer (some ⟨b, 0, none⟩)) rfl (by kernel_rfl) (by kernel_rfl) (by kernel_rfl) (fun _ _ _ h => h) ⟨by rfl, fun w' hS' => (by obtain ⟨s1, s2⟩ := hS'; go_simp)⟩ hS ?_
            simp only [List.getElem_toArray, List.getElem_cons_succ, List.getElem_cons_zero, Act.put, List.setIfInBounds_toArray, List.set_cons_zero, List.set_cons_succ]
            refine anyU_take (i := 7) (v := .pointer (some ⟨b, 4, none⟩)) rfl (by kernel_rfl) (by kernel_rfl) (by kernel_rfl) (fun _ _ _ h => h) ⟨by rfl, fun w' hS' => (by obtain ⟨s1, s2⟩ := hS'; go_simp)⟩ hS ?_
            simp only [List.getElem_toArray, List.getElem_cons_succ, List.getElem_cons_zero, Act.put, List.setIfInBounds_toArray, List.set_cons_zero, List.set_cons_succ]
            refine anyU_take (i := 8) (v := .int .i64 kt) rfl (by kernel_rfl) (by kernel_rfl) (by kernel_rfl) (fun _ _ _ h => h) ⟨by rfl, fun w' hS' => (by obtain ⟨s1, s2⟩ := hS'; go_simp)⟩ hS ?_
            simp only [List.getElem_toArray, List.getElem_cons_succ, List.getElem_cons_zero, Act.put, List.setIfInBounds_toArray, List.set_cons_zero, List.set_cons_succ]
            refine anyU_take (i := 9) (v := .int .i64 ((kt : Int) + 1)) rfl (by kernel_rfl) (by kernel_rfl) (by kernel_rfl) (fun _ _ _ h => h) ⟨by rfl, fun w' hS' => (by obtain ⟨s1, s2⟩ := hS'; simp [go_sem, hwr])⟩ hS ?_
            simp only [List.getElem_toArray, List.getElem_cons_succ, List.getElem_cons_zero, Act.put, List.setIfInBounds_toArray, List.set_cons_zero, List.set_cons_succ]
            refine anyU_ready (rs := [10]) (by kernel_rfl) (by simp) ?_
            refine ReadyU.cons (i := 10) rfl (fun K hK => ?_) ReadyU.nil
            simp only [List.getElem_toArray, List.getElem_cons_succ, List.getElem_cons_zero]
            refine ite_is (by rfl) ?_
            simp [go_sem]
            refine (l1MostV_any _ _ _).mono ?_
            rintro e w' ⟨rfl, rfl⟩
            refine hK.out _ _ ⟨fun _ => hS, ?_⟩
            clear hK K
            try simp only [List.getElem_toArray, List.getElem_cons_succ, List.getElem_cons_zero, Act.put, List.setIfInBounds_toArray, List.set_cons_zero, List.set_cons_succ]
            have z4 := hS.1
            have zf := BTc.out.frozen 4
            obtain ⟨m2, HM2⟩ : ∃ x : Nat, Hid (x = if kt + 1 < m then m else kt + 1) := ⟨_, Lib.hid rfl⟩
            have hm2 : (if (kt : Int) + 1 < (m : Int) then (m : Int) else (kt : Int) + 1) = (m2 : Int) := by rw [HM2.out]; by_cases h9 : kt + 1 < m <;> simp only [h9, if_true, if_false] <;> split <;> omega
            rw [hm2]
            refine anyU_ready (rs := [11]) (by kernel_rfl) (by simp) ?_
            refine ReadyU.cons (i := 11) rfl (fun K hK => ?_) ReadyU.nil
            simp only [List.getElem_toArray, List.getElem_cons_succ, List.getElem_cons_zero]
            refine ite_is (by rfl) ?_
            simp [go_sem]
            refine hK.out _ _ ⟨fun _ => hS, ?_⟩
            clear hK K
            try simp only [List.getElem_toArray, List.getElem_cons_succ, List.getElem_cons_zero, Act.put, List.setIfInBounds_toArray, List.set_cons_zero, List.set_cons_succ]
            refine anyU_ready (rs := [12]) (by kernel_rfl) (by simp) ?_
            refine ReadyU.cons (i := 12) rfl (fun K hK => ?_) ReadyU.nil
            simp only [List.getElem_toArray, List.getElem_cons_succ, List.getElem_cons_zero]
            refine ite_is (by rfl) ?_
            simp [go_sem]
            refine hK.out _ _ ⟨fun _ => hS, ?_⟩
            clear hK K
            try simp only [List.getElem_toArray, List.getElem_cons_succ, List.getElem_cons_zero, Act.put, List.setIfInBounds_toArray, List.set_cons_zero, List.set_cons_succ]
            refine anyU_ready (rs := [13]) (by kernel_rfl) (by simp) ?_
            refine ReadyU.cons (i := 13) rfl (fun K hK => ?_) ReadyU.nil
            simp only [List.getElem_toArray, List.getElem_cons_succ, List.getElem_cons_zero]
            refine ite_is (by rfl) ?_
            simp [go_sem, z4, zf]
            refine hK.out _ _ ⟨fun h => absurd h (by decide), ?_⟩
            clear hK K z4 zf hS hm2 hwr
            try simp only [List.getElem_toArray, List.getElem_cons_succ, List.getElem_cons_zero, Act.put, List.setIfInBounds_toArray, List.set_cons_zero, List.set_cons_succ]
            refine nameU ?_
            intro V20 HV20
            have hg20 : C0.grownBy V20 (some V1.heap.size) := by rw [HV20.out]; exact grown_set _ _ _
            have hv20 := hg20.size
            have BT20 := Lib.hid (show BoxN V20 V1.heap.size #[.int .i64 d, .int .i64 i, .slice A1 n1 z1, .slice A2 n2 z2, .int .i64 m2] 55 by rw [HV20.out]; exact BTc.out.set 4 _)
            clear HV20
            refine anyU_done (by kernel_rfl) ?_ _
            have BG20 := Lib.hid ((BG19.out.still hgc).far hg20 (fun x e => by cases e; omega))
            have GR20 := Lib.hid (grown_rows (grown_rows GR19.out hgc (fun x e => by cases e)) hg20 (fun x e => by cases e; omega))
            have OP20 := Lib.hid (OwnI.far (OwnI.still OP19.out hgc) hg20 (fun x e => by cases e; omega))
            have OQ20 := Lib.hid (Own.kept (Own.kept OQ19.out hgc (own_none _)) hg20 (own_far (Own.kept OQ19.out hgc (own_none _)) (by omega)))
            clear hgc hg20 BTc BXc BT19 BG19 BX19 GR19 OP19 OQ19
            have HSN := Lib.hid (show SLoop f s d p (k + 1) q' m2 false (.slice A1 n1 z1) (.slice A2 n2 z2) V6.heap.size V20 from .inl ⟨rfl, by
              obtain ⟨dd, hy1, hy2⟩ : ∃ dd, d - k = dd + 1 ∧ d - (k + 1) = dd := ⟨d - (k + 1), by omega, rfl⟩
              rw [HPL.out, hy1]
              refine sloop_off fun p1 j' t' q9 e1 e2 e3 e4 => ?_
              obtain ⟨a1, rfl⟩ := (sep_loop (s := s) (q := q) HLEN.out.2.1 (fun h => absurd h (by omega)) p1).1 e1
              rw [if_neg (by omega)] at a1
              obtain ⟨b1, b2, b3⟩ := stok_no HQ1.out HP1q.out HJ.out HQ2.out HP2q.out HQ3.out HP3q.out a1 e2 e3
              rw [← b3] at e4
              rcases HRES.out with ⟨_, c1⟩ | ⟨c0, _, t, c1, _, c2, _⟩
              · rw [c1 b1] at e4; cases e4
              · rw [c1] at e4
                injection e4 with e4
                injection e4 with e4 _
                subst e4
                cases c0⟩)
            clear HPL OP20 OQ20 AP19 HRES HLEN
            go_wp2_with fail
            go_roundw
            case rel => exact ⟨k + 1, q', m2, false, _, _, by omega, by go_num, by omega, by omega, BG20, BT20, GR20, by omega, by rw [HM2.out]; split <;> omega, HSN⟩
            case measure => simp [intOf]; omega
          | true =>
            by_cases hjd : j < dt
            case neg =>
              have hjd' : decide ((j : Int) < (dt : Int)) = false := decide_eq_false (by omega)
              have hjd2 : ¬ (j : Int) < (dt : Int) := by omega
              clear HTR14
              go_upto_region 16 with fail
              clear c2 kf x0
              refine nameC ?_
              intro V15 HV15
              have BG15 := Lib.hid (show BoxN V15 g #[.string s, .int .i64 q', .bool false] 75 by rw [HV15.out]; exact BG14.out.set 2 _)
              have hg : V14.grownBy V15 (some g) := by rw [HV15.out]; exact grown_set _ _ _
              have hv15 := hg.size
              have GR15 := Lib.hid (grownBy_trans GR14.out hg)
              have BT15 := Lib.hid (BT14.out.far hg (fun k e => by cases e; omega))
              have BX15 := Lib.hid (BX14.out.far hg (fun k e => by cases e; omega))
              have HOP15 := Lib.hid (OwnI.far HOP14.out hg (fun k e => by cases e; omega))
              have HOQ15 := Lib.hid (Own.kept HOQ14.out hg (own_far HOQ14.out (by omega)))
              clear HV15 hg BG14 GR14 BT14 BX14 HOP14 HOQ14
              have t2 : V15.cell? ⟨V1.heap.size, 2, none⟩ = some vp := BT15.out.cell 2 (by simp)
              have LP := Lib.hid HOP15.out.lt
              have LQ := Lib.hid HOQ15.out.lt
              go_upto_region 17 with (at_builtin; refine append_int (s := .tmp 100) Try.underlying52 Try.infoI (by decide) V15 rfl _ rfl HOP15.out (j : Int) _ rfl (by simp [Act.eval, go_sem]) (by have := HLEN.out.1; omega) (by omega) ?_; intro vp1 V16 hown hgrow hat; obtain ⟨A1, n1, z1, rfl⟩ := own_slice hown; have hv16 := hgrow.size; have BT16 := Lib.hid (BT15.out.far hgrow (fun x e => by have := (LP.out x e).1; omega)); have kf := BT16.out.frozen 2; have ky : V16.cell? ⟨V1.heap.size, 2, none⟩ = some vp := BT16.out.cell 2 (by simp))
              clear t2 kf ky
              refine nameC ?_
              intro V17 HV17
              have hg17 : V16.grownBy V17 (some V1.heap.size) := by rw [HV17.out]; exact grown_set _ _ _
              have hv17 := hg17.size
              have BT17 := Lib.hid (show BoxN V17 V1.heap.size #[.int .i64 d, .int .i64 i, .slice A1 n1 z1, vq, .int .i64 m] 55 by rw [HV17.out]; exact BT16.out.set 2 _)
              have BG17 := Lib.hid ((BG15.out.far hgrow (fun x e => by have := (LP.out x e).1; omega)).far hg17 (fun x e => by cases e; omega))
              have BX17 := Lib.hid ((BX15.out.far hgrow (fun x e => by have := HLPQ.out.1 x e; omega)).far hg17 (fun x e => by cases e; omega))
              have GR17 := Lib.hid (grown_rows (grown_rows GR15.out hgrow (fun x e => by have := (LP.out x e).1; omega)) hg17 (fun x e => by cases e; omega))
              have OP17 := Lib.hid (OwnI.far hown hg17 (fun x e => by cases e; omega))
              have OQ17 := Lib.hid (Own.kept (Own.kept HOQ15.out hgrow HAP.out.symm.keeps) hg17 (own_far (Own.kept HOQ15.out hgrow HAP.out.symm.keeps) (by omega)))
              have AP17 := Lib.hid (Apart.grow HAP.out.symm HOQ15.out (g := V15.heap.size + 1) (by omega) hat).symm
              clear HV17 BT16 BT15 BG15 BX15 GR15 HOP15 HOQ15 hown hgrow hat hg17 LP
              have t3 : V17.cell? ⟨V1.heap.size, 3, none⟩ = some vq := BT17.out.cell 3 (by simp)
              go_upto_region 18 with (at_builtin; refine append1 (s := .tmp 110) Try.underlying53 Try.infoS rfl (by decide) V17 rfl _ rfl OQ17.out (.pointer (some ⟨b, 0, none⟩)) _ rfl (by simp [Act.eval, go_sem]) rfl (by rw [List.length_map, HLEN.out.2.2]; omega) (by omega) ?_; intro vq1 V18 hown2 hgrow2 hat2; obtain ⟨A2, n2, z2, rfl⟩ := own_slice hown2; have hv18 := hgrow2.size; have BT18 := Lib.hid (BT17.out.far hgrow2 (fun x e => by have := (LQ.out x e).1; omega)); have kf := BT18.out.frozen 3; have ky : V18.cell? ⟨V1.heap.size, 3, none⟩ = some vq := BT18.out.cell 3 (by simp))
              clear t3 kf ky
              refine nameC ?_
              intro V19 HV19
              have hg19 : V18.grownBy V19 (some V1.heap.size) := by rw [HV19.out]; exact grown_set _ _ _
              have hv19 := hg19.size
              have BT19 := Lib.hid (show BoxN V19 V1.heap.size #[.int .i64 d, .int .i64 i, .slice A1 n1 z1, .slice A2 n2 z2, .int .i64 m] 55 by rw [HV19.out]; exact BT18.out.set 3 _)
              have BG19 := Lib.hid ((BG17.out.far hgrow2 (fun x e => by have := (LQ.out x e).1; omega)).far hg19 (fun x e => by cases e; omega))
              have BX19 := Lib.hid ((BX17.out.far hgrow2 (fun x e => by have := HLPQ.out.2 x e; omega)).far hg19 (fun x e => by cases e; omega))
              have GR19 := Lib.hid (grown_rows (grown_rows GR17.out hgrow2 (fun x e => by have := (LQ.out x e).1; omega)) hg19 (fun x e => by cases e; omega))
              have hq2e : bs.map ptrV ++ [.pointer (some ⟨b, 0, none⟩)] = (bs ++ [b]).map ptrV := by rw [List.map_append]; rfl
              rw [hq2e] at hown2
              have OQ19 := Lib.hid (Own.kept hown2 hg19 (own_far hown2 (by omega)))
              have OP19 := Lib.hid (OwnI.far (OwnI.kept OP17.out hgrow2 AP17.out.keeps) hg19 (fun x e => by cases e; omega))
              have AP19 := Lib.hid (Apart.grow AP17.out OP17.out (g := V17.heap.size + 1) (by omega) hat2)
              clear HV19 BT18 BT17 BG17 BX17 GR17 OP17 OQ17 AP17 hown2 hgrow2 hat2 hg19 LQ hq2e
              have hwr : IntKind.i64.wrap ((kt : Int) + 1) = (kt : Int) + 1 := IntWalk.i64_in _ (by omega)
              refine wp_region_U (fun w' => w'.cell? ⟨V1.heap.size, 4, none⟩ = some (.int .i64 m) ∧ w'.cell? ⟨b, 4, none⟩ = some (.int .i64 kt)) [13] (by kernel_rfl) ?_
              refine nameU ?_
              intro C0 HC0
              have hgc : V19.grownBy C0 none := by rw [HC0.out]; exact grown_drew _
              have hvc := hgc.size
              have BTc := Lib.hid (BT19.out.still hgc)
              have BXc := Lib.hid (BX19.out.still hgc)
              clear HC0
              have hS : C0.cell? ⟨V1.heap.size, 4, none⟩ = some (.int .i64 m) ∧ C0.cell? ⟨b, 4, none⟩ = some (.int .i64 kt) := ⟨BTc.out.cell 4 (by simp), BXc.out.cell 4 (by simp)⟩
              refine anyU_take (i := 0) (v := .pointer (some ⟨V1.heap.size, 0, none⟩)) rfl (by kernel_rfl) (by kernel_rfl) (by kernel_rfl) (fun _ _ _ h => h) ⟨by rfl, fun w' hS' => (by obtain ⟨s1, s2⟩ := hS'; go_simp)⟩ hS ?_
              simp only [List.getElem_toArray, List.getElem_cons_zero, Act.put, List.setIfInBounds_toArray, List.set_cons_zero, List.set_cons_succ]
              refine anyU_take (i := 1) (v := .pointer (some ⟨V1.heap.size, 0, none⟩)) rfl (by kernel_rfl) (by kernel_rfl) (by kernel_rfl) (fun _ _ _ h => h) ⟨by rfl, fun w' hS' => (by obtain ⟨s1, s2⟩ := hS'; go_simp)⟩ hS ?_
              simp only [List.getElem_toArray, List.getElem_cons_succ, List.getElem_cons_zero, Act.put, List.setIfInBounds_toArray, List.set_cons_zero, List.set_cons_succ]
              refine anyU_take (i := 2) (v := .pointer (some ⟨V1.heap.size, 0, none⟩)) rfl (by kernel_rfl) (by kernel_rfl) (by kernel_rfl) (fun _ _ _ h => h) ⟨by rfl, fun w' hS' => (by obtain ⟨s1, s2⟩ := hS'; go_simp)⟩ hS ?_
              simp only [List.getElem_toArray, List.getElem_cons_succ, List.getElem_cons_zero, Act.put, List.setIfInBounds_toArray, List.set_cons_zero, List.set_cons_succ]
              refine anyU_take (i := 3) (v := .pointer (some ⟨V1.heap.size, 4, none⟩)) rfl (by kernel_rfl) (by kernel_rfl) (by kernel_rfl) (fun _ _ _ h => h) ⟨by rfl, fun w' hS' => (by obtain ⟨s1, s2⟩ := hS'; go_simp)⟩ hS ?_
              simp only [List.getElem_toArray, List.getElem_cons_succ, List.getElem_cons_zero, Act.put, List.setIfInBounds_toArray, List.set_cons_zero, List.set_cons_succ]
              refine anyU_take (i := 4) (v := .int .i64 m) rfl (by kernel_rfl) (by kernel_rfl) (by kernel_rfl) (fun _ _ _ h => h) ⟨by rfl, fun w' hS' => (by obtain ⟨s1, s2⟩ := hS'; go_simp)⟩ hS ?_
              simp only [List.getElem_toArray, List.getElem_cons_succ, List.getElem_cons_zero, Act.put, List.setIfInBounds_toArray, List.set_cons_zero, List.set_cons_succ]
              refine anyU_take (i := 5) (v := .pointer (some ⟨b, 0, none⟩)) rfl (by kernel_rfl) (by kernel_rfl) (by kernel_rfl) (fun _ _ _ h => h) ⟨by rfl, fun w' hS' => (by obtain ⟨s1, s2⟩ := hS'; go_simp)⟩ hS ?_
              simp only [List.getElem_toArray, List.getElem_cons_succ, List.getElem_cons_zero, Act.put, List.setIfInBounds_toArray, List.set_cons_zero, List.set_cons_succ]
              refine anyU_take (i := 6) (v := .pointer (some ⟨b, 0, none⟩)) rfl (by kernel_rfl) (by kernel_rfl) (by kernel_rfl) (fun _ _ _ h => h) ⟨by rfl, fun w' hS' => (by obtain ⟨s1, s2⟩ := hS'; go_simp)⟩ hS ?_
              simp only [List.getElem_toArray, List.getElem_cons_succ, List.getElem_cons_zero, Act.put, List.setIfInBounds_toArray, List.set_cons_zero, List.set_cons_succ]
              refine anyU_take (i := 7) (v := .pointer (some ⟨b, 4, none⟩)) rfl (by kernel_rfl) (by kernel_rfl) (by kernel_rfl) (fun _ _ _ h => h) ⟨by rfl, fun w' hS' => (by obtain ⟨s1, s2⟩ := hS'; go_simp)⟩ hS ?_
              simp only [List.getElem_toArray, List.getElem_cons_succ, List.getElem_cons_zero, Act.put, List.setIfInBounds_toArray, List.set_cons_zero, List.set_cons_succ]
              refine anyU_take (i := 8) (v := .int .i64 kt) rfl (by kernel_rfl) (by kernel_rfl) (by kernel_rfl) (fun _ _ _ h => h) ⟨by rfl, fun w' hS' => (by obtain ⟨s1, s2⟩ := hS'; go_simp)⟩ hS ?_
              simp only [List.getElem_toArray, List.getElem_cons_succ, List.getElem_cons_zero, Act.put, List.setIfInBounds_toArray, List.set_cons_zero, List.set_cons_succ]
              refine anyU_take (i := 9) (v := .int .i64 ((kt : Int) + 1)) rfl (by kernel_rfl) (by kernel_rfl) (by kernel_rfl) (fun _ _ _ h => h) ⟨by rfl, fun w' hS' => (by obtain ⟨s1, s2⟩ := hS'; simp [go_sem, hwr])⟩ hS ?_
              simp only [List.getElem_toArray, List.getElem_cons_succ, List.getElem_cons_zero, Act.put, List.setIfInBounds_toArray, List.set_cons_zero, List.set_cons_succ]
              refine anyU_ready (rs := [10]) (by kernel_rfl) (by simp) ?_
              refine ReadyU.cons (i := 10) rfl (fun K hK => ?_) ReadyU.nil
              simp only [List.getElem_toArray, List.getElem_cons_succ, List.getElem_cons_zero]
              refine ite_is (by rfl) ?_
              simp [go_sem]
              refine (l1MostV_any _ _ _).mono ?_
              rintro e w' ⟨rfl, rfl⟩
              refine hK.out _ _ ⟨fun _ => hS, ?_⟩
              clear hK K
              try simp only [List.getElem_toArray, List.getElem_cons_succ, List.getElem_cons_zero, Act.put, List.setIfInBounds_toArray, List.set_cons_zero, List.set_cons_succ]
              have z4 := hS.1
              have zf := BTc.out.frozen 4
              obtain ⟨m2, HM2⟩ : ∃ x : Nat, Hid (x = if kt + 1 < m then m else kt + 1) := ⟨_, Lib.hid rfl⟩
              have hm2 : (if (kt : Int) + 1 < (m : Int) then (m : Int) else (kt : Int) + 1) = (m2 : Int) := by rw [HM2.out]; by_cases h9 : kt + 1 < m <;> simp only [h9, if_true, if_false] <;> split <;> omega
              rw [hm2]
              refine anyU_ready (rs := [11]) (by kernel_rfl) (by simp) ?_
              refine ReadyU.cons (i := 11) rfl (fun K hK => ?_) ReadyU.nil
              simp only [List.getElem_toArray, List.getElem_cons_succ, List.getElem_cons_zero]
              refine ite_is (by rfl) ?_
              simp [go_sem]
              refine hK.out _ _ ⟨fun _ => hS, ?_⟩
              clear hK K
              try simp only [List.getElem_toArray, List.getElem_cons_succ, List.getElem_cons_zero, Act.put, List.setIfInBounds_toArray, List.set_cons_zero, List.set_cons_succ]
              refine anyU_ready (rs := [12]) (by kernel_rfl) (by simp) ?_
              refine ReadyU.cons (i := 12) rfl (fun K hK => ?_) ReadyU.nil
              simp only [List.getElem_toArray, List.getElem_cons_succ, List.getElem_cons_zero]
              refine ite_is (by rfl) ?_
              simp [go_sem]
              refine hK.out _ _ ⟨fun _ => hS, ?_⟩
              clear hK K
              try simp only [List.getElem_toArray, List.getElem_cons_succ, List.getElem_cons_zero, Act.put, List.setIfInBounds_toArray, List.set_cons_zero, List.set_cons_succ]
              refine anyU_ready (rs := [13]) (by kernel_rfl) (by simp) ?_
              refine ReadyU.cons (i := 13) rfl (fun K hK => ?_) ReadyU.nil
              simp only [List.getElem_toArray, List.getElem_cons_succ, List.getElem_cons_zero]
              refine ite_is (by rfl) ?_
              simp [go_sem, z4, zf]
              refine hK.out _ _ ⟨fun h => absurd h (by decide), ?_⟩
              clear hK K z4 zf hS hm2 hwr
              try simp only [List.getElem_toArray, List.getElem_cons_succ, List.getElem_cons_zero, Act.put, List.setIfInBounds_toArray, List.set_cons_zero, List.set_cons_succ]
              refine nameU ?_
              intro V20 HV20
              have hg20 : C0.grownBy V20 (some V1.heap.size) := by rw [HV20.out]; exact grown_set _ _ _
              have hv20 := hg20.size
              have BT20 := Lib.hid (show BoxN V20 V1.heap.size #[.int .i64 d, .int .i64 i, .slice A1 n1 z1, .slice A2 n2 z2, .int .i64 m2] 55 by rw [HV20.out]; exact BTc.out.set 4 _)
              clear HV20
              refine anyU_done (by kernel_rfl) ?_ _
              have BG20 := Lib.hid ((BG19.out.still hgc).far hg20 (fun x e => by cases e; omega))
              have GR20 := Lib.hid (grown_rows (grown_rows GR19.out hgc (fun x e => by cases e)) hg20 (fun x e => by cases e; omega))
              have OP20 := Lib.hid (OwnI.far (OwnI.still OP19.out hgc) hg20 (fun x e => by cases e; omega))
              have OQ20 := Lib.hid (Own.kept (Own.kept OQ19.out hgc (own_none _)) hg20 (own_far (Own.kept OQ19.out hgc (own_none _)) (by omega)))
              clear hgc hg20 BTc BXc BT19 BG19 BX19 GR19 OP19 OQ19
              have HSN := Lib.hid (show SLoop f s d p (k + 1) q' m2 false (.slice A1 n1 z1) (.slice A2 n2 z2) V6.heap.size V20 from .inl ⟨rfl, by
                obtain ⟨dd, hy1, hy2⟩ : ∃ dd, d - k = dd + 1 ∧ d - (k + 1) = dd := ⟨d - (k + 1), by omega, rfl⟩
                rw [HPL.out, hy1]
                refine sloop_off fun p1 j' t' q9 e1 e2 e3 e4 => ?_
                obtain ⟨a1, rfl⟩ := (sep_loop (s := s) (q := q) HLEN.out.2.1 (fun h => absurd h (by omega)) p1).1 e1
                rw [if_neg (by omega)] at a1
                obtain ⟨b1, b2, b3⟩ := stok_no HQ1.out HP1q.out HJ.out HQ2.out HP2q.out HQ3.out HP3q.out a1 e2 e3
                rw [← b3] at e4
                rcases HRES.out with ⟨_, c1⟩ | ⟨c0, _, t, c1, _, c2, _⟩
                · rw [c1 b1] at e4; cases e4
                · rw [c1] at e4
                  injection e4 with e4
                  injection e4 with e4 _
                  subst e4
                  omega⟩)
              clear HPL OP20 OQ20 AP19 HRES HLEN
              go_wp2_with fail
              go_roundw
              case rel => exact ⟨k + 1, q', m2, false, _, _, by omega, by go_num, by omega, by omega, BG20, BT20, GR20, by omega, by rw [HM2.out]; split <;> omega, HSN⟩
              case measure => simp [intOf]; omega
            have hjd' : decide ((j : Int) < (dt : Int)) = true := decide_eq_true (by omega)
            have hjd2 : (j : Int) < (dt : Int) := by omega
            obtain ⟨t, hvt, hta, htd, htk⟩ : ∃ t, sv f s q3 = some (t, q') ∧ TreeAt V14 55 V13.heap.size V14.heap.size t b ∧ t.degree = dt ∧ t.depth = kt := by
              rcases HRES.out with ⟨a, _⟩ | ⟨_, _, t, a, c, e1, e2⟩
              · cases a
              · exact ⟨t, a, c, e1, e2⟩
            have HVT := Lib.hid hvt; have HTD := Lib.hid htd; have HTK := Lib.hid htk
            have ho3 : o3 = true := by
              rcases HRES.out with ⟨a, _⟩ | ⟨_, a, _⟩
              · cases a
              · exact a
            have HO3' := Lib.hid ho3
            have HTR14b := Lib.hid (TrsS.snoc HTR14.out (by rw [HLEN.out.2.1, HLEN.out.2.2]) hta (by omega) (Nat.le_refl _) HLPQ.out.1 HLPQ.out.2)
            clear hvt hta htd htk ho3 HTR14
            go_upto_region 16 with fail
            clear c2 kf x0
            refine nameC ?_
            intro V15 HV15
            have BG15 := Lib.hid (show BoxN V15 g #[.string s, .int .i64 q', .bool true] 75 by rw [HV15.out]; exact BG14.out.set 2 _)
            have hg : V14.grownBy V15 (some g) := by rw [HV15.out]; exact grown_set _ _ _
            have hv15 := hg.size
            have GR15 := Lib.hid (grownBy_trans GR14.out hg)
            have BT15 := Lib.hid (BT14.out.far hg (fun k e => by cases e; omega))
            have BX15 := Lib.hid (BX14.out.far hg (fun k e => by cases e; omega))
            have HOP15 := Lib.hid (OwnI.far HOP14.out hg (fun k e => by cases e; omega))
            have HOQ15 := Lib.hid (Own.kept HOQ14.out hg (own_far HOQ14.out (by omega)))
            have HTR15 := Lib.hid (HTR14b.out.far hg (by omega))
            clear HV15 hg BG14 GR14 BT14 BX14 HOP14 HOQ14 HTR14b
            have t2 : V15.cell? ⟨V1.heap.size, 2, none⟩ = some vp := BT15.out.cell 2 (by simp)
            have LP := Lib.hid HOP15.out.lt
            have LQ := Lib.hid HOQ15.out.lt
            go_upto_region 17 with (at_builtin; refine append_int (s := .tmp 100) Try.underlying52 Try.infoI (by decide) V15 rfl _ rfl HOP15.out (j : Int) _ rfl (by simp [Act.eval, go_sem]) (by have := HLEN.out.1; omega) (by omega) ?_; intro vp1 V16 hown hgrow hat; obtain ⟨A1, n1, z1, rfl⟩ := own_slice hown; have hv16 := hgrow.size; have BT16 := Lib.hid (BT15.out.far hgrow (fun x e => by have := (LP.out x e).1; omega)); have kf := BT16.out.frozen 2; have ky : V16.cell? ⟨V1.heap.size, 2, none⟩ = some vp := BT16.out.cell 2 (by simp))
            clear t2 kf ky
            refine nameC ?_
            intro V17 HV17
            have hg17 : V16.grownBy V17 (some V1.heap.size) := by rw [HV17.out]; exact grown_set _ _ _
            have hv17 := hg17.size
            have BT17 := Lib.hid (show BoxN V17 V1.heap.size #[.int .i64 d, .int .i64 i, .slice A1 n1 z1, vq, .int .i64 m] 55 by rw [HV17.out]; exact BT16.out.set 2 _)
            have BG17 := Lib.hid ((BG15.out.far hgrow (fun x e => by have := (LP.out x e).1; omega)).far hg17 (fun x e => by cases e; omega))
            have BX17 := Lib.hid ((BX15.out.far hgrow (fun x e => by have := HLPQ.out.1 x e; omega)).far hg17 (fun x e => by cases e; omega))
            have GR17 := Lib.hid (grown_rows (grown_rows GR15.out hgrow (fun x e => by have := (LP.out x e).1; omega)) hg17 (fun x e => by cases e; omega))
            have OP17 := Lib.hid (OwnI.far hown hg17 (fun x e => by cases e; omega))
            have OQ17 := Lib.hid (Own.kept (Own.kept HOQ15.out hgrow HAP.out.symm.keeps) hg17 (own_far (Own.kept HOQ15.out hgrow HAP.out.symm.keeps) (by omega)))
            have AP17 := Lib.hid (Apart.grow HAP.out.symm HOQ15.out (g := V15.heap.size + 1) (by omega) hat).symm
            have HTR17 := Lib.hid ((HTR15.out.fst hgrow hat).far hg17 (by omega))
            clear HV17 BT16 BT15 BG15 BX15 GR15 HOP15 HOQ15 hown hgrow hat hg17 LP HTR15
            have t3 : V17.cell? ⟨V1.heap.size, 3, none⟩ = some vq := BT17.out.cell 3 (by simp)
            go_upto_region 18 with (at_builtin; refine append1 (s := .tmp 110) Try.underlying53 Try.infoS rfl (by decide) V17 rfl _ rfl OQ17.out (.pointer (some ⟨b, 0, none⟩)) _ rfl (by simp [Act.eval, go_sem]) rfl (by rw [List.length_map, HLEN.out.2.2]; omega) (by omega) ?_; intro vq1 V18 hown2 hgrow2 hat2; obtain ⟨A2, n2, z2, rfl⟩ := own_slice hown2; have hv18 := hgrow2.size; have BT18 := Lib.hid (BT17.out.far hgrow2 (fun x e => by have := (LQ.out x e).1; omega)); have kf := BT18.out.frozen 3; have ky : V18.cell? ⟨V1.heap.size, 3, none⟩ = some vq := BT18.out.cell 3 (by simp))
            clear t3 kf ky
            refine nameC ?_
            intro V19 HV19
            have hg19 : V18.grownBy V19 (some V1.heap.size) := by rw [HV19.out]; exact grown_set _ _ _
            have hv19 := hg19.size
            have BT19 := Lib.hid (show BoxN V19 V1.heap.size #[.int .i64 d, .int .i64 i, .slice A1 n1 z1, .slice A2 n2 z2, .int .i64 m] 55 by rw [HV19.out]; exact BT18.out.set 3 _)
            have BG19 := Lib.hid ((BG17.out.far hgrow2 (fun x e => by have := (LQ.out x e).1; omega)).far hg19 (fun x e => by cases e; omega))
            have BX19 := Lib.hid ((BX17.out.far hgrow2 (fun x e => by have := HLPQ.out.2 x e; omega)).far hg19 (fun x e => by cases e; omega))
            have GR19 := Lib.hid (grown_rows (grown_rows GR17.out hgrow2 (fun x e => by have := (LQ.out x e).1; omega)) hg19 (fun x e => by cases e; omega))
            have hq2e : bs.map ptrV ++ [.pointer (some ⟨b, 0, none⟩)] = (bs ++ [b]).map ptrV := by rw [List.map_append]; rfl
            rw [hq2e] at hown2
            have OQ19 := Lib.hid (Own.kept hown2 hg19 (own_far hown2 (by omega)))
            have OP19 := Lib.hid (OwnI.far (OwnI.kept OP17.out hgrow2 AP17.out.keeps) hg19 (fun x e => by cases e; omega))
            have AP19 := Lib.hid (Apart.grow AP17.out OP17.out (g := V17.heap.size + 1) (by omega) hat2)
            have HTR19 := Lib.hid ((HTR17.out.snd hgrow2 hat2).far hg19 (by omega))
            clear HV19 BT18 BT17 BG17 BX17 GR17 OP17 OQ17 AP17 hown2 hgrow2 hat2 hg19 LQ hq2e HTR17
            have hwr : IntKind.i64.wrap ((kt : Int) + 1) = (kt : Int) + 1 := IntWalk.i64_in _ (by omega)
            refine wp_region_U (fun w' => w'.cell? ⟨V1.heap.size, 4, none⟩ = some (.int .i64 m) ∧ w'.cell? ⟨b, 4, none⟩ = some (.int .i64 kt)) [13] (by kernel_rfl) ?_
            refine nameU ?_
            intro C0 HC0
            have hgc : V19.grownBy C0 none := by rw [HC0.out]; exact grown_drew _
            have hvc := hgc.size
            have BTc := Lib.hid (BT19.out.still hgc)
            have BXc := Lib.hid (BX19.out.still hgc)
            clear HC0
            have hS : C0.cell? ⟨V1.heap.size, 4, none⟩ = some (.int .i64 m) ∧ C0.cell? ⟨b, 4, none⟩ = some (.int .i64 kt) := ⟨BTc.out.cell 4 (by simp), BXc.out.cell 4 (by simp)⟩
            refine anyU_take (i := 0) (v := .pointer (some ⟨V1.heap.size, 0, none⟩)) rfl (by kernel_rfl) (by kernel_rfl) (by kernel_rfl) (fun _ _ _ h => h) ⟨by rfl, fun w' hS' => (by obtain ⟨s1, s2⟩ := hS'; go_simp)⟩ hS ?_
            simp only [List.getElem_toArray, List.getElem_cons_zero, Act.put, List.setIfInBounds_toArray, List.set_cons_zero, List.set_cons_succ]
            refine anyU_take (i := 1) (v := .pointer (some ⟨V1.heap.size, 0, none⟩)) rfl (by kernel_rfl) (by kernel_rfl) (by kernel_rfl) (fun _ _ _ h => h) ⟨by rfl, fun w' hS' => (by obtain ⟨s1, s2⟩ := hS'; go_simp)⟩ hS ?_
            simp only [List.getElem_toArray, List.getElem_cons_succ, List.getElem_cons_zero, Act.put, List.setIfInBounds_toArray, List.set_cons_zero, List.set_cons_succ]
            refine anyU_take (i := 2) (v := .pointer (some ⟨V1.heap.size, 0, none⟩)) rfl (by kernel_rfl) (by kernel_rfl) (by kernel_rfl) (fun _ _ _ h => h) ⟨by rfl, fun w' hS' => (by obtain ⟨s1, s2⟩ := hS'; go_simp)⟩ hS ?_
            simp only [List.getElem_toArray, List.getElem_cons_succ, List.getElem_cons_zero, Act.put, List.setIfInBounds_toArray, List.set_cons_zero, List.set_cons_succ]
            refine anyU_take (i := 3) (v := .pointer (some ⟨V1.heap.size, 4, none⟩)) rfl (by kernel_rfl) (by kernel_rfl) (by kernel_rfl) (fun _ _ _ h => h) ⟨by rfl, fun w' hS' => (by obtain ⟨s1, s2⟩ := hS'; go_simp)⟩ hS ?_
            simp only [List.getElem_toArray, List.getElem_cons_succ, List.getElem_cons_zero, Act.put, List.setIfInBounds_toArray, List.set_cons_zero, List.set_cons_succ]
            refine anyU_take (i := 4) (v := .int .i64 m) rfl (by kernel_rfl) (by kernel_rfl) (by kernel_rfl) (fun _ _ _ h => h) ⟨by rfl, fun w' hS' => (by obtain ⟨s1, s2⟩ := hS'; go_simp)⟩ hS ?_
            simp only [List.getElem_toArray, List.getElem_cons_succ, List.getElem_cons_zero, Act.put, List.setIfInBounds_toArray, List.set_cons_zero, List.set_cons_succ]
            refine anyU_take (i := 5) (v := .pointer (some ⟨b, 0, none⟩)) rfl (by kernel_rfl) (by kernel_rfl) (by kernel_rfl) (fun _ _ _ h => h) ⟨by rfl, fun w' hS' => (by obtain ⟨s1, s2⟩ := hS'; go_simp)⟩ hS ?_
            simp only [List.getElem_toArray, List.getElem_cons_succ, List.getElem_cons_zero, Act.put, List.setIfInBounds_toArray, List.set_cons_zero, List.set_cons_succ]
            refine anyU_take (i := 6) (v := .pointer (some ⟨b, 0, none⟩)) rfl (by kernel_rfl) (by kernel_rfl) (by kernel_rfl) (fun _ _ _ h => h) ⟨by rfl, fun w' hS' => (by obtain ⟨s1, s2⟩ := hS'; go_simp)⟩ hS ?_
            simp only [List.getElem_toArray, List.getElem_cons_succ, List.getElem_cons_zero, Act.put, List.setIfInBounds_toArray, List.set_cons_zero, List.set_cons_succ]
            refine anyU_take (i := 7) (v := .pointer (some ⟨b, 4, none⟩)) rfl (by kernel_rfl) (by kernel_rfl) (by kernel_rfl) (fun _ _ _ h => h) ⟨by rfl, fun w' hS' => (by obtain ⟨s1, s2⟩ := hS'; go_simp)⟩ hS ?_
            simp only [List.getElem_toArray, List.getElem_cons_succ, List.getElem_cons_zero, Act.put, List.setIfInBounds_toArray, List.set_cons_zero, List.set_cons_succ]
            refine anyU_take (i := 8) (v := .int .i64 kt) rfl (by kernel_rfl) (by kernel_rfl) (by kernel_rfl) (fun _ _ _ h => h) ⟨by rfl, fun w' hS' => (by obtain ⟨s1, s2⟩ := hS'; go_simp)⟩ hS ?_
            simp only [List.getElem_toArray, List.getElem_cons_succ, List.getElem_cons_zero, Act.put, List.setIfInBounds_toArray, List.set_cons_zero, List.set_cons_succ]
            refine anyU_take (i := 9) (v := .int .i64 ((kt : Int) + 1)) rfl (by kernel_rfl) (by kernel_rfl) (by kernel_rfl) (fun _ _ _ h => h) ⟨by rfl, fun w' hS' => (by obtain ⟨s1, s2⟩ := hS'; simp [go_sem, hwr])⟩ hS ?_
            simp only [List.getElem_toArray, List.getElem_cons_succ, List.getElem_cons_zero, Act.put, List.setIfInBounds_toArray, List.set_cons_zero, List.set_cons_succ]
            refine anyU_ready (rs := [10]) (by kernel_rfl) (by simp) ?_
            refine ReadyU.cons (i := 10) rfl (fun K hK => ?_) ReadyU.nil
            simp only [List.getElem_toArray, List.getElem_cons_succ, List.getElem_cons_zero]
            refine ite_is (by rfl) ?_
            simp [go_sem]
            refine (l1MostV_any _ _ _).mono ?_
            rintro e w' ⟨rfl, rfl⟩
            refine hK.out _ _ ⟨fun _ => hS, ?_⟩
            clear hK K
            try simp only [List.getElem_toArray, List.getElem_cons_succ, List.getElem_cons_zero, Act.put, List.setIfInBounds_toArray, List.set_cons_zero, List.set_cons_succ]
            have z4 := hS.1
            have zf := BTc.out.frozen 4
            obtain ⟨m2, HM2⟩ : ∃ x : Nat, Hid (x = if kt + 1 < m then m else kt + 1) := ⟨_, Lib.hid rfl⟩
            have hm2 : (if (kt : Int) + 1 < (m : Int) then (m : Int) else (kt : Int) + 1) = (m2 : Int) := by rw [HM2.out]; by_cases h9 : kt + 1 < m <;> simp only [h9, if_true, if_false] <;> split <;> omega
            rw [hm2]
            refine anyU_ready (rs := [11]) (by kernel_rfl) (by simp) ?_
            refine ReadyU.cons (i := 11) rfl (fun K hK => ?_) ReadyU.nil
            simp only [List.getElem_toArray, List.getElem_cons_succ, List.getElem_cons_zero]
            refine ite_is (by rfl) ?_
            simp [go_sem]
            refine hK.out _ _ ⟨fun _ => hS, ?_⟩
            clear hK K
            try simp only [List.getElem_toArray, List.getElem_cons_succ, List.getElem_cons_zero, Act.put, List.setIfInBounds_toArray, List.set_cons_zero, List.set_cons_succ]
            refine anyU_ready (rs := [12]) (by kernel_rfl) (by simp) ?_
            refine ReadyU.cons (i := 12) rfl (fun K hK => ?_) ReadyU.nil
            simp only [List.getElem_toArray, List.getElem_cons_succ, List.getElem_cons_zero]
            refine ite_is (by rfl) ?_
            simp [go_sem]
            refine hK.out _ _ ⟨fun _ => hS, ?_⟩
            clear hK K
            try simp only [List.getElem_toArray, List.getElem_cons_succ, List.getElem_cons_zero, Act.put, List.setIfInBounds_toArray, List.set_cons_zero, List.set_cons_succ]
            refine anyU_ready (rs := [13]) (by kernel_rfl) (by simp) ?_
            refine ReadyU.cons (i := 13) rfl (fun K hK => ?_) ReadyU.nil
            simp only [List.getElem_toArray, List.getElem_cons_succ, List.getElem_cons_zero]
            refine ite_is (by rfl) ?_
            simp [go_sem, z4, zf]
            refine hK.out _ _ ⟨fun h => absurd h (by decide), ?_⟩
            clear hK K z4 zf hS hm2 hwr
            try simp only [List.getElem_toArray, List.getElem_cons_succ, List.getElem_cons_zero, Act.put, List.setIfInBounds_toArray, List.set_cons_zero, List.set_cons_succ]
            refine nameU ?_
            intro V20 HV20
            have hg20 : C0.grownBy V20 (some V1.heap.size) := by rw [HV20.out]; exact grown_set _ _ _
            have hv20 := hg20.size
            have BT20 := Lib.hid (show BoxN V20 V1.heap.size #[.int .i64 d, .int .i64 i, .slice A1 n1 z1, .slice A2 n2 z2, .int .i64 m2] 55 by rw [HV20.out]; exact BTc.out.set 4 _)
            clear HV20
            refine anyU_done (by kernel_rfl) ?_ _
            have BG20 := Lib.hid ((BG19.out.still hgc).far hg20 (fun x e => by cases e; omega))
            have GR20 := Lib.hid (grown_rows (grown_rows GR19.out hgc (fun x e => by cases e)) hg20 (fun x e => by cases e; omega))
            have OP20 := Lib.hid (OwnI.far (OwnI.still OP19.out hgc) hg20 (fun x e => by cases e; omega))
            have OQ20 := Lib.hid (Own.kept (Own.kept OQ19.out hgc (own_none _)) hg20 (own_far (Own.kept OQ19.out hgc (own_none _)) (by omega)))
            have HTR20 := Lib.hid ((HTR19.out.far (hg := grown_any (row := some g) hgc) (by omega)).far hg20 (by omega))
            clear hgc hg20 BTc BXc BT19 BG19 BX19 GR19 OP19 OQ19
            have HSN := Lib.hid (show SLoop f s d p (k + 1) q' m2 true (.slice A1 n1 z1) (.slice A2 n2 z2) V6.heap.size V20 from .inr ⟨rfl, ps ++ [(j : Int)], ts ++ [t], bs ++ [b], by simp only [List.length_append, List.length_cons, List.length_nil]; have := HLEN.out; omega, fun h => absurd h (by omega), by
              have HP3 := HP3q.out
              rw [HO3'.out] at HP3
              obtain ⟨a1, a2, a3, a4, a5⟩ := stok_yes HQ1.out HP1q.out HJ.out HQ2.out HP2q.out HQ3.out HP3
              obtain ⟨dd, hy1, hy2⟩ : ∃ dd, d - k = dd + 1 ∧ d - (k + 1) = dd := ⟨d - (k + 1), by omega, rfl⟩
              rw [hy2, HPL.out, hy1, sloop_on (show sepAt s ts.isEmpty (if k = 0 then q + 1 else q) = some q1 from (sep_loop (s := s) (q := q) HLEN.out.2.1 (fun h => absurd h (by omega)) q1).2 ⟨by rw [if_neg (by omega)]; exact a1, a2⟩) a3 a4 (by rw [← a5]; exact HVT.out) (by rw [HTD.out]; omega), if_neg (by omega)], OP20.out, OQ20.out, AP19.out, HTR20.out, by rw [mxD_snoc, HTK.out, ← HM.out, HM2.out]⟩)
            clear HPL OP20 OQ20 AP19 HRES HLEN HTR20
            go_wp2_with fail
            go_roundw
            case rel => exact ⟨k + 1, q', m2, true, _, _, by omega, by go_num, by omega, by omega, BG20, BT20, GR20, by omega, by rw [HM2.out]; split <;> omega, HSN⟩
            case measure => simp [intOf]; omega
        subst hk0
        have HPLa := Lib.hid (show ploop false (sv f s) s d [] [] (p + 4) = ploop false (sv f s) s d ps ts (q + 1) by have := HPL.out; simpa using this)
        have HK0a := Lib.hid (show q = p + 3 from HK0.out rfl)
        clear HPL HK0
        obtain ⟨q1, HQ1⟩ : ∃ x, Hid (sgN s q 40 = x) := ⟨_, Lib.hid rfl⟩
        obtain ⟨o1, HP1q⟩ : ∃ x, Hid (sgB true s q 40 = x) := ⟨_, Lib.hid rfl⟩
        obtain ⟨j, HJ⟩ : ∃ x, Hid (sdI s 5 q1 = x) := ⟨_, Lib.hid rfl⟩
        obtain ⟨q2, HQ2⟩ : ∃ x, Hid (dgN s 5 q1 = x) := ⟨_, Lib.hid rfl⟩
        obtain ⟨o2, HP2q⟩ : ∃ x, Hid (sdB o1 s 5 q1 = x) := ⟨_, Lib.hid rfl⟩
        obtain ⟨q3, HQ3⟩ : ∃ x, Hid (sgN s q2 58 = x) := ⟨_, Lib.hid rfl⟩
        obtain ⟨o3, HP3q⟩ : ∃ x, Hid (sgB o2 s q2 58 = x) := ⟨_, Lib.hid rfl⟩
        have hj5 : j ≤ 5 := by rw [← HJ.out]; exact sdI_le (by omega)
        have hq1' : q ≤ q1 ∧ q1 ≤ s.size := by rw [← HQ1.out]; exact sgN_le hq1 (by omega)
        have hq2' : q1 ≤ q2 ∧ q2 ≤ s.size := by rw [← HQ2.out]; exact dgN_le hq1'.2 (by omega)
        have hq3' : q2 ≤ q3 ∧ q3 ≤ s.size := by rw [← HQ3.out]; exact sgN_le hq2'.2 (by omega)
        go_upto_region 14 with (first | (go_at_call 47; refine (sign_any g q 40 true s _ BGf.out (by omega) hs (by omega)).mono ?_; rintro e V11 ⟨rfl, hb, hg, hz⟩; rw [HQ1.out, HP1q.out] at hb; have BG11 := Lib.hid hb; clear hb; have GR11 := Lib.hid (grownBy_trans GRr.out hg); have hw11 : V11.heap.size = wr.heap.size := hz; have hv11 : wr.heap.size ≤ V11.heap.size := Nat.le_of_eq hw11.symm; have hu11 : V11.heap.size ≤ wr.heap.size := Nat.le_of_eq hw11; clear hw11 hz; have BT11 := Lib.hid (BTr.out.far hg (fun k e => by cases e; omega)); have HOP11 := Lib.hid (OwnI.far HOP.out hg (fun k e => by cases e; omega)); have HOQ11 := Lib.hid (Own.kept HOQ.out hg (own_far HOQ.out (by omega))); have HTR11 := Lib.hid (TrsS.far HTR.out hg (by omega)); clear hg BGf GRr BTr HOP HOQ HTR) | (go_at_call 46; refine (sdigit_any g q1 5 o1 s _ BG11.out (by omega) hs (by omega)).mono ?_; rintro e V12 ⟨rfl, hb, hg, hz⟩; rw [HQ2.out, HP2q.out] at hb; rw [HJ.out]; have BG12 := Lib.hid hb; clear hb; have GR12 := Lib.hid (grownBy_trans GR11.out hg); have hw12 : V12.heap.size = V11.heap.size := hz; have hv12 : V11.heap.size ≤ V12.heap.size := Nat.le_of_eq hw12.symm; have hu12 : V12.heap.size ≤ V11.heap.size := Nat.le_of_eq hw12; clear hw12 hz; have BT12 := Lib.hid (BT11.out.far hg (fun k e => by cases e; omega)); have HOP12 := Lib.hid (OwnI.far HOP11.out hg (fun k e => by cases e; omega)); have HOQ12 := Lib.hid (Own.kept HOQ11.out hg (own_far HOQ11.out (by omega))); have HTR12 := Lib.hid (TrsS.far HTR11.out hg (by omega)); clear hg BG11 GR11 BT11 HOP11 HOQ11 HTR11) | (go_at_call 47; refine (sign_any g q2 58 o2 s _ BG12.out (by omega) hs (by omega)).mono ?_; rintro e V13 ⟨rfl, hb, hg, hz⟩; rw [HQ3.out, HP3q.out] at hb; have BG13 := Lib.hid hb; clear hb; have GR13 := Lib.hid (grownBy_trans GR12.out hg); have hw13 : V13.heap.size = V12.heap.size := hz; have hv13 : V12.heap.size ≤ V13.heap.size := Nat.le_of_eq hw13.symm; have hu13 : V13.heap.size ≤ V12.heap.size := Nat.le_of_eq hw13; clear hw13 hz; have BT13 := Lib.hid (BT12.out.far hg (fun k e => by cases e; omega)); have HOP13 := Lib.hid (OwnI.far HOP12.out hg (fun k e => by cases e; omega)); have HOQ13 := Lib.hid (Own.kept HOQ12.out hg (own_far HOQ12.out (by omega))); have HTR13 := Lib.hid (TrsS.far HTR12.out hg (by omega)); clear hg BG12 GR12 BT12 HOP12 HOQ12 HTR12))
        clear c2 t0
        have HLPQ := Lib.hid (And.intro (fun x hx => (HOP13.out.lt x hx).2) (fun x hx => (HOQ13.out.lt x hx).2) : (∀ x, vp.ownBlock = some x → x < V13.heap.size) ∧ (∀ x, vq.ownBlock = some x → x < V13.heap.size))
        go_wp2_with fail
        refine (HIH.out g q3 o3 _ (fun _ => by omega) (by omega) BG13.out).mono ?_
        rintro e V14 ⟨q', b, dt, it, kt, o4, vpt, vqt, hw0, hw1, hb, hg, rfl, hbt, hw2, hw3, hw4, hres⟩
        have BG14 := Lib.hid hb; clear hb
        have GR14 := Lib.hid (grownBy_trans GR13.out hg)
        have hv14 := hg.size
        have BX14 := Lib.hid hbt; clear hbt
        have BT14 := Lib.hid (BT13.out.far hg (fun k e => by cases e; omega))
        have HOP14 := Lib.hid (OwnI.far HOP13.out hg (fun k e => by cases e; omega))
        have HOQ14 := Lib.hid (Own.kept HOQ13.out hg (own_far HOQ13.out (by omega)))
        have HTR14 := Lib.hid (TrsS.far HTR13.out hg (by omega))
        clear hg BG13 GR13 BT13 HOP13 HOQ13 HTR13
        have HRES := Lib.hid hres; clear hres
        have c2 : V14.cell? ⟨g, 2, none⟩ = some (.bool o4) := BG14.out.cell 2 (by simp)
        have kf := BG14.out.frozen 2
        have x0 : V14.cell? ⟨b, 0, none⟩ = some (.int .i64 dt) := BX14.out.cell 0 (by simp)
        cases o4 with
        | false =>
          clear HTR14
          go_upto_region 16 with fail
          clear c2 kf x0
          refine nameC ?_
          intro V15 HV15
          have BG15 := Lib.hid (show BoxN V15 g #[.string s, .int .i64 q', .bool false] 75 by rw [HV15.out]; exact BG14.out.set 2 _)
          have hg : V14.grownBy V15 (some g) := by rw [HV15.out]; exact grown_set _ _ _
          have hv15 := hg.size
          have GR15 := Lib.hid (grownBy_trans GR14.out hg)
          have BT15 := Lib.hid (BT14.out.far hg (fun k e => by cases e; omega))
          have BX15 := Lib.hid (BX14.out.far hg (fun k e => by cases e; omega))
          have HOP15 := Lib.hid (OwnI.far HOP14.out hg (fun k e => by cases e; omega))
          have HOQ15 := Lib.hid (Own.kept HOQ14.out hg (own_far HOQ14.out (by omega)))
          clear HV15 hg BG14 GR14 BT14 BX14 HOP14 HOQ14
          have t2 : V15.cell? ⟨V1.heap.size, 2, none⟩ = some vp := BT15.out.cell 2 (by simp)
          have LP := Lib.hid HOP15.out.lt
          have LQ := Lib.hid HOQ15.out.lt
          go_upto_region 17 with (at_builtin; refine append_int (s := .tmp 100) Try.underlying52 Try.infoI (by decide) V15 rfl _ rfl HOP15.out (j : Int) _ rfl (by simp [Act.eval, go_sem]) (by have := HLEN.out.1; omega) (by omega) ?_; intro vp1 V16 hown hgrow hat; obtain ⟨A1, n1, z1, rfl⟩ := own_slice hown; have hv16 := hgrow.size; have BT16 := Lib.hid (BT15.out.far hgrow (fun x e => by have := (LP.out x e).1; omega)); have kf := BT16.out.frozen 2; have ky : V16.cell? ⟨V1.heap.size, 2, none⟩ = some vp := BT16.out.cell 2 (by simp))
          clear t2 kf ky
          refine nameC ?_
          intro V17 HV17
          have hg17 : V16.grownBy V17 (some V1.heap.size) := by rw [HV17.out]; exact grown_set _ _ _
          have hv17 := hg17.size
          have BT17 := Lib.hid (show BoxN V17 V1.heap.size #[.int .i64 d, .int .i64 i, .slice A1 n1 z1, vq, .int .i64 m] 55 by rw [HV17.out]; exact BT16.out.set 2 _)
          have BG17 := Lib.hid ((BG15.out.far hgrow (fun x e => by have := (LP.out x e).1; omega)).far hg17 (fun x e => by cases e; omega))
          have BX17 := Lib.hid ((BX15.out.far hgrow (fun x e => by have := HLPQ.out.1 x e; omega)).far hg17 (fun x e => by cases e; omega))
          have GR17 := Lib.hid (grown_rows (grown_rows GR15.out hgrow (fun x e => by have := (LP.out x e).1; omega)) hg17 (fun x e => by cases e; omega))
          have OP17 := Lib.hid (OwnI.far hown hg17 (fun x e => by cases e; omega))
          have OQ17 := Lib.hid (Own.kept (Own.kept HOQ15.out hgrow HAP.out.symm.keeps) hg17 (own_far (Own.kept HOQ15.out hgrow HAP.out.symm.keeps) (by omega)))
          have AP17 := Lib.hid (Apart.grow HAP.out.symm HOQ15.out (g := V15.heap.size + 1) (by omega) hat).symm
          clear HV17 BT16 BT15 BG15 BX15 GR15 HOP15 HOQ15 hown hgrow hat hg17 LP
          have t3 : V17.cell? ⟨V1.heap.size, 3, none⟩ = some vq := BT17.out.cell 3 (by simp)
          go_upto_region 18 with (at_builtin; refine append1 (s := .tmp 110) Try.underlying53 Try.infoS rfl (by decide) V17 rfl _ rfl OQ17.out (.pointer (some ⟨b, 0, none⟩)) _ rfl (by simp [Act.eval, go_sem]) rfl (by rw [List.length_map, HLEN.out.2.2]; omega) (by omega) ?_; intro vq1 V18 hown2 hgrow2 hat2; obtain ⟨A2, n2, z2, rfl⟩ := own_slice hown2; have hv18 := hgrow2.size; have BT18 := Lib.hid (BT17.out.far hgrow2 (fun x e => by have := (LQ.out x e).1; omega)); have kf := BT18.out.frozen 3; have ky : V18.cell? ⟨V1.heap.size, 3, none⟩ = some vq := BT18.out.cell 3 (by simp))
          clear t3 kf ky
          refine nameC ?_
          intro V19 HV19
          have hg19 : V18.grownBy V19 (some V1.heap.size) := by rw [HV19.out]; exact grown_set _ _ _
          have hv19 := hg19.size
          have BT19 := Lib.hid (show BoxN V19 V1.heap.size #[.int .i64 d, .int .i64 i, .slice A1 n1 z1, .slice A2 n2 z2, .int .i64 m] 55 by rw [HV19.out]; exact BT18.out.set 3 _)
          have BG19 := Lib.hid ((BG17.out.far hgrow2 (fun x e => by have := (LQ.out x e).1; omega)).far hg19 (fun x e => by cases e; omega))
          have BX19 := Lib.hid ((BX17.out.far hgrow2 (fun x e => by have := HLPQ.out.2 x e; omega)).far hg19 (fun x e => by cases e; omega))
          have GR19 := Lib.hid (grown_rows (grown_rows GR17.out hgrow2 (fun x e => by have := (LQ.out x e).1; omega)) hg19 (fun x e => by cases e; omega))
          have hq2e : bs.map ptrV ++ [.pointer (some ⟨b, 0, none⟩)] = (bs ++ [b]).map ptrV := by rw [List.map_append]; rfl
          rw [hq2e] at hown2
          have OQ19 := Lib.hid (Own.kept hown2 hg19 (own_far hown2 (by omega)))
          have OP19 := Lib.hid (OwnI.far (OwnI.kept OP17.out hgrow2 AP17.out.keeps) hg19 (fun x e => by cases e; omega))
          have AP19 := Lib.hid (Apart.grow AP17.out OP17.out (g := V17.heap.size + 1) (by omega) hat2)
          clear HV19 BT18 BT17 BG17 BX17 GR17 OP17 OQ17 AP17 hown2 hgrow2 hat2 hg19 LQ hq2e
          have hwr : IntKind.i64.wrap ((kt : Int) + 1) = (kt : Int) + 1 := IntWalk.i64_in _ (by omega)
          refine wp_region_U (fun w' => w'.cell? ⟨V1.heap.size, 4, none⟩ = some (.int .i64 m) ∧ w'.cell? ⟨b, 4, none⟩ = some (.int .i64 kt)) [13] (by kernel_rfl) ?_
          refine nameU ?_
          intro C0 HC0
          have hgc : V19.grownBy C0 none := by rw [HC0.out]; exact grown_drew _
          have hvc := hgc.size
          have BTc := Lib.hid (BT19.out.still hgc)
          have BXc := Lib.hid (BX19.out.still hgc)
          clear HC0
          have hS : C0.cell? ⟨V1.heap.size, 4, none⟩ = some (.int .i64 m) ∧ C0.cell? ⟨b, 4, none⟩ = some (.int .i64 kt) := ⟨BTc.out.cell 4 (by simp), BXc.out.cell 4 (by simp)⟩
          refine anyU_take (i := 0) (v := .pointer (some ⟨V1.heap.size, 0, none⟩)) rfl (by kernel_rfl) (by kernel_rfl) (by kernel_rfl) (fun _ _ _ h => h) ⟨by rfl, fun w' hS' => (by obtain ⟨s1, s2⟩ := hS'; go_simp)⟩ hS ?_
          simp only [List.getElem_toArray, List.getElem_cons_zero, Act.put, List.setIfInBounds_toArray, List.set_cons_zero, List.set_cons_succ]
          refine anyU_take (i := 1) (v := .pointer (some ⟨V1.heap.size, 0, none⟩)) rfl (by kernel_rfl) (by kernel_rfl) (by kernel_rfl) (fun _ _ _ h => h) ⟨by rfl, fun w' hS' => (by obtain ⟨s1, s2⟩ := hS'; go_simp)⟩ hS ?_
          simp only [List.getElem_toArray, List.getElem_cons_succ, List.getElem_cons_zero, Act.put, List.setIfInBounds_toArray, List.set_cons_zero, List.set_cons_succ]
          refine anyU_take (i := 2) (v := .pointer (some ⟨V1.heap.size, 0, none⟩)) rfl (by kernel_rfl) (by kernel_rfl) (by kernel_rfl) (fun _ _ _ h => h) ⟨by rfl, fun w' hS' => (by obtain ⟨s1, s2⟩ := hS'; go_simp)⟩ hS ?_
          simp only [List.getElem_toArray, List.getElem_cons_succ, List.getElem_cons_zero, Act.put, List.setIfInBounds_toArray, List.set_cons_zero, List.set_cons_succ]
          refine anyU_take (i := 3) (v := .pointer (some ⟨V1.heap.size, 4, none⟩)) rfl (by kernel_rfl) (by kernel_rfl) (by kernel_rfl) (fun _ _ _ h => h) ⟨by rfl, fun w' hS' => (by obtain ⟨s1, s2⟩ := hS'; go_simp)⟩ hS ?_
          simp only [List.getElem_toArray, List.getElem_cons_succ, List.getElem_cons_zero, Act.put, List.setIfInBounds_toArray, List.set_cons_zero, List.set_cons_succ]
          refine anyU_take (i := 4) (v := .int .i64 m) rfl (by kernel_rfl) (by kernel_rfl) (by kernel_rfl) (fun _ _ _ h => h) ⟨by rfl, fun w' hS' => (by obtain ⟨s1, s2⟩ := hS'; go_simp)⟩ hS ?_
          simp only [List.getElem_toArray, List.getElem_cons_succ, List.getElem_cons_zero, Act.put, List.setIfInBounds_toArray, List.set_cons_zero, List.set_cons_succ]
          refine anyU_take (i := 5) (v := .pointer (some ⟨b, 0, none⟩)) rfl (by kernel_rfl) (by kernel_rfl) (by kernel_rfl) (fun _ _ _ h => h) ⟨by rfl, fun w' hS' => (by obtain ⟨s1, s2⟩ := hS'; go_simp)⟩ hS ?_
          simp only [List.getElem_toArray, List.getElem_cons_succ, List.getElem_cons_zero, Act.put, List.setIfInBounds_toArray, List.set_cons_zero, List.set_cons_succ]
          refine anyU_take (i := 6) (v := .pointer (some ⟨b, 0, none⟩)) rfl (by kernel_rfl) (by kernel_rfl) (by kernel_rfl) (fun _ _ _ h => h) ⟨by rfl, fun w' hS' => (by obtain ⟨s1, s2⟩ := hS'; go_simp)⟩ hS ?_
          simp only [List.getElem_toArray, List.getElem_cons_succ, List.getElem_cons_zero, Act.put, List.setIfInBounds_toArray, List.set_cons_zero, List.set_cons_succ]
          refine anyU_take (i := 7) (v := .pointer (some ⟨b, 4, none⟩)) rfl (by kernel_rfl) (by kernel_rfl) (by kernel_rfl) (fun _ _ _ h => h) ⟨by rfl, fun w' hS' => (by obtain ⟨s1, s2⟩ := hS'; go_simp)⟩ hS ?_
          simp only [List.getElem_toArray, List.getElem_cons_succ, List.getElem_cons_zero, Act.put, List.setIfInBounds_toArray, List.set_cons_zero, List.set_cons_succ]
          refine anyU_take (i := 8) (v := .int .i64 kt) rfl (by kernel_rfl) (by kernel_rfl) (by kernel_rfl) (fun _ _ _ h => h) ⟨by rfl, fun w' hS' => (by obtain ⟨s1, s2⟩ := hS'; go_simp)⟩ hS ?_
          simp only [List.getElem_toArray, List.getElem_cons_succ, List.getElem_cons_zero, Act.put, List.setIfInBounds_toArray, List.set_cons_zero, List.set_cons_succ]
          refine anyU_take (i := 9) (v := .int .i64 ((kt : Int) + 1)) rfl (by kernel_rfl) (by kernel_rfl) (by kernel_rfl) (fun _ _ _ h => h) ⟨by rfl, fun w' hS' => (by obtain ⟨s1, s2⟩ := hS'; simp [go_sem, hwr])⟩ hS ?_
          simp only [List.getElem_toArray, List.getElem_cons_succ, List.getElem_cons_zero, Act.put, List.setIfInBounds_toArray, List.set_cons_zero, List.set_cons_succ]
          refine anyU_ready (rs := [10]) (by kernel_rfl) (by simp) ?_
          refine ReadyU.cons (i := 10) rfl (fun K hK => ?_) ReadyU.nil
          simp only [List.getElem_toArray, List.getElem_cons_succ, List.getElem_cons_zero]
          refine ite_is (by rfl) ?_
          simp [go_sem]
          refine (l1MostV_any _ _ _).mono ?_
          rintro e w' ⟨rfl, rfl⟩
          refine hK.out _ _ ⟨fun _ => hS, ?_⟩
          clear hK K
          try simp only [List.getElem_toArray, List.getElem_cons_succ, List.getElem_cons_zero, Act.put, List.setIfInBounds_toArray, List.set_cons_zero, List.set_cons_succ]
          have z4 := hS.1
          have zf := BTc.out.frozen 4
          obtain ⟨m2, HM2⟩ : ∃ x : Nat, Hid (x = if kt + 1 < m then m else kt + 1) := ⟨_, Lib.hid rfl⟩
          have hm2 : (if (kt : Int) + 1 < (m : Int) then (m : Int) else (kt : Int) + 1) = (m2 : Int) := by rw [HM2.out]; by_cases h9 : kt + 1 < m <;> simp only [h9, if_true, if_false] <;> split <;> omega
          rw [hm2]
          refine anyU_ready (rs := [11]) (by kernel_rfl) (by simp) ?_
          refine ReadyU.cons (i := 11) rfl (fun K hK => ?_) ReadyU.nil
          simp only [List.getElem_toArray, List.getElem_cons_succ, List.getElem_cons_zero]
          refine ite_is (by rfl) ?_
          simp [go_sem]
          refine hK.out _ _ ⟨fun _ => hS, ?_⟩
          clear hK K
          try simp only [List.getElem_toArray, List.getElem_cons_succ, List.getElem_cons_zero, Act.put, List.setIfInBounds_toArray, List.set_cons_zero, List.set_cons_succ]
          refine anyU_ready (rs := [12]) (by kernel_rfl) (by simp) ?_
          refine ReadyU.cons (i := 12) rfl (fun K hK => ?_) ReadyU.nil
          simp only [List.getElem_toArray, List.getElem_cons_succ, List.getElem_cons_zero]
          refine ite_is (by rfl) ?_
          simp [go_sem]
          refine hK.out _ _ ⟨fun _ => hS, ?_⟩
          clear hK K
          try simp only [List.getElem_toArray, List.getElem_cons_succ, List.getElem_cons_zero, Act.put, List.setIfInBounds_toArray, List.set_cons_zero, List.set_cons_succ]
          refine anyU_ready (rs := [13]) (by kernel_rfl) (by simp) ?_
          refine ReadyU.cons (i := 13) rfl (fun K hK => ?_) ReadyU.nil
          simp only [List.getElem_toArray, List.getElem_cons_succ, List.getElem_cons_zero]
          refine ite_is (by rfl) ?_
          simp [go_sem, z4, zf]
          refine hK.out _ _ ⟨fun h => absurd h (by decide), ?_⟩
          clear hK K z4 zf hS hm2 hwr
          try simp only [List.getElem_toArray, List.getElem_cons_succ, List.getElem_cons_zero, Act.put, List.setIfInBounds_toArray, List.set_cons_zero, List.set_cons_succ]
          refine nameU ?_
          intro V20 HV20
          have hg20 : C0.grownBy V20 (some V1.heap.size) := by rw [HV20.out]; exact grown_set _ _ _
          have hv20 := hg20.size
          have BT20 := Lib.hid (show BoxN V20 V1.heap.size #[.int .i64 d, .int .i64 i, .slice A1 n1 z1, .slice A2 n2 z2, .int .i64 m2] 55 by rw [HV20.out]; exact BTc.out.set 4 _)
          clear HV20
          refine anyU_done (by kernel_rfl) ?_ _
          have BG20 := Lib.hid ((BG19.out.still hgc).far hg20 (fun x e => by cases e; omega))
          have GR20 := Lib.hid (grown_rows (grown_rows GR19.out hgc (fun x e => by cases e)) hg20 (fun x e => by cases e; omega))
          have OP20 := Lib.hid (OwnI.far (OwnI.still OP19.out hgc) hg20 (fun x e => by cases e; omega))
          have OQ20 := Lib.hid (Own.kept (Own.kept OQ19.out hgc (own_none _)) hg20 (own_far (Own.kept OQ19.out hgc (own_none _)) (by omega)))
          clear hgc hg20 BTc BXc BT19 BG19 BX19 GR19 OP19 OQ19
          have HSN := Lib.hid (show SLoop f s d p (0 + 1) q' m2 false (.slice A1 n1 z1) (.slice A2 n2 z2) V6.heap.size V20 from .inl ⟨rfl, by
            obtain ⟨dd, hy1, hy2⟩ : ∃ dd, d = dd + 1 ∧ d - (0 + 1) = dd := ⟨d - (0 + 1), by omega, rfl⟩
            rw [HPLa.out, hy1]
            refine sloop_off fun p1 j' t' q9 e1 e2 e3 e4 => ?_
            obtain ⟨a1, rfl⟩ := (sep_loop (s := s) (q := q) HLEN.out.2.1 (fun h => HK0a.out.symm ▸ H40.out) p1).1 e1
            rw [if_pos rfl] at a1
            obtain ⟨b1, b2, b3⟩ := stok_no HQ1.out HP1q.out HJ.out HQ2.out HP2q.out HQ3.out HP3q.out a1 e2 e3
            rw [← b3] at e4
            rcases HRES.out with ⟨_, c1⟩ | ⟨c0, _, t, c1, _, c2, _⟩
            · rw [c1 b1] at e4; cases e4
            · rw [c1] at e4
              injection e4 with e4
              injection e4 with e4 _
              subst e4
              cases c0⟩)
          clear HPLa OP20 OQ20 AP19 HRES HLEN
          go_wp2_with fail
          go_roundw
          case rel => exact ⟨0 + 1, q', m2, false, _, _, by omega, by go_num, by omega, by omega, BG20, BT20, GR20, by omega, by rw [HM2.out]; split <;> omega, HSN⟩
          case measure => simp [intOf]; omega
        | true =>
          by_cases hjd : j < dt
          case neg =>
            have hjd' : decide ((j : Int) < (dt : Int)) = false := decide_eq_false (by omega)
            have hjd2 : ¬ (j : Int) < (dt : Int) := by omega
            clear HTR14
            go_upto_region 16 with fail
            clear c2 kf x0
            refine nameC ?_
            intro V15 HV15
            have BG15 := Lib.hid (show BoxN V15 g #[.string s, .int .i64 q', .bool false] 75 by rw [HV15.out]; exact BG14.out.set 2 _)
            have hg : V14.grownBy V15 (some g) := by rw [HV15.out]; exact grown_set _ _ _
            have hv15 := hg.size
            have GR15 := Lib.hid (grownBy_trans GR14.out hg)
            have BT15 := Lib.hid (BT14.out.far hg (fun k e => by cases e; omega))
            have BX15 := Lib.hid (BX14.out.far hg (fun k e => by cases e; omega))
            have HOP15 := Lib.hid (OwnI.far HOP14.out hg (fun k e => by cases e; omega))
            have HOQ15 := Lib.hid (Own.kept HOQ14.out hg (own_far HOQ14.out (by omega)))
            clear HV15 hg BG14 GR14 BT14 BX14 HOP14 HOQ14
            have t2 : V15.cell? ⟨V1.heap.size, 2, none⟩ = some vp := BT15.out.cell 2 (by simp)
            have LP := Lib.hid HOP15.out.lt
            have LQ := Lib.hid HOQ15.out.lt
            go_upto_region 17 with (at_builtin; refine append_int (s := .tmp 100) Try.underlying52 Try.infoI (by decide) V15 rfl _ rfl HOP15.out (j : Int) _ rfl (by simp [Act.eval, go_sem]) (by have := HLEN.out.1; omega) (by omega) ?_; intro vp1 V16 hown hgrow hat; obtain ⟨A1, n1, z1, rfl⟩ := own_slice hown; have hv16 := hgrow.size; have BT16 := Lib.hid (BT15.out.far hgrow (fun x e => by have := (LP.out x e).1; omega)); have kf := BT16.out.frozen 2; have ky : V16.cell? ⟨V1.heap.size, 2, none⟩ = some vp := BT16.out.cell 2 (by simp))
            clear t2 kf ky
            refine nameC ?_
            intro V17 HV17
            have hg17 : V16.grownBy V17 (some V1.heap.size) := by rw [HV17.out]; exact grown_set _ _ _
            have hv17 := hg17.size
            have BT17 := Lib.hid (show BoxN V17 V1.heap.size #[.int .i64 d, .int .i64 i, .slice A1 n1 z1, vq, .int .i64 m] 55 by rw [HV17.out]; exact BT16.out.set 2 _)
            have BG17 := Lib.hid ((BG15.out.far hgrow (fun x e => by have := (LP.out x e).1; omega)).far hg17 (fun x e => by cases e; omega))
            have BX17 := Lib.hid ((BX15.out.far hgrow (fun x e => by have := HLPQ.out.1 x e; omega)).far hg17 (fun x e => by cases e; omega))
            have GR17 := Lib.hid (grown_rows (grown_rows GR15.out hgrow (fun x e => by have := (LP.out x e).1; omega)) hg17 (fun x e => by cases e; omega))
            have OP17 := Lib.hid (OwnI.far hown hg17 (fun x e => by cases e; omega))
            have OQ17 := Lib.hid (Own.kept (Own.kept HOQ15.out hgrow HAP.out.symm.keeps) hg17 (own_far (Own.kept HOQ15.out hgrow HAP.out.symm.keeps) (by omega)))
            have AP17 := Lib.hid (Apart.grow HAP.out.symm HOQ15.out (g := V15.heap.size + 1) (by omega) hat).symm
            clear HV17 BT16 BT15 BG15 BX15 GR15 HOP15 HOQ15 hown hgrow hat hg17 LP
            have t3 : V17.cell? ⟨V1.heap.size, 3, none⟩ = some vq := BT17.out.cell 3 (by simp)
            go_upto_region 18 with (at_builtin; refine append1 (s := .tmp 110) Try.underlying53 Try.infoS rfl (by decide) V17 rfl _ rfl OQ17.out (.pointer (some ⟨b, 0, none⟩)) _ rfl (by simp [Act.eval, go_sem]) rfl (by rw [List.length_map, HLEN.out.2.2]; omega) (by omega) ?_; intro vq1 V18 hown2 hgrow2 hat2; obtain ⟨A2, n2, z2, rfl⟩ := own_slice hown2; have hv18 := hgrow2.size; have BT18 := Lib.hid (BT17.out.far hgrow2 (fun x e => by have := (LQ.out x e).1; omega)); have kf := BT18.out.frozen 3; have ky : V18.cell? ⟨V1.heap.size, 3, none⟩ = some vq := BT18.out.cell 3 (by simp))
            clear t3 kf ky
            refine nameC ?_
            intro V19 HV19
            have hg19 : V18.grownBy V19 (some V1.heap.size) := by rw [HV19.out]; exact grown_set _ _ _
            have hv19 := hg19.size
            have BT19 := Lib.hid (show BoxN V19 V1.heap.size #[.int .i64 d, .int .i64 i, .slice A1 n1 z1, .slice A2 n2 z2, .int .i64 m] 55 by rw [HV19.out]; exact BT18.out.set 3 _)
            have BG19 := Lib.hid ((BG17.out.far hgrow2 (fun x e => by have := (LQ.out x e).1; omega)).far hg19 (fun x e => by cases e; omega))
            have BX19 := Lib.hid ((BX17.out.far hgrow2 (fun x e => by have := HLPQ.out.2 x e; omega)).far hg19 (fun x e => by cases e; omega))
            have GR19 := Lib.hid (grown_rows (grown_rows GR17.out hgrow2 (fun x e => by have := (LQ.out x e).1; omega)) hg19 (fun x e => by cases e; omega))
            have hq2e : bs.map ptrV ++ [.pointer (some ⟨b, 0, none⟩)] = (bs ++ [b]).map ptrV := by rw [List.map_append]; rfl
            rw [hq2e] at hown2
            have OQ19 := Lib.hid (Own.kept hown2 hg19 (own_far hown2 (by omega)))
            have OP19 := Lib.hid (OwnI.far (OwnI.kept OP17.out hgrow2 AP17.out.keeps) hg19 (fun x e => by cases e; omega))
            have AP19 := Lib.hid (Apart.grow AP17.out OP17.out (g := V17.heap.size + 1) (by omega) hat2)
            clear HV19 BT18 BT17 BG17 BX17 GR17 OP17 OQ17 AP17 hown2 hgrow2 hat2 hg19 LQ hq2e
            have hwr : IntKind.i64.wrap ((kt : Int) + 1) = (kt : Int) + 1 := IntWalk.i64_in _ (by omega)
            refine wp_region_U (fun w' => w'.cell? ⟨V1.heap.size, 4, none⟩ = some (.int .i64 m) ∧ w'.cell? ⟨b, 4, none⟩ = some (.int .i64 kt)) [13] (by kernel_rfl) ?_
            refine nameU ?_
            intro C0 HC0
            have hgc : V19.grownBy C0 none := by rw [HC0.out]; exact grown_drew _
            have hvc := hgc.size
            have BTc := Lib.hid (BT19.out.still hgc)
            have BXc := Lib.hid (BX19.out.still hgc)
            clear HC0
            have hS : C0.cell? ⟨V1.heap.size, 4, none⟩ = some (.int .i64 m) ∧ C0.cell? ⟨b, 4, none⟩ = some (.int .i64 kt) := ⟨BTc.out.cell 4 (by simp), BXc.out.cell 4 (by simp)⟩
            refine anyU_take (i := 0) (v := .pointer (some ⟨V1.heap.size, 0, none⟩)) rfl (by kernel_rfl) (by kernel_rfl) (by kernel_rfl) (fun _ _ _ h => h) ⟨by rfl, fun w' hS' => (by obtain ⟨s1, s2⟩ := hS'; go_simp)⟩ hS ?_
            simp only [List.getElem_toArray, List.getElem_cons_zero, Act.put, List.setIfInBounds_toArray, List.set_cons_zero, List.set_cons_succ]
            refine anyU_take (i := 1) (v := .pointer (some ⟨V1.heap.size, 0, none⟩)) rfl (by kernel_rfl) (by kernel_rfl) (by kernel_rfl) (fun _ _ _ h => h) ⟨by rfl, fun w' hS' => (by obtain ⟨s1, s2⟩ := hS'; go_simp)⟩ hS ?_
            simp only [List.getElem_toArray, List.getElem_cons_succ, List.getElem_cons_zero, Act.put, List.setIfInBounds_toArray, List.set_cons_zero, List.set_cons_succ]
            refine anyU_take (i := 2) (v := .pointer (some ⟨V1.heap.size, 0, none⟩)) rfl (by kernel_rfl) (by kernel_rfl) (by kernel_rfl) (fun _ _ _ h => h) ⟨by rfl, fun w' hS' => (by obtain ⟨s1, s2⟩ := hS'; go_simp)⟩ hS ?_
            simp only [List.getElem_toArray, List.getElem_cons_succ, List.getElem_cons_zero, Act.put, List.setIfInBounds_toArray, List.set_cons_zero, List.set_cons_succ]
            refine anyU_take (i := 3) (v := .pointer (some ⟨V1.heap.size, 4, none⟩)) rfl (by kernel_rfl) (by kernel_rfl) (by kernel_rfl) (fun _ _ _ h => h) ⟨by rfl, fun w' hS' => (by obtain ⟨s1, s2⟩ := hS'; go_simp)⟩ hS ?_
            simp only [List.getElem_toArray, List.getElem_cons_succ, List.getElem_cons_zero, Act.put, List.setIfInBounds_toArray, List.set_cons_zero, List.set_cons_succ]
            refine anyU_take (i := 4) (v := .int .i64 m) rfl (by kernel_rfl) (by kernel_rfl) (by kernel_rfl) (fun _ _ _ h => h) ⟨by rfl, fun w' hS' => (by obtain ⟨s1, s2⟩ := hS'; go_simp)⟩ hS ?_
            simp only [List.getElem_toArray, List.getElem_cons_succ, List.getElem_cons_zero, Act.put, List.setIfInBounds_toArray, List.set_cons_zero, List.set_cons_succ]
            refine anyU_take (i := 5) (v := .pointer (some ⟨b, 0, none⟩)) rfl (by kernel_rfl) (by kernel_rfl) (by kernel_rfl) (fun _ _ _ h => h) ⟨by rfl, fun w' hS' => (by obtain ⟨s1, s2⟩ := hS'; go_simp)⟩ hS ?_
            simp only [List.getElem_toArray, List.getElem_cons_succ, List.getElem_cons_zero, Act.put, List.setIfInBounds_toArray, List.set_cons_zero, List.set_cons_succ]
            refine anyU_take (i := 6) (v := .pointer (some ⟨b, 0, none⟩)) rfl (by kernel_rfl) (by kernel_rfl) (by kernel_rfl) (fun _ _ _ h => h) ⟨by rfl, fun w' hS' => (by obtain ⟨s1, s2⟩ := hS'; go_simp)⟩ hS ?_
            simp only [List.getElem_toArray, List.getElem_cons_succ, List.getElem_cons_zero, Act.put, List.setIfInBounds_toArray, List.set_cons_zero, List.set_cons_succ]
            refine anyU_take (i := 7) (v := .pointer (some ⟨b, 4, none⟩)) rfl (by kernel_rfl) (by kernel_rfl) (by kernel_rfl) (fun _ _ _ h => h) ⟨by rfl, fun w' hS' => (by obtain ⟨s1, s2⟩ := hS'; go_simp)⟩ hS ?_
            simp only [List.getElem_toArray, List.getElem_cons_succ, List.getElem_cons_zero, Act.put, List.setIfInBounds_toArray, List.set_cons_zero, List.set_cons_succ]
            refine anyU_take (i := 8) (v := .int .i64 kt) rfl (by kernel_rfl) (by kernel_rfl) (by kernel_rfl) (fun _ _ _ h => h) ⟨by rfl, fun w' hS' => (by obtain ⟨s1, s2⟩ := hS'; go_simp)⟩ hS ?_
            simp only [List.getElem_toArray, List.getElem_cons_succ, List.getElem_cons_zero, Act.put, List.setIfInBounds_toArray, List.set_cons_zero, List.set_cons_succ]
            refine anyU_take (i := 9) (v := .int .i64 ((kt : Int) + 1)) rfl (by kernel_rfl) (by kernel_rfl) (by kernel_rfl) (fun _ _ _ h => h) ⟨by rfl, fun w' hS' => (by obtain ⟨s1, s2⟩ := hS'; simp [go_sem, hwr])⟩ hS ?_
            simp only [List.getElem_toArray, List.getElem_cons_succ, List.getElem_cons_zero, Act.put, List.setIfInBounds_toArray, List.set_cons_zero, List.set_cons_succ]
            refine anyU_ready (rs := [10]) (by kernel_rfl) (by simp) ?_
            refine ReadyU.cons (i := 10) rfl (fun K hK => ?_) ReadyU.nil
            simp only [List.getElem_toArray, List.getElem_cons_succ, List.getElem_cons_zero]
            refine ite_is (by rfl) ?_
            simp [go_sem]
            refine (l1MostV_any _ _ _).mono ?_
            rintro e w' ⟨rfl, rfl⟩
            refine hK.out _ _ ⟨fun _ => hS, ?_⟩
            clear hK K
            try simp only [List.getElem_toArray, List.getElem_cons_succ, List.getElem_cons_zero, Act.put, List.setIfInBounds_toArray, List.set_cons_zero, List.set_cons_succ]
            have z4 := hS.1
            have zf := BTc.out.frozen 4
            obtain ⟨m2, HM2⟩ : ∃ x : Nat, Hid (x = if kt + 1 < m then m else kt + 1) := ⟨_, Lib.hid rfl⟩
            have hm2 : (if (kt : Int) + 1 < (m : Int) then (m : Int) else (kt : Int) + 1) = (m2 : Int) := by rw [HM2.out]; by_cases h9 : kt + 1 < m <;> simp only [h9, if_true, if_false] <;> split <;> omega
            rw [hm2]
            refine anyU_ready (rs := [11]) (by kernel_rfl) (by simp) ?_
            refine ReadyU.cons (i := 11) rfl (fun K hK => ?_) ReadyU.nil
            simp only [List.getElem_toArray, List.getElem_cons_succ, List.getElem_cons_zero]
            refine ite_is (by rfl) ?_
            simp [go_sem]
            refine hK.out _ _ ⟨fun _ => hS, ?_⟩
            clear hK K
            try simp only [List.getElem_toArray, List.getElem_cons_succ, List.getElem_cons_zero, Act.put, List.setIfInBounds_toArray, List.set_cons_zero, List.set_cons_succ]
            refine anyU_ready (rs := [12]) (by kernel_rfl) (by simp) ?_
            refine ReadyU.cons (i := 12) rfl (fun K hK => ?_) ReadyU.nil
            simp only [List.getElem_toArray, List.getElem_cons_succ, List.getElem_cons_zero]
            refine ite_is (by rfl) ?_
            simp [go_sem]
            refine hK.out _ _ ⟨fun _ => hS, ?_⟩
            clear hK K
            try simp only [List.getElem_toArray, List.getElem_cons_succ, List.getElem_cons_zero, Act.put, List.setIfInBounds_toArray, List.set_cons_zero, List.set_cons_succ]
            refine anyU_ready (rs := [13]) (by kernel_rfl) (by simp) ?_
            refine ReadyU.cons (i := 13) rfl (fun K hK => ?_) ReadyU.nil
            simp only [List.getElem_toArray, List.getElem_cons_succ, List.getElem_cons_zero]
            refine ite_is (by rfl) ?_
            simp [go_sem, z4, zf]
            refine hK.out _ _ ⟨fun h => absurd h (by decide), ?_⟩
            clear hK K z4 zf hS hm2 hwr
            try simp only [List.getElem_toArray, List.getElem_cons_succ, List.getElem_cons_zero, Act.put, List.setIfInBounds_toArray, List.set_cons_zero, List.set_cons_succ]
            refine nameU ?_
            intro V20 HV20
            have hg20 : C0.grownBy V20 (some V1.heap.size) := by rw [HV20.out]; exact grown_set _ _ _
            have hv20 := hg20.size
            have BT20 := Lib.hid (show BoxN V20 V1.heap.size #[.int .i64 d, .int .i64 i, .slice A1 n1 z1, .slice A2 n2 z2, .int .i64 m2] 55 by rw [HV20.out]; exact BTc.out.set 4 _)
            clear HV20
            refine anyU_done (by kernel_rfl) ?_ _
            have BG20 := Lib.hid ((BG19.out.still hgc).far hg20 (fun x e => by cases e; omega))
            have GR20 := Lib.hid (grown_rows (grown_rows GR19.out hgc (fun x e => by cases e)) hg20 (fun x e => by cases e; omega))
            have OP20 := Lib.hid (OwnI.far (OwnI.still OP19.out hgc) hg20 (fun x e => by cases e; omega))
            have OQ20 := Lib.hid (Own.kept (Own.kept OQ19.out hgc (own_none _)) hg20 (own_far (Own.kept OQ19.out hgc (own_none _)) (by omega)))
            clear hgc hg20 BTc BXc BT19 BG19 BX19 GR19 OP19 OQ19
            have HSN := Lib.hid (show SLoop f s d p (0 + 1) q' m2 false (.slice A1 n1 z1) (.slice A2 n2 z2) V6.heap.size V20 from .inl ⟨rfl, by
              obtain ⟨dd, hy1, hy2⟩ : ∃ dd, d = dd + 1 ∧ d - (0 + 1) = dd := ⟨d - (0 + 1), by omega, rfl⟩
              rw [HPLa.out, hy1]
              refine sloop_off fun p1 j' t' q9 e1 e2 e3 e4 => ?_
              obtain ⟨a1, rfl⟩ := (sep_loop (s := s) (q := q) HLEN.out.2.1 (fun h => HK0a.out.symm ▸ H40.out) p1).1 e1
              rw [if_pos rfl] at a1
              obtain ⟨b1, b2, b3⟩ := stok_no HQ1.out HP1q.out HJ.out HQ2.out HP2q.out HQ3.out HP3q.out a1 e2 e3
              rw [← b3] at e4
              rcases HRES.out with ⟨_, c1⟩ | ⟨c0, _, t, c1, _, c2, _⟩
              · rw [c1 b1] at e4; cases e4
              · rw [c1] at e4
                injection e4 with e4
                injection e4 with e4 _
                subst e4
                omega⟩)
            clear HPLa OP20 OQ20 AP19 HRES HLEN
            go_wp2_with fail
            go_roundw
            case rel => exact ⟨0 + 1, q', m2, false, _, _, by omega, by go_num, by omega, by omega, BG20, BT20, GR20, by omega, by rw [HM2.out]; split <;> omega, HSN⟩
            case measure => simp [intOf]; omega
          have hjd' : decide ((j : Int) < (dt : Int)) = true := decide_eq_true (by omega)
          have hjd2 : (j : Int) < (dt : Int) := by omega
          obtain ⟨t, hvt, hta, htd, htk⟩ : ∃ t, sv f s q3 = some (t, q') ∧ TreeAt V14 55 V13.heap.size V14.heap.size t b ∧ t.degree = dt ∧ t.depth = kt := by
            rcases HRES.out with ⟨a, _⟩ | ⟨_, _, t, a, c, e1, e2⟩
            · cases a
            · exact ⟨t, a, c, e1, e2⟩
          have HVT := Lib.hid hvt; have HTD := Lib.hid htd; have HTK := Lib.hid htk
          have ho3 : o3 = true := by
            rcases HRES.out with ⟨a, _⟩ | ⟨_, a, _⟩
            · cases a
            · exact a
          have HO3' := Lib.hid ho3
          have HTR14b := Lib.hid (TrsS.snoc HTR14.out (by rw [HLEN.out.2.1, HLEN.out.2.2]) hta (by omega) (Nat.le_refl _) HLPQ.out.1 HLPQ.out.2)
          clear hvt hta htd htk ho3 HTR14
          go_upto_region 16 with fail
          clear c2 kf x0
          refine nameC ?_
          intro V15 HV15
          have BG15 := Lib.hid (show BoxN V15 g #[.string s, .int .i64 q', .bool true] 75 by rw [HV15.out]; exact BG14.out.set 2 _)
          have hg : V14.grownBy V15 (some g) := by rw [HV15.out]; exact grown_set _ _ _
          have hv15 := hg.size
          have GR15 := Lib.hid (grownBy_trans GR14.out hg)
          have BT15 := Lib.hid (BT14.out.far hg (fun k e => by cases e; omega))
          have BX15 := Lib.hid (BX14.out.far hg (fun k e => by cases e; omega))
          have HOP15 := Lib.hid (OwnI.far HOP14.out hg (fun k e => by cases e; omega))
          have HOQ15 := Lib.hid (Own.kept HOQ14.out hg (own_far HOQ14.out (by omega)))
          have HTR15 := Lib.hid (HTR14b.out.far hg (by omega))
          clear HV15 hg BG14 GR14 BT14 BX14 HOP14 HOQ14 HTR14b
          have t2 : V15.cell? ⟨V1.heap.size, 2, none⟩ = some vp := BT15.out.cell 2 (by simp)
          have LP := Lib.hid HOP15.out.lt
          have LQ := Lib.hid HOQ15.out.lt
          go_upto_region 17 with (at_builtin; refine append_int (s := .tmp 100) Try.underlying52 Try.infoI (by decide) V15 rfl _ rfl HOP15.out (j : Int) _ rfl (by simp [Act.eval, go_sem]) (by have := HLEN.out.1; omega) (by omega) ?_; intro vp1 V16 hown hgrow hat; obtain ⟨A1, n1, z1, rfl⟩ := own_slice hown; have hv16 := hgrow.size; have BT16 := Lib.hid (BT15.out.far hgrow (fun x e => by have := (LP.out x e).1; omega)); have kf := BT16.out.frozen 2; have ky : V16.cell? ⟨V1.heap.size, 2, none⟩ = some vp := BT16.out.cell 2 (by simp))
          clear t2 kf ky
          refine nameC ?_
          intro V17 HV17
          have hg17 : V16.grownBy V17 (some V1.heap.size) := by rw [HV17.out]; exact grown_set _ _ _
          have hv17 := hg17.size
          have BT17 := Lib.hid (show BoxN V17 V1.heap.size #[.int .i64 d, .int .i64 i, .slice A1 n1 z1, vq, .int .i64 m] 55 by rw [HV17.out]; exact BT16.out.set 2 _)
          have BG17 := Lib.hid ((BG15.out.far hgrow (fun x e => by have := (LP.out x e).1; omega)).far hg17 (fun x e => by cases e; omega))
          have BX17 := Lib.hid ((BX15.out.far hgrow (fun x e => by have := HLPQ.out.1 x e; omega)).far hg17 (fun x e => by cases e; omega))
          have GR17 := Lib.hid (grown_rows (grown_rows GR15.out hgrow (fun x e => by have := (LP.out x e).1; omega)) hg17 (fun x e => by cases e; omega))
          have OP17 := Lib.hid (OwnI.far hown hg17 (fun x e => by cases e; omega))
          have OQ17 := Lib.hid (Own.kept (Own.kept HOQ15.out hgrow HAP.out.symm.keeps) hg17 (own_far (Own.kept HOQ15.out hgrow HAP.out.symm.keeps) (by omega)))
          have AP17 := Lib.hid (Apart.grow HAP.out.symm HOQ15.out (g := V15.heap.size + 1) (by omega) hat).symm
          have HTR17 := Lib.hid ((HTR15.out.fst hgrow hat).far hg17 (by omega))
          clear HV17 BT16 BT15 BG15 BX15 GR15 HOP15 HOQ15 hown hgrow hat hg17 LP HTR15
          have t3 : V17.cell? ⟨V1.heap.size, 3, none⟩ = some vq := BT17.out.cell 3 (by simp)
          go_upto_region 18 with (at_builtin; refine append1 (s := .tmp 110) Try.underlying53 Try.infoS rfl (by decide) V17 rfl _ rfl OQ17.out (.pointer (some ⟨b, 0, none⟩)) _ rfl (by simp [Act.eval, go_sem]) rfl (by rw [List.length_map, HLEN.out.2.2]; omega) (by omega) ?_; intro vq1 V18 hown2 hgrow2 hat2; obtain ⟨A2, n2, z2, rfl⟩ := own_slice hown2; have hv18 := hgrow2.size; have BT18 := Lib.hid (BT17.out.far hgrow2 (fun x e => by have := (LQ.out x e).1; omega)); have kf := BT18.out.frozen 3; have ky : V18.cell? ⟨V1.heap.size, 3, none⟩ = some vq := BT18.out.cell 3 (by simp))
          clear t3 kf ky
          refine nameC ?_
          intro V19 HV19
          have hg19 : V18.grownBy V19 (some V1.heap.size) := by rw [HV19.out]; exact grown_set _ _ _
          have hv19 := hg19.size
          have BT19 := Lib.hid (show BoxN V19 V1.heap.size #[.int .i64 d, .int .i64 i, .slice A1 n1 z1, .slice A2 n2 z2, .int .i64 m] 55 by rw [HV19.out]; exact BT18.out.set 3 _)
          have BG19 := Lib.hid ((BG17.out.far hgrow2 (fun x e => by have := (LQ.out x e).1; omega)).far hg19 (fun x e => by cases e; omega))
          have BX19 := Lib.hid ((BX17.out.far hgrow2 (fun x e => by have := HLPQ.out.2 x e; omega)).far hg19 (fun x e => by cases e; omega))
          have GR19 := Lib.hid (grown_rows (grown_rows GR17.out hgrow2 (fun x e => by have := (LQ.out x e).1; omega)) hg19 (fun x e => by cases e; omega))
          have hq2e : bs.map ptrV ++ [.pointer (some ⟨b, 0, none⟩)] = (bs ++ [b]).map ptrV := by rw [List.map_append]; rfl
          rw [hq2e] at hown2
          have OQ19 := Lib.hid (Own.kept hown2 hg19 (own_far hown2 (by omega)))
          have OP19 := Lib.hid (OwnI.far (OwnI.kept OP17.out hgrow2 AP17.out.keeps) hg19 (fun x e => by cases e; omega))
          have AP19 := Lib.hid (Apart.grow AP17.out OP17.out (g := V17.heap.size + 1) (by omega) hat2)
          have HTR19 := Lib.hid ((HTR17.out.snd hgrow2 hat2).far hg19 (by omega))
          clear HV19 BT18 BT17 BG17 BX17 GR17 OP17 OQ17 AP17 hown2 hgrow2 hat2 hg19 LQ hq2e HTR17
          have hwr : IntKind.i64.wrap ((kt : Int) + 1) = (kt : Int) + 1 := IntWalk.i64_in _ (by omega)
          refine wp_region_U (fun w' => w'.cell? ⟨V1.heap.size, 4, none⟩ = some (.int .i64 m) ∧ w'.cell? ⟨b, 4, none⟩ = some (.int .i64 kt)) [13] (by kernel_rfl) ?_
          refine nameU ?_
          intro C0 HC0
          have hgc : V19.grownBy C0 none := by rw [HC0.out]; exact grown_drew _
          have hvc := hgc.size
          have BTc := Lib.hid (BT19.out.still hgc)
          have BXc := Lib.hid (BX19.out.still hgc)
          clear HC0
          have hS : C0.cell? ⟨V1.heap.size, 4, none⟩ = some (.int .i64 m) ∧ C0.cell? ⟨b, 4, none⟩ = some (.int .i64 kt) := ⟨BTc.out.cell 4 (by simp), BXc.out.cell 4 (by simp)⟩
          refine anyU_take (i := 0) (v := .pointer (some ⟨V1.heap.size, 0, none⟩)) rfl (by kernel_rfl) (by kernel_rfl) (by kernel_rfl) (fun _ _ _ h => h) ⟨by rfl, fun w' hS' => (by obtain ⟨s1, s2⟩ := hS'; go_simp)⟩ hS ?_
          simp only [List.getElem_toArray, List.getElem_cons_zero, Act.put, List.setIfInBounds_toArray, List.set_cons_zero, List.set_cons_succ]
          refine anyU_take (i := 1) (v := .pointer (some ⟨V1.heap.size, 0, none⟩)) rfl (by kernel_rfl) (by kernel_rfl) (by kernel_rfl) (fun _ _ _ h => h) ⟨by rfl, fun w' hS' => (by obtain ⟨s1, s2⟩ := hS'; go_simp)⟩ hS ?_
          simp only [List.getElem_toArray, List.getElem_cons_succ, List.getElem_cons_zero, Act.put, List.setIfInBounds_toArray, List.set_cons_zero, List.set_cons_succ]
          refine anyU_take (i := 2) (v := .pointer (some ⟨V1.heap.size, 0, none⟩)) rfl (by kernel_rfl) (by kernel_rfl) (by kernel_rfl) (fun _ _ _ h => h) ⟨by rfl, fun w' hS' => (by obtain ⟨s1, s2⟩ := hS'; go_simp)⟩ hS ?_
          simp only [List.getElem_toArray, List.getElem_cons_succ, List.getElem_cons_zero, Act.put, List.setIfInBounds_toArray, List.set_cons_zero, List.set_cons_succ]
          refine anyU_take (i := 3) (v := .pointer (some ⟨V1.heap.size, 4, none⟩)) rfl (by kernel_rfl) (by kernel_rfl) (by kernel_rfl) (fun _ _ _ h => h) ⟨by rfl, fun w' hS' => (by obtain ⟨s1, s2⟩ := hS'; go_simp)⟩ hS ?_
          simp only [List.getElem_toArray, List.getElem_cons_succ, List.getElem_cons_zero, Act.put, List.setIfInBounds_toArray, List.set_cons_zero, List.set_cons_succ]
          refine anyU_take (i := 4) (v := .int .i64 m) rfl (by kernel_rfl) (by kernel_rfl) (by kernel_rfl) (fun _ _ _ h => h) ⟨by rfl, fun w' hS' => (by obtain ⟨s1, s2⟩ := hS'; go_simp)⟩ hS ?_
          simp only [List.getElem_toArray, List.getElem_cons_succ, List.getElem_cons_zero, Act.put, List.setIfInBounds_toArray, List.set_cons_zero, List.set_cons_succ]
          refine anyU_take (i := 5) (v := .pointer (some ⟨b, 0, none⟩)) rfl (by kernel_rfl) (by kernel_rfl) (by kernel_rfl) (fun _ _ _ h => h) ⟨by rfl, fun w' hS' => (by obtain ⟨s1, s2⟩ := hS'; go_simp)⟩ hS ?_
          simp only [List.getElem_toArray, List.getElem_cons_succ, List.getElem_cons_zero, Act.put, List.setIfInBounds_toArray, List.set_cons_zero, List.set_cons_succ]
          refine anyU_take (i := 6) (v := .pointer (some ⟨b, 0, none⟩)) rfl (by kernel_rfl) (by kernel_rfl) (by kernel_rfl) (fun _ _ _ h => h) ⟨by rfl, fun w' hS' => (by obtain ⟨s1, s2⟩ := hS'; go_simp)⟩ hS ?_
          simp only [List.getElem_toArray, List.getElem_cons_succ, List.getElem_cons_zero, Act.put, List.setIfInBounds_toArray, List.set_cons_zero, List.set_cons_succ]
          refine anyU_take (i := 7) (v := .pointer (some ⟨b, 4, none⟩)) rfl (by kernel_rfl) (by kernel_rfl) (by kernel_rfl) (fun _ _ _ h => h) ⟨by rfl, fun w' hS' => (by obtain ⟨s1, s2⟩ := hS'; go_simp)⟩ hS ?_
          simp only [List.getElem_toArray, List.getElem_cons_succ, List.getElem_cons_zero, Act.put, List.setIfInBounds_toArray, List.set_cons_zero, List.set_cons_succ]
          refine anyU_take (i := 8) (v := .int .i64 kt) rfl (by kernel_rfl) (by kernel_rfl) (by kernel_rfl) (fun _ _ _ h => h) ⟨by rfl, fun w' hS' => (by obtain ⟨s1, s2⟩ := hS'; go_simp)⟩ hS ?_
          simp only [List.getElem_toArray, List.getElem_cons_succ, List.getElem_cons_zero, Act.put, List.setIfInBounds_toArray, List.set_cons_zero, List.set_cons_succ]
          refine anyU_take (i := 9) (v := .int .i64 ((kt : Int) + 1)) rfl (by kernel_rfl) (by kernel_rfl) (by kernel_rfl) (fun _ _ _ h => h) ⟨by rfl, fun w' hS' => (by obtain ⟨s1, s2⟩ := hS'; simp [go_sem, hwr])⟩ hS ?_
          simp only [List.getElem_toArray, List.getElem_cons_succ, List.getElem_cons_zero, Act.put, List.setIfInBounds_toArray, List.set_cons_zero, List.set_cons_succ]
          refine anyU_ready (rs := [10]) (by kernel_rfl) (by simp) ?_
          refine ReadyU.cons (i := 10) rfl (fun K hK => ?_) ReadyU.nil
          simp only [List.getElem_toArray, List.getElem_cons_succ, List.getElem_cons_zero]
          refine ite_is (by rfl) ?_
          simp [go_sem]
          refine (l1MostV_any _ _ _).mono ?_
          rintro e w' ⟨rfl, rfl⟩
          refine hK.out _ _ ⟨fun _ => hS, ?_⟩
          clear hK K
          try simp only [List.getElem_toArray, List.getElem_cons_succ, List.getElem_cons_zero, Act.put, List.setIfInBounds_toArray, List.set_cons_zero, List.set_cons_succ]
          have z4 := hS.1
          have zf := BTc.out.frozen 4
          obtain ⟨m2, HM2⟩ : ∃ x : Nat, Hid (x = if kt + 1 < m then m else kt + 1) := ⟨_, Lib.hid rfl⟩
          have hm2 : (if (kt : Int) + 1 < (m : Int) then (m : Int) else (kt : Int) + 1) = (m2 : Int) := by rw [HM2.out]; by_cases h9 : kt + 1 < m <;> simp only [h9, if_true, if_false] <;> split <;> omega
          rw [hm2]
          refine anyU_ready (rs := [11]) (by kernel_rfl) (by simp) ?_
          refine ReadyU.cons (i := 11) rfl (fun K hK => ?_) ReadyU.nil
          simp only [List.getElem_toArray, List.getElem_cons_succ, List.getElem_cons_zero]
          refine ite_is (by rfl) ?_
          simp [go_sem]
          refine hK.out _ _ ⟨fun _ => hS, ?_⟩
          clear hK K
          try simp only [List.getElem_toArray, List.getElem_cons_succ, List.getElem_cons_zero, Act.put, List.setIfInBounds_toArray, List.set_cons_zero, List.set_cons_succ]
          refine anyU_ready (rs := [12]) (by kernel_rfl) (by simp) ?_
          refine ReadyU.cons (i := 12) rfl (fun K hK => ?_) ReadyU.nil
          simp only [List.getElem_toArray, List.getElem_cons_succ, List.getElem_cons_zero]
          refine ite_is (by rfl) ?_
          simp [go_sem]
          refine hK.out _ _ ⟨fun _ => hS, ?_⟩
          clear hK K
          try simp only [List.getElem_toArray, List.getElem_cons_succ, List.getElem_cons_zero, Act.put, List.setIfInBounds_toArray, List.set_cons_zero, List.set_cons_succ]
          refine anyU_ready (rs := [13]) (by kernel_rfl) (by simp) ?_
          refine ReadyU.cons (i := 13) rfl (fun K hK => ?_) ReadyU.nil
          simp only [List.getElem_toArray, List.getElem_cons_succ, List.getElem_cons_zero]
          refine ite_is (by rfl) ?_
          simp [go_sem, z4, zf]
          refine hK.out _ _ ⟨fun h => absurd h (by decide), ?_⟩
          clear hK K z4 zf hS hm2 hwr
          try simp only [List.getElem_toArray, List.getElem_cons_succ, List.getElem_cons_zero, Act.put, List.setIfInBounds_toArray, List.set_cons_zero, List.set_cons_succ]
          refine nameU ?_
          intro V20 HV20
          have hg20 : C0.grownBy V20 (some V1.heap.size) := by rw [HV20.out]; exact grown_set _ _ _
          have hv20 := hg20.size
          have BT20 := Lib.hid (show BoxN V20 V1.heap.size #[.int .i64 d, .int .i64 i, .slice A1 n1 z1, .slice A2 n2 z2, .int .i64 m2] 55 by rw [HV20.out]; exact BTc.out.set 4 _)
          clear HV20
          refine anyU_done (by kernel_rfl) ?_ _
          have BG20 := Lib.hid ((BG19.out.still hgc).far hg20 (fun x e => by cases e; omega))
          have GR20 := Lib.hid (grown_rows (grown_rows GR19.out hgc (fun x e => by cases e)) hg20 (fun x e => by cases e; omega))
          have OP20 := Lib.hid (OwnI.far (OwnI.still OP19.out hgc) hg20 (fun x e => by cases e; omega))
          have OQ20 := Lib.hid (Own.kept (Own.kept OQ19.out hgc (own_none _)) hg20 (own_far (Own.kept OQ19.out hgc (own_none _)) (by omega)))
          have HTR20 := Lib.hid ((HTR19.out.far (hg := grown_any (row := some g) hgc) (by omega)).far hg20 (by omega))
          clear hgc hg20 BTc BXc BT19 BG19 BX19 GR19 OP19 OQ19
          have HSN := Lib.hid (show SLoop f s d p (0 + 1) q' m2 true (.slice A1 n1 z1) (.slice A2 n2 z2) V6.heap.size V20 from .inr ⟨rfl, ps ++ [(j : Int)], ts ++ [t], bs ++ [b], by simp only [List.length_append, List.length_cons, List.length_nil]; have := HLEN.out; omega, fun h => absurd h (by omega), by
            have HP3 := HP3q.out
            rw [HO3'.out] at HP3
            obtain ⟨a1, a2, a3, a4, a5⟩ := stok_yes HQ1.out HP1q.out HJ.out HQ2.out HP2q.out HQ3.out HP3
            obtain ⟨dd, hy1, hy2⟩ : ∃ dd, d = dd + 1 ∧ d - (0 + 1) = dd := ⟨d - (0 + 1), by omega, rfl⟩
            rw [hy2, HPLa.out, hy1, sloop_on (show sepAt s ts.isEmpty (q + 1) = some q1 from (sep_loop (s := s) (q := q) HLEN.out.2.1 (fun h => HK0a.out.symm ▸ H40.out) q1).2 ⟨by rw [if_pos rfl]; exact a1, a2⟩) a3 a4 (by rw [← a5]; exact HVT.out) (by rw [HTD.out]; omega), if_neg (by omega)], OP20.out, OQ20.out, AP19.out, HTR20.out, by rw [mxD_snoc, HTK.out, ← HM.out, HM2.out]⟩)
          clear HPLa OP20 OQ20 AP19 HRES HLEN HTR20
          go_wp2_with fail
          go_roundw
          case rel => exact ⟨0 + 1, q', m2, true, _, _, by omega, by go_num, by omega, by omega, BG20, BT20, GR20, by omega, by rw [HM2.out]; split <;> omega, HSN⟩
          case measure => simp [intOf]; omega

end Go.Proofs.Ytlfdhhmccjkogaa
