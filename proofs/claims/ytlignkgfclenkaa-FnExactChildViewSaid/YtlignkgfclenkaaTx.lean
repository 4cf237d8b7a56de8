/-
  Contracts of the strings.Builder's copyCheck, Write and WriteByte at a builder of the call's own. No condition on any program.
-/
import Derived.Test.YtlignkgfclenkaaTxQ
import Derived.Test.YtlignkgfclenkaaVr
import Derived.Lib.Builder
import Derived.Lib.UnsafeStr
import Derived.Laws.Externs
import Derived.Carry
namespace Go.Proofs.Ytlignkgfclenkaa
open Go.ChangeShapes Go.WideShapes Go.ChangeAt Go.RowKit
set_option linter.unusedVariables false

theorem Try.sizeB : (Try.prog.info? 117).map (·.size) = some 2 := by kernel_rfl
theorem Try.liesB : liesAt Try.prog Try.prog.depth 117 (2 / Try.prog.cellsOf 117) 0 117 1 = true := by kernel_rfl
theorem Try.infoB : (Try.prog.info? 5).map (fun i => (i.zero, i.size, i.bytes)) = some (some (.int .u8 0), 1, 1) := by kernel_rfl
set_option maxHeartbeats 1000000 in
set_option maxRecDepth 100000 in
theorem cc_used (b : Nat) (w : World) (h0 : w.cell? ⟨b, 0, none⟩ = some (.pointer (some ⟨b, 0, none⟩))) :
    Calls Try.prog 114 #[.pointer (some ⟨b, 0, none⟩)] w fun e w' => e = .returned (.tuple #[]) ∧ w' = w := by
  obtain ⟨j, hj, _⟩ := Option.map_eq_some_iff.1 Try.sizeB
  go_enter Try.func114, Try.ntmps114
  go_wp2
  rw [Lib.run_neq_ptr_same w _ Try.underlying115 hj]
  go_wp2
  go_end0
  exact ⟨rfl, rfl⟩
set_option maxHeartbeats 1000000 in
set_option maxRecDepth 100000 in
theorem cc_fresh (b : Nat) (w : World) (h0 : w.cell? ⟨b, 0, none⟩ = some (.pointer none)) (hsh : w.shape? b = some (117, 2)) (hfz : w.frozen? ⟨b, 0, none⟩ = false) :
    Calls Try.prog 114 #[.pointer (some ⟨b, 0, none⟩)] w fun e w' => e = .returned (.tuple #[]) ∧ w' = w.setCell ⟨b, 0, none⟩ (.pointer (some ⟨b, 0, none⟩)) := by
  obtain ⟨j, hj, hjs⟩ := Option.map_eq_some_iff.1 Try.sizeB
  go_enter Try.func114, Try.ntmps114
  go_wp2
  rw [Lib.run_to_unsafe w ⟨b, 0, none⟩ Try.underlying115 Try.underlying154 hj (by rw [hjs]; decide) hsh (Nat.zero_lt_succ 1)]
  simp only [Result.andThen]
  rw [Oper.upon_value]
  go_wp2
  rw [run_callFunc_extern Try.func126 (by kernel_rfl) (by kernel_rfl) (by kernel_rfl) (e := Extern.AbiNoEscape.same) (by kernel_rfl)]
  rw [Lib.run_noEscape]
  simp only [Result.andThen]
  rw [Oper.upon_value]
  go_wp2
  rw [Lib.run_from_unsafe w ⟨b, 0, none⟩ Try.underlying154 Try.underlying115 hj hsh Try.liesB]
  simp only [Result.andThen]
  rw [Oper.upon_value]
  go_wp2
  go_end0
  exact ⟨rfl, rfl⟩
/-- a builder of the call's own that holds these bytes -/
def Bld (w : World) (B b : Nat) (bs : List Value) : Prop := Lib.IsBuilder 117 5 B b bs w
def Bld1 (w : World) (B b : Nat) (bs : List Value) : Prop := Lib.BuilderAt 117 5 B b (.pointer (some ⟨b, 0, none⟩)) bs w
theorem copyCheck_any (B b : Nat) (bs : List Value) (w : World) (h : Bld w B b bs) :
    Calls Try.prog 114 #[.pointer (some ⟨b, 0, none⟩)] w fun e w' => e = .returned (.tuple #[]) ∧ Bld1 w' B b bs ∧ Below B w w' := by
  rcases h with h | h
  · refine (cc_fresh b w h.cell0 h.shape h.frozen0).mono ?_
    rintro e w' ⟨rfl, rfl⟩
    exact ⟨rfl, h.used _, (Below.refl B w).setCell (p := ⟨b, 0, none⟩) h.1 _⟩
  · refine (cc_used b w h.cell0).mono ?_
    rintro e w' ⟨rfl, rfl⟩
    exact ⟨rfl, h, Below.refl B _⟩
set_option maxHeartbeats 2000000 in
set_option maxRecDepth 100000 in
theorem WriteByte_any (B b : Nat) (bs : List Value) (c : Int) (w : World) (h : Bld w B b bs) (hlen : bs.length + 1 ≤ 1048576) (hBw : B ≤ w.heap.size) :
    Calls Try.prog 109 #[.pointer (some ⟨b, 0, none⟩), .int .u8 c] w fun e w' => e = .returned .nilIface ∧ Bld1 w' B b (bs ++ [.int .u8 c]) ∧ Below B w w' := by
  obtain ⟨i0, hi, hz0⟩ := Option.map_eq_some_iff.1 Try.infoB
  simp only [Prod.mk.injEq] at hz0
  obtain ⟨hz0, hz1, hz2⟩ := hz0
  go_enter Try.func109, Try.ntmps109
  go_wp2_with (go_at_call 114; refine (copyCheck_any B b bs _ h).mono ?_)
  rintro e w1 ⟨rfl, h1, hb1⟩
  obtain ⟨hB, v, hbk, hown, hne⟩ := h1
  have c0 : w1.cell? ⟨b, 0, none⟩ = some (.pointer (some ⟨b, 0, none⟩)) := by rw [Lib.cell_of_heap hbk]; rfl
  have c1 : w1.cell? ⟨b, 1, none⟩ = some v := by rw [Lib.cell_of_heap hbk]; rfl
  have hs1 := hb1.size
  go_wp2_with (at_builtin; refine wpList_append_own _ rfl _ _ 42 rfl B 5 i0 (.int .u8 0) 1 1 Try.underlying42 hi hz0 hz1 hz2 rfl (by decide) _ _ _ rfl (hown.alloc _) ⟨w1.heap.size, 0, none⟩ 1 1 [.int .u8 c] rfl rfl ?c1 ?c2 ?c3 ?c4 ?c5 ?_)
  case c1 =>
    intro j u hj
    match j, hj with
    | 0, hj => simp at hj; subst hj; simp [Addr.add]
  case c2 => intro u hu; simp at hu; subst hu; rfl
  case c3 => unfold maxLen; omega
  case c4 => omega
  case c5 => simp; omega
  intro v' w2 hown' hgrow _
  have hlt : b < w1.heap.size := (Array.getElem?_eq_some_iff.1 hbk).1
  have hb2 : w2.heap[b]? = some (.cells #[.pointer (some ⟨b, 0, none⟩), v] 117 (0, 0)) := by
    rw [hgrow.block b (by simp; omega) (fun e => hne e.symm), Lib.alloc_old w1 _ b hlt]
    exact hbk
  have d0 : w2.cell? ⟨b, 0, none⟩ = some (.pointer (some ⟨b, 0, none⟩)) := by rw [Lib.cell_of_heap hb2]; rfl
  have d1 : w2.cell? ⟨b, 1, none⟩ = some v := by rw [Lib.cell_of_heap hb2]; rfl
  have f1 : w2.frozen? ⟨b, 1, none⟩ = false := Lib.frozen_of_heap hb2 1
  obtain ⟨g, cap, rfl⟩ : ∃ g cap, v' = .slice (some ⟨g, 0, none⟩) (bs.length + 1) cap := by
    rcases hown'.2 with ⟨_, h0⟩ | ⟨g, cap, cur, hv, _⟩
    · omega
    · exact ⟨g, cap, hv⟩
  go_wp2
  go_ret
  refine ⟨rfl, ?_, ?_⟩
  · exact Lib.BuilderAt.put (T := 117) (e := 5) hB hb2 (bs' := bs ++ [.int .u8 c]) (by simpa using hown') (by decide)
  · exact ((hb1.alloc (by omega) _).grown hgrow (by simp; omega) (fun k hk => (hown.lt k hk).1)).setCell (p := ⟨b, 1, none⟩) hB _
set_option maxHeartbeats 2000000 in
set_option maxRecDepth 100000 in
/-- Write: the bytes of a slice that lies elsewhere -/
theorem Write_any (B b : Nat) (bs : List Value) (ad c : Nat) (news : List Value) (w : World) (h : Bld w B b bs) (hlen : bs.length + news.length ≤ 1048576) (hBw : B ≤ w.heap.size) (hn : 0 < news.length)
    (had : b ≠ ad) (hold : ∀ j u, news[j]? = some u → w.cell? ⟨ad, j, none⟩ = some u) (h1c : ∀ u ∈ news, u.oneCell' = true) :
    Calls Try.prog 107 #[.pointer (some ⟨b, 0, none⟩), .slice (some ⟨ad, 0, none⟩) news.length c] w fun e w' => (∃ r, e = .returned r) ∧ Bld1 w' B b (bs ++ news) ∧ Below B w w' := by
  obtain ⟨i0, hi, hz0⟩ := Option.map_eq_some_iff.1 Try.infoB
  simp only [Prod.mk.injEq] at hz0
  obtain ⟨hz0, hz1, hz2⟩ := hz0
  obtain ⟨m, HM⟩ : ∃ m, Hid (news.length = m) := ⟨_, Lib.hid rfl⟩
  rw [HM.out] at hlen hn ⊢
  go_enter Try.func107, Try.ntmps107
  have hkeep : ∀ w', (w' = w ∨ w' = w.setCell ⟨b, 0, none⟩ (.pointer (some ⟨b, 0, none⟩))) → ∀ j u, news[j]? = some u → w'.cell? ⟨ad, j, none⟩ = some u := by
    rintro w' (rfl | rfl) j u hj
    · exact hold j u hj
    · rw [World.cell?_setCell_other _ _ _ _ (by intro e; injection e with e _ _; exact had e)]; exact hold j u hj
  have hcc : Calls Try.prog 114 #[.pointer (some ⟨b, 0, none⟩)] w fun e w' => e = .returned (.tuple #[]) ∧ Bld1 w' B b bs ∧ Below B w w' ∧ ∀ j u, news[j]? = some u → w'.cell? ⟨ad, j, none⟩ = some u := by
    rcases h with h | h
    · refine (cc_fresh b w h.cell0 h.shape h.frozen0).mono ?_
      rintro e w' ⟨rfl, rfl⟩
      exact ⟨rfl, h.used _, (Below.refl B w).setCell (p := ⟨b, 0, none⟩) h.1 _, hkeep _ (.inr rfl)⟩
    · refine (cc_used b w h.cell0).mono ?_
      rintro e w' ⟨rfl, rfl⟩
      exact ⟨rfl, h, Below.refl B _, hkeep _ (.inl rfl)⟩
  go_wp2_with (go_at_call 114; refine hcc.mono ?_)
  rintro e w1 ⟨rfl, h1, hb1, hnew⟩
  obtain ⟨hB, v, hbk, hown, hne⟩ := h1
  have c0 : w1.cell? ⟨b, 0, none⟩ = some (.pointer (some ⟨b, 0, none⟩)) := by rw [Lib.cell_of_heap hbk]; rfl
  have c1 : w1.cell? ⟨b, 1, none⟩ = some v := by rw [Lib.cell_of_heap hbk]; rfl
  have hs1 := hb1.size
  go_wp2_with (at_builtin; refine wpList_append_own _ rfl _ _ 42 rfl B 5 i0 (.int .u8 0) 1 1 Try.underlying42 hi hz0 hz1 hz2 rfl (by decide) _ _ _ rfl hown ⟨ad, 0, none⟩ m c news rfl (by rw [HM.out]; simp) ?c1 h1c ?c3 ?c4 ?c5 ?_)
  case c1 =>
    intro j u hj
    have := hnew j u hj
    by_cases e : j = 0
    · subst e; simpa [Addr.add] using this
    · simpa [Addr.add, e] using this
  case c3 => unfold maxLen; omega
  case c4 => omega
  case c5 => omega
  intro v' w2 hown' hgrow _
  have hlt : b < w1.heap.size := (Array.getElem?_eq_some_iff.1 hbk).1
  have hb2 : w2.heap[b]? = some (.cells #[.pointer (some ⟨b, 0, none⟩), v] 117 (0, 0)) := by
    rw [hgrow.block b (by omega) (fun e => hne e.symm)]
    exact hbk
  have d0 : w2.cell? ⟨b, 0, none⟩ = some (.pointer (some ⟨b, 0, none⟩)) := by rw [Lib.cell_of_heap hb2]; rfl
  have d1 : w2.cell? ⟨b, 1, none⟩ = some v := by rw [Lib.cell_of_heap hb2]; rfl
  have f1 : w2.frozen? ⟨b, 1, none⟩ = false := Lib.frozen_of_heap hb2 1
  obtain ⟨g, cap, rfl⟩ : ∃ g cap, v' = .slice (some ⟨g, 0, none⟩) (bs.length + m) cap := by
    rcases hown'.2 with ⟨_, h0⟩ | ⟨g, cap, cur, hv, _⟩
    · omega
    · exact ⟨g, cap, hv⟩
  go_wp2
  go_ret2
  refine ⟨⟨_, rfl⟩, ?_, ?_⟩
  · exact Lib.BuilderAt.put (T := 117) (e := 5) hB hb2 (bs' := bs ++ news) (by rw [List.length_append, HM.out]; exact hown') (by decide)
  · exact (hb1.grown hgrow (by omega) (fun k hk => (hown.lt k hk).1)).setCell (p := ⟨b, 1, none⟩) hB _
set_option maxHeartbeats 1000000 in
theorem digitB_any (n : Nat) (w : World) (hn : n ≤ 9) : Calls Try.prog 108 #[.int .i64 (n : Nat)] w fun e w' => e = .returned (.int .u8 ((48 + n : Nat) : Int)) ∧ w = w' := by
  go_enter Try.func108, Try.ntmps108
  go_wp2_with fail
  go_ret
  refine ⟨?_, rfl⟩
  show Ending.returned (.int .u8 (48 + (n : Int))) = _
  rw [show ((48 + n : Nat) : Int) = 48 + (n : Int) by omega]
theorem BuilderAt_alloc {T e : TypeId} {B b : Nat} {p : Value} {bs : List Value} {w : World} (h : Lib.BuilderAt T e B b p bs w) (o : Obj) : Lib.BuilderAt T e B b p bs (w.alloc o) := by
  obtain ⟨hB, v, hbk, hown, hne⟩ := h
  exact ⟨hB, v, (Lib.alloc_old w o b (Array.getElem?_eq_some_iff.1 hbk).1).trans hbk, hown.alloc _, hne⟩
theorem Bld.alloc {w : World} {B b : Nat} {bs : List Value} (h : Bld w B b bs) (o : Obj) : Bld (w.alloc o) B b bs := h.imp (fun h => BuilderAt_alloc h o) (fun h => BuilderAt_alloc h o)
theorem Bld.drew {w : World} {B b : Nat} {bs : List Value} (h : Bld w B b bs) : Bld w.drew B b bs := h
theorem Bld.below {w w' : World} {B b : Nat} {bs : List Value} (h : Bld w B b bs) (hw : w = w') : Bld w' B b bs := hw ▸ h
theorem Bld.lt {w : World} {B b : Nat} {bs : List Value} (h : Bld w B b bs) : b < w.heap.size ∧ B ≤ b := by
  rcases h with h | h <;> exact ⟨h.lt, h.1⟩
/-- Write at three bytes that were just laid -/
theorem Write3 (B b : Nat) (bs : List Value) (x y z : Int) (ty : TypeId) (w : World) (h : Bld w B b bs) (hlen : bs.length + 3 ≤ 1048576) (hBw : B ≤ w.heap.size) :
    Calls Try.prog 107 #[.pointer (some ⟨b, 0, none⟩), .slice (some ⟨w.heap.size, 0, none⟩) 3 3] (w.alloc (.cells #[.int .u8 x, .int .u8 y, .int .u8 z] ty)) fun e w' =>
      (∃ r, e = .returned r) ∧ Bld1 w' B b (bs ++ [.int .u8 x, .int .u8 y, .int .u8 z]) ∧ Below B w w' := by
  have hlt := h.lt
  refine (Write_any B b bs w.heap.size 3 [.int .u8 x, .int .u8 y, .int .u8 z] _ (h.alloc _) (by simp; omega) (by simp; omega) (by simp) (by omega) ?_ ?_).mono ?_
  · intro j u hj
    match j, hj with
    | 0, hj => simp at hj; subst hj; simp
    | 1, hj => simp at hj; subst hj; simp
    | 2, hj => simp at hj; subst hj; simp
  · intro u hu
    simp at hu
    rcases hu with rfl | rfl | rfl <;> rfl
  · rintro e w' ⟨h1, h2, h3⟩
    exact ⟨h1, h2, ((Below.refl B w).alloc hBw _).trans h3⟩

end Go.Proofs.Ytlignkgfclenkaa
