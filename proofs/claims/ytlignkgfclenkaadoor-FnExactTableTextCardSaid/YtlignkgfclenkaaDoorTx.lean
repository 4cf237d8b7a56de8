/-
  Contracts of the strings.Builder's copyCheck, Write and WriteByte at a builder of the call's own. No condition on any program.
-/
import Derived.Test.YtlignkgfclenkaaDoorTxQ
import Derived.Test.YtlignkgfclenkaaDoorVr
import Derived.Lib.Builder
import Derived.Lib.UnsafeStr
import Derived.Laws.Externs
import Derived.Carry
namespace Go.Proofs.YtlignkgfclenkaaDoor
open Go.ChangeShapes Go.WideShapes Go.ChangeAt Go.RowKit
set_option linter.unusedVariables false

theorem Tryd.sizeB : (Tryd.prog.info? 57).map (·.size) = some 2 := by kernel_rfl
theorem Tryd.liesB : liesAt Tryd.prog Tryd.prog.depth 57 (2 / Tryd.prog.cellsOf 57) 0 57 1 = true := by kernel_rfl
theorem Tryd.infoB : (Tryd.prog.info? 5).map (fun i => (i.zero, i.size, i.bytes)) = some (some (.int .u8 0), 1, 1) := by kernel_rfl
set_option maxHeartbeats 1000000 in
set_option maxRecDepth 100000 in
theorem cc_used (b : Nat) (w : World) (h0 : w.cell? ⟨b, 0, none⟩ = some (.pointer (some ⟨b, 0, none⟩))) :
    Calls Tryd.prog 56 #[.pointer (some ⟨b, 0, none⟩)] w fun e w' => e = .returned (.tuple #[]) ∧ w' = w := by
  obtain ⟨j, hj, _⟩ := Option.map_eq_some_iff.1 Tryd.sizeB
  go_enter Tryd.func56, Tryd.ntmps56
  go_wp2
  rw [Lib.run_neq_ptr_same w _ Tryd.underlying55 hj]
  go_wp2
  go_end0
  exact ⟨rfl, rfl⟩
set_option maxHeartbeats 1000000 in
set_option maxRecDepth 100000 in
theorem cc_fresh (b : Nat) (w : World) (h0 : w.cell? ⟨b, 0, none⟩ = some (.pointer none)) (hsh : w.shape? b = some (57, 2)) (hfz : w.frozen? ⟨b, 0, none⟩ = false) :
    Calls Tryd.prog 56 #[.pointer (some ⟨b, 0, none⟩)] w fun e w' => e = .returned (.tuple #[]) ∧ w' = w.setCell ⟨b, 0, none⟩ (.pointer (some ⟨b, 0, none⟩)) := by
  obtain ⟨j, hj, hjs⟩ := Option.map_eq_some_iff.1 Tryd.sizeB
  go_enter Tryd.func56, Tryd.ntmps56
  go_wp2
  rw [Lib.run_to_unsafe w ⟨b, 0, none⟩ Tryd.underlying55 Tryd.underlying110 hj (by rw [hjs]; decide) hsh (Nat.zero_lt_succ 1)]
  simp only [Result.andThen]
  rw [Oper.upon_value]
  go_wp2
  rw [run_callFunc_extern Tryd.func69 (by kernel_rfl) (by kernel_rfl) (by kernel_rfl) (e := Extern.AbiNoEscape.same) (by kernel_rfl)]
  rw [Lib.run_noEscape]
  simp only [Result.andThen]
  rw [Oper.upon_value]
  go_wp2
  rw [Lib.run_from_unsafe w ⟨b, 0, none⟩ Tryd.underlying110 Tryd.underlying55 hj hsh Tryd.liesB]
  simp only [Result.andThen]
  rw [Oper.upon_value]
  go_wp2
  go_end0
  exact ⟨rfl, rfl⟩
/-- a builder of the call's own that holds these bytes -/
def Bld (w : World) (B b : Nat) (bs : List Value) : Prop := Lib.IsBuilder 57 5 B b bs w
def Bld1 (w : World) (B b : Nat) (bs : List Value) : Prop := Lib.BuilderAt 57 5 B b (.pointer (some ⟨b, 0, none⟩)) bs w
theorem copyCheck_any (B b : Nat) (bs : List Value) (w : World) (h : Bld w B b bs) :
    Calls Tryd.prog 56 #[.pointer (some ⟨b, 0, none⟩)] w fun e w' => e = .returned (.tuple #[]) ∧ Bld1 w' B b bs ∧ Below B w w' := by
  rcases h with h | h
  · refine (cc_fresh b w h.cell0 h.shape h.frozen0).mono ?_
    rintro e w' ⟨rfl, rfl⟩
    exact ⟨rfl, h.used _, (Below.refl B w).setCell (p := ⟨b, 0, none⟩) h.1 _⟩
  · refine (cc_used b w h.cell0).mono ?_
    rintro e w' ⟨rfl, rfl⟩
    exact ⟨rfl, h, Below.refl B _⟩
theorem BuilderAt_alloc {T e : TypeId} {B b : Nat} {p : Value} {bs : List Value} {w : World} (h : Lib.BuilderAt T e B b p bs w) (o : Obj) : Lib.BuilderAt T e B b p bs (w.alloc o) := by
  obtain ⟨hB, v, hbk, hown, hne⟩ := h
  exact ⟨hB, v, (Lib.alloc_old w o b (Array.getElem?_eq_some_iff.1 hbk).1).trans hbk, hown.alloc _, hne⟩
theorem Bld.alloc {w : World} {B b : Nat} {bs : List Value} (h : Bld w B b bs) (o : Obj) : Bld (w.alloc o) B b bs := h.imp (fun h => BuilderAt_alloc h o) (fun h => BuilderAt_alloc h o)
theorem Bld.drew {w : World} {B b : Nat} {bs : List Value} (h : Bld w B b bs) : Bld w.drew B b bs := h
theorem Bld.below {w w' : World} {B b : Nat} {bs : List Value} (h : Bld w B b bs) (hw : w = w') : Bld w' B b bs := hw ▸ h
theorem Bld.lt {w : World} {B b : Nat} {bs : List Value} (h : Bld w B b bs) : b < w.heap.size ∧ B ≤ b := by
  rcases h with h | h <;> exact ⟨h.lt, h.1⟩
end Go.Proofs.YtlignkgfclenkaaDoor
