/-
  Contracts: the program's token: leave, visit.
-/
import Derived.Test.YtjapdfdjgjajkaaTokM
import Derived.Test.YtjapdfdjgjajkaaBoolS
import Derived.Test.YtjapdfdjgjajkaaEdge2
import Derived.Test.YtjapdfdjgjajkaaTreeP
import Derived.Test.YtjapdfdjgjajkaaReg
namespace Go.Proofs.Ytjapdfdjgjajkaa
open Go.ChangeShapes Go.WideShapes Go.ChangeAt Go.RowKit
set_option linter.unusedVariables false

def metL (n : Nat) (m : Nat → Bool) : List Bool := (List.range n).map m
theorem metL_length (n : Nat) (m : Nat → Bool) : (metL n m).length = n := by simp [metL]
theorem nthB_metL {n j : Nat} (m : Nat → Bool) (h : j < n) : nthB (metL n m) j = m j := by
  rw [nthB_eq (by rw [metL_length]; exact h)]; simp [metL]
theorem metL_set {n a : Nat} (m : Nat → Bool) (h : a < n) : (metL n m).set a true = metL n (setM m a) := by
  apply List.ext_getElem (by simp [metL])
  intro i h1 h2
  simp only [metL, List.getElem_set, List.getElem_map, List.getElem_range, setM]
  by_cases e : a = i
  · subst e; simp
  · have : (i == a) = false := by simpa using fun e2 => e e2.symm
    simp [e, this]
structure Lay (B base g mb fb : Nat) : Prop where
  g1 : B ≤ g
  g2 : g < base
  m1 : B ≤ mb
  m2 : mb < base
  f1 : B ≤ fb
  f2 : fb < base
  gm : g ≠ mb
  gf : g ≠ fb
  mf : mb ≠ fb
/-- the program's token in memory -/
structure TokI (w : World) (B base g mb fb n : Nat) (x0 x1 x2 : Value) (σ : Tk) (vm : Value) (q : Nat) : Prop where
  box : BoxN w g #[x0, x1, x2, .map (some mb), .slice (some ⟨fb, 0, none⟩) n n, vm] 81
  map : MpT w mb σ.used q
  met : BoolS w fb (fb + 1) (.slice (some ⟨fb, 0, none⟩) n n) (metL n σ.met)
  mvs : ∃ top, OwnSS w base top 23 vm σ.moves
section
variable {w w' : World} {B base g mb fb n : Nat} {x0 x1 x2 : Value} {σ : Tk} {vm : Value} {q : Nat}
theorem TokI.lts (h : TokI w B base g mb fb n x0 x1 x2 σ vm q) : g < w.heap.size ∧ mb < w.heap.size := ⟨h.box.lt, h.map.lt⟩
theorem TokI.far {row : Option Nat} (h : TokI w B base g mb fb n x0 x1 x2 σ vm q) (hf : fb + 1 ≤ w.heap.size) (hg : w.grownBy w' row) (hr : ∀ k, row = some k → k ≠ g ∧ k ≠ mb ∧ k ≠ fb ∧ k < base) : TokI w' B base g mb fb n x0 x1 x2 σ vm q :=
  ⟨h.box.far hg (fun k e => (hr k e).1), h.map.kept hg (fun e => (hr mb e.symm).2.1 rfl), h.met.far hg hf (fun k e => by have := (hr k e).2.2.1; omega), let ⟨top, hm⟩ := h.mvs; ⟨top, hm.far hg (fun k e => (hr k e).2.2.2)⟩⟩
theorem TokI.still (h : TokI w B base g mb fb n x0 x1 x2 σ vm q) (hf : fb + 1 ≤ w.heap.size) (hg : w.grownBy w' none) : TokI w' B base g mb fb n x0 x1 x2 σ vm q := h.far hf hg (fun k e => by cases e)
end

set_option maxHeartbeats 4000000 in
set_option maxRecDepth 100000 in
theorem leave_any (B base g mb fb n : Nat) (x0 x1 x2 : Value) (σ : Tk) (vm : Value) (q : Nat) (a b : Int) (w : World) (hL : Lay B base g mb fb) (h : TokI w B base g mb fb n x0 x1 x2 σ vm q) (hf : base ≤ w.heap.size) (hlen : σ.moves.length ≤ 100000) :
    Calls Try.prog 69 #[.pointer (some ⟨g, 0, none⟩), .int .i64 a, .int .i64 b] w (fun e w' => e = .returned (.tuple #[]) ∧ ∃ vm', TokI w' B base g mb fb n x0 x1 x2 ⟨σ.used, σ.met, σ.moves ++ [[a, b]]⟩ vm' q ∧ Fr B base w vm w' vm') := by
  obtain ⟨g1, g2, m1, m2, f1, f2, gm, gf, mf⟩ := hL
  have HBX := Lib.hid h.box
  have HMP := Lib.hid h.map
  have HMT := Lib.hid h.met
  obtain ⟨top, hm⟩ := h.mvs
  have HMV := Lib.hid hm
  obtain ⟨A, c, rfl, hc1, hc2⟩ := hm.len
  have hlv := hm.lt
  have htop : top ≤ w.heap.size := by obtain ⟨_, _, _, _, _, _, h, _⟩ := hm; exact h
  have HLV := Lib.hid hlv
  have k5 : w.cell? ⟨g, 5, none⟩ = some (.slice A σ.moves.length c) := HBX.out.cell 5 (by simp)
  clear h hm hlv
  obtain ⟨m, HM⟩ : ∃ m, Hid (σ.moves.length = m) := ⟨_, Lib.hid rfl⟩
  rw [HM.out] at k5 hlen hc1 HBX HMV HLV
  rw [HM.out]
  go_enter Try.func69, Try.ntmps69
  go_wp2_with (at_builtin; refine append_ss (s := .tmp 10) Try.underlying27 Try.infoRow (by decide) (w.alloc (.cells #[.int .i64 a, .int .i64 b] 3)) rfl _ rfl (HMV.out.alloc _) (lo := w.heap.size) (hi := w.heap.size + 1) (IntS.newN w [a, b] _ rfl (by simp)) htop (by simp) (by omega) (fun g hg => .inl (HLV.out g hg).2) _ rfl (by simp [Act.eval, go_sem]) (by rw [HM.out]; omega) ?_; intro v' w' ho' hg' hat'; obtain ⟨A', c', hv', hc1', hc2'⟩ := ho'.len; obtain ⟨m9, HM9⟩ : ∃ z, Hid ((σ.moves ++ [[a, b]]).length = z) := ⟨_, Lib.hid rfl⟩; rw [HM9.out] at hv' hc1'; subst hv'; have bx2 := (HBX.out.still (grown_alloc w _)).far hg' (fun k e => by have := HLV.out k e; omega); have f5 := bx2.frozen 5; have k6 : w'.cell? ⟨g, 5, none⟩ = some (.slice A m c) := bx2.cell 5 (by simp))
  go_end0
  have bx3 := bx2.set 5 (.slice A' m9 c')
  have hgs : w'.grownBy (w'.setCell ⟨g, 5, none⟩ (.slice A' m9 c')) (some g) := grown_set w' ⟨g, 5, none⟩ (.slice A' m9 c')
  have hz := hg'.size
  have hz2 : (w.alloc (.cells #[.int .i64 a, .int .i64 b] 3)).heap.size = w.heap.size + 1 := by simp
  have hr : ∀ k, (Value.slice A m c).ownBlock = some k → k ≠ mb ∧ k < fb ∨ fb + 1 ≤ k ∧ k ≠ mb := fun k e => by have := HLV.out k e; omega
  refine ⟨rfl, _, ⟨bx3, ?_, ?_, w.heap.size + 1, ?_⟩, ((Fr.still (grown_alloc w _)).trans (Fr.row hg' ?_)).trans (Fr.turn hgs g1 g2)⟩
  · exact ((HMP.out.kept (grown_alloc w _) (by simp)).kept hg' (fun e => by have := HLV.out mb e.symm; omega)).kept hgs (fun e => by injection e; omega)
  · exact ((HMT.out.still (grown_alloc w _) (by omega)).far hg' (by omega) (fun k e => by have := hr k e; omega)).far hgs (by omega) (fun k e => by injection e; omega)
  · exact ho'.far hgs (fun k e => by injection e; omega)
  · rcases hat' with e | e
    · exact .inl e
    · exact .inr ⟨_, e, by simp⟩

end Go.Proofs.Ytjapdfdjgjajkaa
