/-
  Inside a round of a range over a function: a region that draws its order is walked as outside of it. No condition on any program.
-/
import Derived.Test.YtbbdhcfbdndhlaaDoorReg
import Derived.RangeFuncNested
import Derived.RangeFuncBound
import Derived.RangeFuncCalls
import Derived.RangeFuncLeaves
import Derived.RangeFuncBox
import Derived.WalkKit
import Derived.OwnWalkIn
import Derived.TacticsInMore
import Derived.LoopNIn
import Derived.LoopIn
namespace Go.Proofs.YtbbdhcfbdndhlaaDoor
open Go.RowKit
set_option linter.unusedVariables false

section
variable {P : Program} {md : Region.Mode} {ops : Array Oper} {Q : Exit → Act → World → Prop} {l n : Nat}
/-- only the way on -/
def onlyOn (Q : Exit → Act → World → Prop) : Exit → Act → World → Prop
  | .normal, a, w => Q .normal a w
  | _, _, _ => False
theorem onlyOn_panic (c) (a : Act) (w : World) : ¬ onlyOn Q (.panic c) a w := fun h => h
theorem onlyOn_lets : ¬ LetsOut (onlyOn Q) := fun ⟨_, _, h⟩ => h
theorem upon_in {o : Oper} {a : Act} {next next' : Act → World → Prop} (hn : ∀ a w, next a w → next' a w) : ∀ (r : Result Next), o.upon P a next (onlyOn Q) r → o.uponIn (Fence.wide.inRound l) n P a next' Q r
  | .ok (.value v) w', h => hn _ _ h
  | .ok .skip w', h => hn _ _ h
  | .ok (.defer d) w', h => hn _ _ h
  | .ok (.enter f args) w', h => ⟨fun hd => by simp [Fence.wide, Fence.inRound] at hd, (CallsIn.inRound l (callsIn_wide.2 h)).mono fun e w'' he => by
      cases e with
      | returned v => exact hn _ _ he
      | panicked c => exact absurd he (onlyOn_panic _ _ _)
      | outgrown => exact absurd he onlyOn_lets⟩
  | .ok (.row row args) w', h => ⟨fun hd => by simp [Fence.wide, Fence.inRound] at hd, fun c cs _ => by
      obtain ⟨v, w'', r, s⟩ := h c cs
      exact ⟨v, w'', hn _ _ r, stepsIn_wide.2 s⟩⟩
  | .ok (.round _ _ _ _ _) w', h => h.elim
  | .halt (.panic v) w', h => False.elim (show False from h)
theorem op_in {i : Nat} {K K' : Act → World → Prop} (hk : ∀ a w, K a w → K' a w) (hd : ∀ (o : Oper) (c : Call), ops[i]? = some o → o.op ≠ Op.defer c) {a : Act} {w : World} (h : wpOp P ops (onlyOn Q) i K a w) : wpOpIn (Fence.wide.inRound l) n P ops Q i K' a w := by
  unfold wpOp at h
  unfold wpOpIn
  cases ho : ops[i]? with
  | none => simp only [ho] at h ⊢; exact hk _ _ h
  | some o =>
    simp only [ho] at h ⊢
    by_cases hw : Region.wanted o (yielded ops a.tmps) = true
    · rw [if_pos hw] at h ⊢
      rcases h with h | h
      · refine ⟨fun _ _ => trivial, ?_⟩
        rw [show (Fence.wide.inRound l).round = some l from rfl, Oper.semAt_some l _ o (fun c => hd o c ho)]
        exact upon_in hk _ h
      · exact absurd h.2 onlyOn_lets
    · rw [if_neg hw] at h ⊢
      exact ⟨fun _ _ => trivial, hk _ _ h⟩
theorem any_in (hd : ∀ (i : Nat) (o : Oper) (c : Call), ops[i]? = some o → o.op ≠ Op.defer c) : ∀ (fuel : Nat) (listed : Array Bool) (a : Act) (w : World), wpAny P md ops (onlyOn Q) fuel listed a w → wpAnyIn (Fence.wide.inRound l) n P md ops Q fuel listed a w
  | 0, _, _, _, h => h
  | fuel + 1, _, _, _, h => ⟨h.1, fun i hi => op_in (fun _ _ k => any_in hd fuel _ _ _ k) (fun o c ho => hd i o c ho) (h.2 i hi)⟩
/-- no operation defers a call -/
def noDefer (ops : Array Oper) : Bool := ops.all fun o => match o.op with | .defer _ => false | _ => true
theorem noDefer_is (h : noDefer ops = true) : ∀ (i : Nat) (o : Oper) (c : Call), ops[i]? = some o → o.op ≠ Op.defer c := fun i o c hi e => by
  unfold noDefer at h
  rw [Array.all_eq_true] at h
  obtain ⟨hlt, he⟩ := Array.getElem?_eq_some_iff.1 hi
  have := h i hlt
  rw [he, e] at this
  cases this
theorem wpIn_region_U {id : Nat} {a : Act} {w : World} (S : World → Prop) (T : List Nat) (hm : P.follows .mixedOrders = true) (hn : noDefer ops = true)
    (h : anyU P .any ops (onlyOn Q) S T ops.size (Array.replicate ops.size false) a w.drew) : (Code.region id ops true).wpIn (Fence.wide.inRound l) n P Q a w :=
  wpIn_region_any hm (any_in (noDefer_is hn) _ _ _ _ (any_of_U _ _ _ _ h))
theorem onlyOn_go {a : Act} {w : World} (h : Q .normal a w) : onlyOn Q .normal a w := h
end

end Go.Proofs.YtbbdhcfbdndhlaaDoor
