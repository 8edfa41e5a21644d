/- FnExactApplyGates: the row. -/
import Derived.Test.YteckhaafdojoeaaRows
import Derived.Test.YteckhaafdojoeaaP3z
import Derived.Test.YteckhaafdojoeaaQ3z
import Derived.ProofKit
namespace Go.Proofs.Yteckhaafdojoeaa
open Go.ChangeShapes Go.WideShapes Go.ChangeAt Go.RowKit

theorem Try.own : ownKnob Try.prog.godebug = none := by kernel_rfl
theorem Try.laidOut : laidOutB Try.prog = true := by kernel_rfl

set_option maxRecDepth 100000 in
theorem fnExactApplyGates_lifted (os : Os) (started : os.Started) (H : Type) (enc : TypeId × Value → H) :
    ReturnsInHanded {} Try.checked os 9 .any (Rows.fnExactApplyGatesSpec.pre6 enc Try.prog Try.f9 Rows.fnExactApplyGatesRow.domain false) (Rows.fnExactApplyGatesSpec.post enc Try.prog Try.f9 false true false false) := by
  refine returnsInHanded_of_change (C := Try.checked) Try.own started (by kernel_rfl) Try.func9
    (ChangeSpec.witness6 (enc := enc) (C := Try.checked) false ⟨#[], #[.slice none 0 0, .slice none 0 0], []⟩ 8 (by kernel_rfl) (by kernel_rfl) (by kernel_rfl) (by kernel_rfl)) ?_
  intro W base args ds gs before hval0 hW hcnd _
  have hval : ∀ (j : Nat) t v, Try.f9.params[j]? = some t → args[j]? = some v → Value.okWide Try.prog W .any base t v := hval0
  have hW' := hW
  obtain ⟨p, q, hA0, hV, rfl, hfz, hnd⟩ := hW
  have hA : DataW.TrodAll enc Try.prog W 0 (fun _ => true) true Try.f9.params.toList args.toList ds p := hA0
  rw [Try.params9] at hA hval
  obtain ⟨v0, v1, d0, d1, p0, p1, rfl, rfl, rfl, h0, h1⟩ := trodAll_two hA
  obtain ⟨rfl, rfl⟩ := trodVars_none hV
  have h0k := h0
  have h1k := h1
  obtain ⟨a0, m0, c0, rfl⟩ := okWide_slice Try.underlying68 (hval 0 68 v0 rfl rfl)
  obtain ⟨fuel0, hf0⟩ := h0
  obtain ⟨ao0, l0, cap0, hv0, hm0, hM0⟩ := open_gates hf0
  have hv0' : [Value.slice a0 m0 c0] = [Value.slice ao0 l0.length cap0] := hv0
  simp only [List.cons.injEq, Value.slice.injEq, and_true] at hv0'
  obtain ⟨rfl, rfl, rfl⟩ := hv0'
  clear hv0 hf0
  obtain ⟨a1, m1, c1, rfl⟩ := okWide_slice Try.underlying54 (hval 1 54 v1 rfl rfl)
  obtain ⟨fuel1, hf1⟩ := h1
  obtain ⟨ao1, l1, cap1, hv1, hm1, hM1⟩ := open_state hf1
  have hv1' : [Value.slice a1 m1 c1] = [Value.slice ao1 l1.length cap1] := hv1
  simp only [List.cons.injEq, Value.slice.injEq, and_true] at hv1'
  obtain ⟨rfl, rfl, rfl⟩ := hv1'
  clear hv1 hf1
  clear hA0 hval0
  simp only [List.append_nil] at hW'
  refine (lExactApplyGates a0 a1 l0 l1 c0 c1 (by unfold maxLen at hm0; omega) (by unfold maxLen at hm1; omega) W hM0 hM1).mono fun e W' ⟨he, hb⟩ => ?_
  subst he
  exact ⟨_, rfl, _, _, _, [], _, [], hW', trodAll_mk1 (shut_bool Try.underlying4 true), trodAll_mk2 (Below.trod Try.laidOut (by kernel_rfl) (of_decide_eq_true (by kernel_rfl)) h0k hb (fun x hx => by simpa using hW'.lt x (by simp [hx])))
    (Below.trod Try.laidOut (by kernel_rfl) (of_decide_eq_true (by kernel_rfl)) h1k hb (fun x hx => by simpa using hW'.lt x (by simp [hx]))), rfl, hb.frame _, fun h => by cases h⟩

theorem fnExactApplyGates_holds : Rows.FnExactApplyGatesSaid :=
  OpenClaim.holds_of_wide 9 Try.f9 rfl rfl rfl rfl rfl rfl rfl ⟨rfl, rfl, rfl, rfl, rfl⟩ rfl rfl rfl rfl rfl (by kernel_rfl) Try.func9 (by kernel_rfl)
    (of_decide_eq_true (by kernel_rfl)) (by unfold Func.isWrapper; first | (rw [if_pos (by decide +kernel)]; kernel_rfl) | (rw [if_neg (by decide +kernel)]; exact ⟨rfl, rfl⟩))
    (fun os started H enc _ => fnExactApplyGates_lifted os started H enc)
#print axioms fnExactApplyGates_holds

end Go.Proofs.Yteckhaafdojoeaa
