/- For all arguments laws.FnExactSameTyped returns true and leaves its arguments as they were: what the program returns is what the reference returns. No condition. -/
import Derived.Test.YtpbobilkejblgaaZSameTyped3
namespace Go.Proofs.Ytpbobilkejblgaa
section
open Go.ChangeShapes Go.WideShapes Go.ChangeAt Go.RowKit Go.WideElems Go.WideMaps
open Go.ChangeMaps (open_string)
set_option linter.unusedVariables false
set_option maxRecDepth 100000 in
theorem lifted_SameTyped (os : Os) (started : os.Started) (H : Type) (enc : TypeId × Value → H) :
    ReturnsInHanded {} Try.checked os 6 .any (Rows.fnExactSameTypedSpec.pre6 enc Try.prog Try.f6 Rows.fnExactSameTypedRow.domain false) (Rows.fnExactSameTypedSpec.post enc Try.prog Try.f6 false true false false) := by
  refine returnsInHanded_of_change (C := Try.checked) own started (by kernel_rfl) Try.func6
    (ChangeSpec.witness6 (enc := enc) (C := Try.checked) false ⟨#[], #[.agg #[.slice none 0 0, .slice none 0 0], .agg #[.slice none 0 0, .slice none 0 0]], []⟩ 8 (by kernel_rfl) (by kernel_rfl) (by kernel_rfl) (by kernel_rfl)) ?_
  intro W base args ds gs before hval0 hW hcnd _
  have hval : ∀ (j : Nat) t v, Try.f6.params[j]? = some t → args[j]? = some v → Value.okWide Try.prog W .any base t v := hval0
  have hW' := hW
  have hlt : ∀ p ∈ before, p.block < W.heap.size := fun p hp => hW.lt p hp
  obtain ⟨p, q, hA0, hV, rfl, hfz, hnd⟩ := hW
  have hA : DataW.TrodAll enc Try.prog W 0 (fun _ => true) true Try.f6.params.toList args.toList ds p := hA0
  rw [Try.params6] at hA hval
  obtain ⟨v0, vs0, d0, ds0, p0, q0, hargs, rfl, rfl, h0, r0⟩ := trodAll_cons hA
  obtain ⟨v1, vs1, d1, ds1, p1, q1, rfl, rfl, rfl, h1, r1⟩ := trodAll_cons r0
  obtain ⟨rfl, rfl, rfl⟩ := trodAll_nil r1
  obtain rfl : args = #[v0, v1] := by cases args; simp_all
  obtain ⟨rfl, rfl⟩ := trodVars_none hV
  obtain ⟨x0, hy0⟩ := open_st opens_TypedNet Try.underlying49 (hval 0 49 v0 rfl rfl) h0
  obtain ⟨hx0, hk0⟩ := tn_split hy0
  obtain ⟨x1, hy1⟩ := open_st opens_TypedNet Try.underlying49 (hval 1 49 v1 rfl rfl) h1
  obtain ⟨hx1, hk1⟩ := tn_split hy1
  refine (walk_SameTyped W v0 x0 hx0 hk0 v1 x1 hx1 hk1).mono fun e W' ⟨he, hb⟩ => ?_
  subst he
  exact ⟨_, rfl, post_law rfl rfl (by kernel_rfl) rfl rfl rfl hW' hb⟩
theorem over_SameTyped : Rows.fnExactSameTypedRow.holds Try.pinned (OpenSpec.ofChange Rows.fnExactSameTypedSpec) :=
  OpenClaim.holds_of_wide 6 Try.f6 rfl rfl rfl rfl rfl rfl rfl ⟨rfl, rfl, rfl, rfl, rfl⟩ rfl rfl rfl rfl rfl (by kernel_rfl) Try.func6 (by kernel_rfl)
    (of_decide_eq_true (by kernel_rfl)) (by unfold Func.isWrapper; first | (rw [if_pos (by decide +kernel)]; kernel_rfl) | (rw [if_neg (by decide +kernel)]; exact ⟨rfl, rfl⟩))
    (fun os started H enc _ => lifted_SameTyped os started H enc)
theorem fnExactSameTyped_holds : Rows.FnExactSameTypedSaid := over_SameTyped
end
end Go.Proofs.Ytpbobilkejblgaa
