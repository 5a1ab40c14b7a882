/- The program's TakeFixed returns what the reference's TakeFixed returns, for every text: no condition. -/
import Derived.Test.YtbkongagogfpdaaPFnExactTakeFixedx
namespace Go.Proofs.Ytbkongagogfpdaa.Pure
open Go.RowKit Go.Proofs.Ytbkongagogfpdaa.PFnExactTakeFixed Go.Proofs.YtbkongagogfpdaaW.PrintWords Go.Proofs.YtbkongagogfpdaaW.PrintLast Go.Proofs.YtbkongagogfpdaaW.PrintMore
set_option linter.unusedVariables false
set_option linter.unusedSimpArgs false


theorem FnExactTakeFixed : laws_FnExactTakeFixed.Pure := by
  intro s hs
  have e : impl_TakeFixed.f s = spec_TakeFixed.f s := rfl
  have h : ∃ r, spec_TakeFixed.f s = some r := by
    unfold spec_TakeFixed.f
    by_cases h : (s.size : Int) < 4
    · rw [if_pos h]; exact ⟨_, rfl⟩
    · rw [if_neg h, if_pos (by omega), if_pos (by omega), if_pos (by omega), if_pos (by omega), if_pos (by omega)]; exact ⟨_, rfl⟩
  obtain ⟨r, h⟩ := h
  unfold laws_FnExactTakeFixed.f
  rw [e, h]
  by_cases g : (s.size : Int) > 1048576
  · rw [if_pos g]
  · rw [if_neg g]; simp

end Go.Proofs.Ytbkongagogfpdaa.Pure
