/-
  Operation by operation, region by region, code: what the proposition says is what runs.
-/
import Derived.Test.YtkmmphkjmamckaaVcStep3
import Derived.Test.YtkmmphkjmamckaaVcOrd
namespace Go.Proofs.Ytkmmphkjmamckaa
open Go
set_option linter.all false

section
variable {C : Ctx} {u0 w0 : World}

theorem step_op (hC : CtxOk C) {ρ : List Nat} {fr : List SV} {ls : List Loc} {u w : World} {a : Act} {Q : Exit → Act → World → Prop} (hm : MS u0 w0 ρ ls u w) (hf : FrOk ρ fr a) {o : Oper} {k : KO} (h : wOp C o fr ls u k) : o.wp C.P a w (Post u0 w0 ρ ls u w a o k) Q := by
  by_cases hr : isRead C o = true
  · exact Post.read hm (read_op hC hm hf hr h)
  obtain ⟨dst, op, ty, pos, after, g⟩ := o
  cases op <;> try (exact (hr rfl).elim)
  case alloc t =>
    simp only [wOp] at h
    split at h
    · rename_i ti hti
      have hti' := hC.ti t ti hti
      split at h
      · exact h.elim
      · rename_i htup
        obtain ⟨inf, z, hinf, hzz, hzc⟩ := zero_spec hti' (fun ts e => htup (by simp [TI.isTuple, e]))
        refine step_box hm h ?_
        simp only [execOp, Instr.alloc, Sem.run_bind, zeroValue, typeInfo, run_program, hinf, Sem.run_pure, Result.andThen_ok, hzz, run_newVar, hzc]
    · exact h.elim
  case box t x =>
    simp only [wOp] at h
    split at h
    · rename_i ti y hti hy
      refine step_box hm h ?_
      simp only [execOp, Instr.box, asV_eval hf hy, Sem.run_bind, run_newVar, Result.andThen_ok, Sem.run_pure, Array.toArray_toList]
    · exact h.elim
  case buildSlice t n parts => exact step_buildSlice hC hm hf h
  case store t x y => exact step_store hC hm hf h
  case convert s d x => exact step_convert hC hm hf h
  case makeSlice t l c => exact step_makeSlice hC hm hf h
  case call c =>
    obtain ⟨callee, xs, ats⟩ := c
    simp only [wOp] at h
    split at h
    · rename_i args hargs
      cases callee with
      | builtin b => exact step_builtin hC hm hf hargs h
      | value f => exact step_call hC hm hf hargs h
      | invoke r m => exact h.elim
    · exact h.elim
  all_goals (simp only [wOp] at h)

end
end Go.Proofs.Ytkmmphkjmamckaa
