/-
  The table of types and the functions of a context, shown one by one.
-/
import Derived.Test.YtkmmphkjmamckaaVcFunc
namespace Go.Proofs.Ytkmmphkjmamckaa
open Go
set_option linter.all false

def TabOk (P : Program) : Nat → List TI → Prop
  | _, [] => True
  | i, ti :: r => (match ti.k with | .other => True | _ => TIok P i ti) ∧ TabOk P (i + 1) r

def FnsOk (P : Program) : List Nat → Prop
  | [] => True
  | id :: r => (∃ fn, P.funcs[id]? = some fn ∧ (fn.name == "runtime.NumGoroutine") = false ∧ fn.body.isNone = false) ∧ FnsOk P r

def EqsOk (P : Program) : List Nat → Prop
  | [] => True
  | t :: r => (P.stoodInHeld t = false ∧ P.eqGuardType P.depth t = false) ∧ EqsOk P r

theorem tabOk_at {P : Program} : ∀ {T : List TI} {i t : Nat} {ti : TI}, TabOk P i T → T[t]? = some ti → (∀ h : ti.k = .other, False) → TIok P (i + t) ti
  | [], _, _, _, _, h, _ => by simp at h
  | x :: r, i, 0, ti, hT, h, hn => by
    simp only [List.getElem?_cons_zero, Option.some.injEq] at h
    subst h
    have := hT.1
    split at this
    · rename_i h; exact (hn h).elim
    · exact this
  | x :: r, i, t + 1, ti, hT, h, hn => by
    simp only [List.getElem?_cons_succ] at h
    have := tabOk_at hT.2 h hn
    rwa [show i + (t + 1) = i + 1 + t by omega]

theorem fnsOk_at {P : Program} : ∀ {l : List Nat} {id : Nat}, FnsOk P l → memN l id = true → ∃ fn, P.funcs[id]? = some fn ∧ (fn.name == "runtime.NumGoroutine") = false ∧ fn.body.isNone = false
  | [], _, _, h => by simp [memN] at h
  | k :: r, id, hl, h => by
    unfold memN at h
    split at h
    · rename_i e
      rw [← Nat.eq_of_beq_eq_true e]
      exact hl.1
    · exact fnsOk_at hl.2 h

theorem eqsOk_at {P : Program} : ∀ {l : List Nat} {t : Nat}, EqsOk P l → memN l t = true → P.stoodInHeld t = false ∧ P.eqGuardType P.depth t = false
  | [], _, _, h => by simp [memN] at h
  | k :: r, id, hl, h => by
    unfold memN at h
    split at h
    · rename_i e
      rw [← Nat.eq_of_beq_eq_true e]
      exact hl.1
    · exact eqsOk_at hl.2 h

def tiStruct (T : List TI) : Nat → List TI → List Nat → Bool
  | _, [], _ => true
  | i, ti :: r, eqs => (match ti.k with | .struct (f :: fs) => !scalars T 0 (f :: fs) || memN eqs i | _ => true) && tiStruct T (i + 1) r eqs

theorem tiStruct_at {T : List TI} {eqs : List Nat} : ∀ {l : List TI} {i t : Nat} {ti : TI}, tiStruct T i l eqs = true → l[t]? = some ti → ∀ {f fs}, ti.k = .struct (f :: fs) → scalars T 0 (f :: fs) = true → memN eqs (i + t) = true
  | [], _, _, _, _, h, _, _, _, _ => by simp at h
  | x :: r, i, 0, ti, hT, h, f, fs, hk, hs => by
    simp only [List.getElem?_cons_zero, Option.some.injEq] at h
    subst h
    simp only [tiStruct, Bool.and_eq_true, hk, hs, Bool.not_true, Bool.false_or] at hT
    exact hT.1
  | x :: r, i, t + 1, ti, hT, h, f, fs, hk, hs => by
    simp only [List.getElem?_cons_succ] at h
    simp only [tiStruct, Bool.and_eq_true] at hT
    have := tiStruct_at hT.2 h hk hs
    rwa [show i + (t + 1) = i + 1 + t by omega]

theorem ctxOk_of {P : Program} {T : List TI} {fns eqs : List Nat} (hT : TabOk P 0 T) (hm : P.follows .mixedOrders = true) (hf : FnsOk P fns) (he : EqsOk P eqs) (hc : tiStruct T 0 T eqs = true) {real wraps opqs : List Nat} {loops cuts : List (Nat × LShape)} : CtxOk ⟨P, T, real, wraps, opqs, fns, loops, cuts⟩ where
  ti := fun t ti h => by
    unfold Ctx.ti tiOf at h
    split at h
    · rename_i x hx
      split at h
      · cases h
      · rename_i hn
        simp only [Option.some.injEq] at h
        subst h
        have := tabOk_at hT hx hn
        rwa [Nat.zero_add] at this
    · cases h
  mixed := hm
  fn := fun id h => fnsOk_at hf h
  eq := fun t h => by
    unfold eqTy Ctx.ti tiOf at h
    refine eqsOk_at he ?_
    split at h
    · rename_i f fs s b z hx
      split at hx
      · rename_i x hx'
        split at hx
        · cases hx
        · simp only [Option.some.injEq] at hx
          have := tiStruct_at hc hx' (f := f) (fs := fs) (by rw [hx]) h
          rwa [Nat.zero_add] at this
      · cases hx
    · cases h

end Go.Proofs.Ytkmmphkjmamckaa
