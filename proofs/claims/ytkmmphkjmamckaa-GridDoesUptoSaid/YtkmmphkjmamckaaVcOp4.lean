/-
  Every operation that leaves the world alone.
-/
import Derived.Test.YtkmmphkjmamckaaVcOp3
namespace Go.Proofs.Ytkmmphkjmamckaa
open Go
set_option linter.all false

section
variable {C : Ctx} {ρ : List Nat} {fr : List SV} {ls : List Loc} {u0 w0 u w : World} {a : Act}

theorem read_builtin (hC : CtxOk C) (hf : FrOk ρ fr a) {dst : Option Tmp} {b : Builtin} {xs : Array Operand} {ats : Array TypeId} {ty : TypeId} {pos : String} {after : Array Edge} {g : Option (Nat × Bool)} {k : KO}
    (hb : b = .len ∨ b = .max ∨ b = .min) {args : List Value} (hargs : asVs fr xs.toList = some args) (h : wBuiltin C b ats.toList args u fun y u e => k (.v y) ls u e) :
    ReadOk C.P ρ ls u w a ⟨dst, .call ⟨.builtin b, xs, ats⟩, ty, pos, after, g⟩ k := by
  have hxs : xs.map a.eval = args.toArray := by
    have := asVs_eval hf _ _ hargs
    apply Array.ext'
    simp [this]
  have run : ∀ (y : Value) (w' : World), (builtin b ats ty (xs.map fun | .const _ => true | _ => false) args.toArray).run C.P w' = .ok (.value y) w' → (execOp a.eval ⟨dst, .call ⟨.builtin b, xs, ats⟩, ty, pos, after, g⟩).run C.P w' = .ok (.value y) w' := fun y w' hr => by
    rw [BigFrame.execOp_builtin, hxs]
    exact hr
  obtain ⟨atl⟩ := ats
  simp only at h
  rcases hb with rfl | rfl | rfl
  · rcases atl with _ | ⟨t, _ | ⟨t', atl⟩⟩ <;> rcases args with _ | ⟨x, _ | ⟨x', args⟩⟩ <;> simp only [wBuiltin, wLen] at h
    split at h
    · rename_i _ _ _ s ht
      obtain ⟨dd, hd, hk⟩ := tiCell hC ht
      simp only [TKok] at hk
      subst hk
      exact ReadOk.pure _ _ h rfl fun w' => run _ w' (by simp [BigFrame.builtin_len, Builtin.len_, run_under hd, goInt])
    · rename_i e _ _ _ p n c ht
      obtain ⟨dd, hd, hk⟩ := tiCell hC ht
      simp only [TKok] at hk
      subst hk
      exact ReadOk.pure _ _ h rfl fun w' => run _ w' (by simp [BigFrame.builtin_len, Builtin.len_, run_under hd, goInt])
    · rename_i n e _ _ _ ht
      obtain ⟨dd, hd, hk⟩ := tiCell hC ht
      simp only [TKok] at hk
      subst hk
      exact ReadOk.pure _ _ h rfl fun w' => run _ w' (by simp [BigFrame.builtin_len, Builtin.len_, run_under hd, goInt])
    · exact h.elim
  · rcases args with _ | ⟨x, _ | ⟨y, _ | ⟨z, args⟩⟩⟩ <;> try (simp only [wBuiltin, wMax] at h)
    cases x <;> try (simp only at h)
    cases y <;> try (simp only at h)
    rename_i i x j y
    split at h
    · rename_i hij
      subst hij
      refine ReadOk.pure _ _ h rfl fun w' => run _ w' ?_
      have : max x y = if y > x then y else x := by rw [Int.max_def]; split <;> split <;> omega
      simp [BigFrame.builtin_max, Builtin.max_, Builtin.max2, this]
    · exact h.elim
  · rcases args with _ | ⟨x, _ | ⟨y, _ | ⟨z, args⟩⟩⟩ <;> try (simp only [wBuiltin, wMin] at h)
    cases x <;> try (simp only at h)
    cases y <;> try (simp only at h)
    rename_i i x j y
    split at h
    · rename_i hij
      subst hij
      refine ReadOk.pure _ _ h rfl fun w' => run _ w' ?_
      have : min x y = if y < x then y else x := by rw [Int.min_def]; split <;> split <;> omega
      simp [BigFrame.builtin_min, Builtin.min_, Builtin.min2, this]
    · exact h.elim

theorem read_op (hC : CtxOk C) (hm : MS u0 w0 ρ ls u w) (hf : FrOk ρ fr a) {o : Oper} {k : KO} (hr : isRead C o = true) (h : wOp C o fr ls u k) : ReadOk C.P ρ ls u w a o k := by
  obtain ⟨dst, op, ty, pos, after, g⟩ := o
  cases op <;> simp only [isRead, Bool.false_eq_true] at hr
  case move x => simp only [wOp] at h; exact ReadOk.pure _ _ h (ev_holds hf x) fun w' => by simp [execOp]
  case assign x => simp only [wOp] at h; exact ReadOk.pure _ _ h (ev_holds hf x) fun w' => by simp [execOp]
  case pick c x y =>
    simp only [wOp] at h
    split at h
    · rename_i hc
      exact ReadOk.pure _ _ h (ev_holds hf x) fun w' => by simp [execOp, ev_lit hf hc, asBool]
    · rename_i hc
      exact ReadOk.pure _ _ h (ev_holds hf y) fun w' => by simp [execOp, ev_lit hf hc, asBool]
    · rename_i t hc
      split at h
      · rename_i bx b_y hx hy
        refine ReadOk.pure _ _ h rfl fun w' => ?_
        cases t <;> simp [execOp, ev_v hf hc, asBool, asV_eval hf hx, asV_eval hf hy]
      · exact h.elim
    · exact h.elim
  case build t parts => exact read_build hC hf h
  case load t x => exact read_load hC hm hf h
  case nilCheck x =>
    simp only [wOp] at h
    split at h
    · rename_i ad hx
      exact ReadOk.pure _ _ h rfl fun w' => by simp [execOp, ev_v hf hx]
    · rename_i i off hx
      obtain ⟨b, hb, hx⟩ := ev_lp hf hx
      exact ReadOk.pure _ _ h ⟨b, hb, rfl⟩ fun w' => by simp [execOp, hx]
    · rename_i f x y hx
      exact ReadOk.pure _ _ h rfl fun w' => by simp [execOp, ev_v hf hx]
    · exact h.elim
  case binOp op t x y yt =>
    simp only [wOp] at h
    split at h
    · rename_i vx vy hx hy
      obtain ⟨v, hv, hrun⟩ := run_wBin hC (X := x) (Y := y) h
      refine ReadOk.pure _ v hv rfl fun w' => ?_
      have := hrun w'
      simp only [execOp, asV_eval hf hx, asV_eval hf hy]
      rw [Sem.run_bind, this]
      rfl
    · exact h.elim
  case unOp op t x =>
    simp only [wOp] at h
    split at h
    · rename_i b hx
      exact ReadOk.pure _ (.bool (!b)) h rfl fun w' => by simp [execOp, ev_lit hf hx, Op.unary]
    · rename_i b hx
      exact ReadOk.pure _ (.bool (!b)) h rfl fun w' => by simp [execOp, ev_v hf hx, Op.unary]
    · rename_i j n hx
      split at h
      · exact ReadOk.pure _ (.int j (j.wrap (0 - n))) h rfl fun w' => by simp [execOp, ev_v hf hx, Op.unary, Op.intArith]
      · exact ReadOk.pure _ (.int j (-n)) h.2 rfl fun w' => by simp [execOp, ev_v hf hx, Op.unary, Op.intArith, wrap_in h.1]
    · exact h.elim
  case convert s d x =>
    simp only [wOp] at h
    split at hr
    · rename_i k1 _ _ _ k2 _ _ _ hs hd
      split at h
      · rename_i y hy
        unfold wConvert at h
        rw [hs, hd] at h
        obtain ⟨d1, hd1, hk1⟩ := tiCell hC hs
        obtain ⟨d2, hd2, hk2⟩ := tiCell hC hd
        simp only [TKok] at hk1 hk2
        subst hk1 hk2
        cases y <;> try (exact h.elim)
        rename_i j n
        simp only at h
        split at h
        · exact ReadOk.pure _ _ h rfl fun w' => by simp [execOp, asV_eval hf hy, convert, run_under hd1, run_under hd2, Conv.intToInt]
        · exact ReadOk.pure _ _ h.2 rfl fun w' => by simp [execOp, asV_eval hf hy, convert, run_under hd1, run_under hd2, Conv.intToInt, wrap_in h.1]
      · exact h.elim
    · cases hr
  case makeFunc fn first captured =>
    simp only [wOp] at h
    split at h
    · rename_i x y hx hy
      refine ReadOk.pure _ _ h rfl fun w' => ?_
      have e1 : first.map a.eval = x.toArray := by apply Array.ext'; simp [asVs_eval hf _ _ hx]
      have e2 : captured.map a.eval = y.toArray := by apply Array.ext'; simp [asVs_eval hf _ _ hy]
      simp [execOp, Instr.makeFunc, e1, e2]
    · exact h.elim
  case slice t x lo hi mx =>
    cases mx with
    | some m => simp only [wOp] at h
    | none =>
      simp only [wOp] at h
      split at h
      · rename_i y l hh hx hlo hhi
        have e1 := optInt_spec hf hlo
        have e2 := optInt_spec hf hhi
        have e1' : (lo.map a.eval = none ∧ l = none) ∨ ∃ k n, l = some n ∧ lo.map a.eval = some (.int k n) := e1.imp (fun e => ⟨by rw [e.1]; rfl, e.2⟩) id
        have e2' : (hi.map a.eval = none ∧ hh = none) ∨ ∃ k n, hh = some n ∧ hi.map a.eval = some (.int k n) := e2.imp (fun e => ⟨by rw [e.1]; rfl, e.2⟩) id
        obtain ⟨v, hv, hrun⟩ := run_wSlice hC e1' e2' h
        refine ReadOk.pure _ v hv rfl fun w' => ?_
        simp [execOp, asV_eval hf hx, hrun]
      · exact h.elim
  case fieldAddr t x f => exact read_fieldAddr hC hf h
  case field t x f => exact read_field hC hf h
  case indexAddr t x i => exact read_indexAddr hC hf h
  case index t x i =>
    simp only [wOp] at h
    split at h
    · rename_i y k' n hy hi
      obtain ⟨v, hv, hrun⟩ := run_wIndex hC (k := k') h
      refine ReadOk.pure _ v hv rfl fun w' => ?_
      simp [execOp, asV_eval hf hy, ev_v hf hi, hrun]
    · exact h.elim
  case extract x i =>
    simp only [wOp] at h
    split at h
    · rename_i vs hx
      split at h
      · rename_i y hy
        refine ReadOk.pure _ y h rfl fun w' => ?_
        rw [Array.getElem?_toList] at hy
        simp [execOp, ev_v hf hx, Instr.extract, hy]
      · exact h.elim
    · exact h.elim
  case call c =>
    obtain ⟨callee, args, ats⟩ := c
    simp only [wOp] at h
    split at h
    · rename_i vs hvs
      cases callee with
      | builtin b =>
        simp only at h hr
        have hb : b = .len ∨ b = .max ∨ b = .min := by cases b <;> simp at hr <;> simp
        exact read_builtin hC hf hb hvs h
      | value f => simp at hr
      | invoke r m => simp at hr
    · exact h.elim

end
end Go.Proofs.Ytkmmphkjmamckaa
