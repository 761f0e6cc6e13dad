/-
  An operation that leaves the world alone: what its part of the proposition says is what it does.
-/
import Derived.Test.YtkmmphkjmamckaaVcRun
namespace Go.Proofs.Ytkmmphkjmamckaa
open Go
set_option linter.all false

def SV.holds (ρ : List Nat) : SV → Value → Prop
  | .v x, y => y = x
  | .lit b, y => y = .bool b
  | .lp i off, y => ∃ b, ρ[i]? = some b ∧ y = .pointer (some ⟨b, off, none⟩)
  | .junk, _ => True

structure FrOk (ρ : List Nat) (fr : List SV) (a : Act) : Prop where
  defers : a.defers = []
  size : a.tmps.size = fr.length
  slot : ∀ (t : Nat) s y, fr[t]? = some s → a.tmps[t]? = some y → s.holds ρ y

structure MS (u0 w0 : World) (ρ : List Nat) (ls : List Loc) (u w : World) : Prop where
  le : Le u w
  kept : Kept u0 w0 u w
  sz : u0.heap.size ≤ u.heap.size
  len : ρ.length = ls.length
  nodup : ρ.Nodup
  own : ∀ (i : Nat) l b, ls[i]? = some l → ρ[i]? = some b → u.heap[b]? = some hole ∧ w.heap[b]? = some (.cells l.cells.toArray l.ty (0, 0))
  new : ∀ b ∈ ρ, u0.heap.size ≤ b

theorem ev_holds {ρ : List Nat} {fr : List SV} {a : Act} (h : FrOk ρ fr a) (x : Operand) : (ev fr x).holds ρ (a.eval x) := by
  cases x with
  | tmp t =>
    simp only [ev, Act.eval]
    rw [List.getD_eq_getElem?_getD]
    cases hf : fr[t]? with
    | none => exact trivial
    | some s =>
      have hlt : t < fr.length := (List.getElem?_eq_some_iff.1 hf).1
      have hlt' : t < a.tmps.size := by rw [h.size]; exact hlt
      have := h.slot t s _ hf (Array.getElem?_eq_getElem hlt')
      simpa [Array.getD, hlt'] using this
  | const v => cases v <;> simp [ev, Act.eval, SV.holds]
  | global g => rfl
  | func f => rfl

theorem asV_eval {ρ : List Nat} {fr : List SV} {a : Act} (h : FrOk ρ fr a) {x : Operand} {y : Value} (hx : asV (ev fr x) = some y) : a.eval x = y := by
  have := ev_holds h x
  revert hx this
  cases ev fr x <;> simp [asV, SV.holds]
  · intro h1 h2; rw [h2, h1]
  · intro h1 h2; rw [h2, h1]

theorem ev_v {ρ : List Nat} {fr : List SV} {a : Act} (h : FrOk ρ fr a) {x : Operand} {y : Value} (hx : ev fr x = .v y) : a.eval x = y := asV_eval h (by rw [hx]; rfl)
theorem ev_lit {ρ : List Nat} {fr : List SV} {a : Act} (h : FrOk ρ fr a) {x : Operand} {b : Bool} (hx : ev fr x = .lit b) : a.eval x = .bool b := asV_eval h (by rw [hx]; rfl)
theorem ev_lp {ρ : List Nat} {fr : List SV} {a : Act} (h : FrOk ρ fr a) {x : Operand} {i off : Nat} (hx : ev fr x = .lp i off) : ∃ b, ρ[i]? = some b ∧ a.eval x = .pointer (some ⟨b, off, none⟩) := by
  have := ev_holds h x
  rw [hx] at this
  exact this

theorem asVs_eval {ρ : List Nat} {fr : List SV} {a : Act} (h : FrOk ρ fr a) : ∀ (xs : List Operand) (ys : List Value), asVs fr xs = some ys → xs.map a.eval = ys
  | [], ys, hx => by simp only [asVs, Option.some.injEq] at hx; simp [← hx]
  | x :: xs, ys, hx => by
    simp only [asVs] at hx
    split at hx
    · rename_i y l hy hl
      simp only [Option.some.injEq] at hx
      rw [← hx, List.map_cons, asV_eval h hy, asVs_eval h xs l hl]
    · cases hx

theorem partsV_eval {ρ : List Nat} {fr : List SV} {a : Act} (h : FrOk ρ fr a) : ∀ (xs : List (Nat × Operand)) (ys : List (Nat × Value)), partsV fr xs = some ys → (xs.map fun (i, x) => (i, a.eval x)) = ys
  | [], ys, hx => by simp only [partsV, Option.some.injEq] at hx; simp [← hx]
  | (i, x) :: xs, ys, hx => by
    simp only [partsV] at hx
    split at hx
    · rename_i y l hy hl
      simp only [Option.some.injEq] at hx
      rw [← hx, List.map_cons]
      show (i, a.eval x) :: _ = _
      rw [asV_eval h hy, partsV_eval h xs l hl]
    · cases hx

/-! ### Arithmetic and comparisons -/

theorem wrap_in {k : IntKind} {n : Int} (h : inK k n) : k.wrap n = n := by
  cases k <;> simp only [inK] at h
  case i64 => exact IntWalk.i64_in n h
  case u8 => exact IntWalk.u8_in n h
  all_goals exact h

theorem inK_div {k : IntKind} {a b : Int} (h : inK k a) (ha : 0 ≤ a) (hb : 0 < b) : k.wrap (a / b) = a / b := by
  have h1 : 0 ≤ a / b := Int.ediv_nonneg ha (by omega)
  have h2 : a / b ≤ a := Int.ediv_le_self _ ha
  have h0 := wrap_in h
  have key : k.min ≤ a ∧ a ≤ k.max := by
    rw [← h0]
    cases k <;> simp [IntKind.min, IntKind.max, IntKind.wrap, IntKind.bits, IntKind.signed] <;> (try split) <;> omega
  cases k <;> simp [IntKind.min, IntKind.max, IntKind.bits, IntKind.signed] at key <;> simp [IntKind.wrap, IntKind.bits, IntKind.signed] <;> (try split) <;> omega

theorem run_intArith {P : Program} {op : BinOp} {t : TypeId} {k : IntKind} {a b : Int} {C : Ctx} {d : Option Tmp} {p : Value → Prop} (h : wInt C d op k a b p) :
    ∃ v, p v ∧ ∀ w, (binOp op t (.int k a) (.int k b)).run P w = .ok v w := by
  cases op <;> simp only [wInt] at h
  case add =>
    split at h
    · exact ⟨_, h, fun w => by simp [binOp, Op.intArith]⟩
    · exact ⟨_, h.2, fun w => by simp [binOp, Op.intArith, wrap_in h.1]⟩
  case sub =>
    split at h
    · exact ⟨_, h, fun w => by simp [binOp, Op.intArith]⟩
    · exact ⟨_, h.2, fun w => by simp [binOp, Op.intArith, wrap_in h.1]⟩
  case mul =>
    split at h
    · exact ⟨_, h, fun w => by simp [binOp, Op.intArith]⟩
    · exact ⟨_, h.2, fun w => by simp [binOp, Op.intArith, wrap_in h.1]⟩
  case quo =>
    split at h
    · exact ⟨_, h.2, fun w => by simp [binOp, Op.intDiv, h.1]⟩
    · obtain ⟨h1, h2, h3, h4⟩ := h
      refine ⟨_, h4, fun w => ?_⟩
      have hb : b ≠ 0 := by omega
      simp [binOp, Op.intDiv, hb, Int.tdiv_eq_ediv_of_nonneg h1, inK_div h3 h1 h2]
  case rem =>
    split at h
    · exact ⟨_, h.2, fun w => by simp [binOp, Op.intDiv, h.1]⟩
    · obtain ⟨h1, h2, h4⟩ := h
      refine ⟨_, h4, fun w => ?_⟩
      have hb : b ≠ 0 := by omega
      simp [binOp, Op.intDiv, hb, Int.tmod_eq_emod_of_nonneg h1]
  case eql => exact ⟨_, h, fun w => by simp [binOp, Op.intCmp]; rfl⟩
  case neq => exact ⟨_, h, fun w => by simp [binOp, Op.intCmp]; rfl⟩
  case lss => exact ⟨_, h, fun w => by simp [binOp, Op.intCmp]⟩
  case leq => exact ⟨_, h, fun w => by simp [binOp, Op.intCmp]⟩
  case gtr => exact ⟨_, h, fun w => by simp [binOp, Op.intCmp]⟩
  case geq => exact ⟨_, h, fun w => by simp [binOp, Op.intCmp]⟩

theorem run_part_one {P : Program} {t : TypeId} {ti : TI} (h : TIok P t ti) (ha : ti.isAgg = false) {w : World} {cs : Array Value} {off : Nat} {x : Value} (hx : cs[off]? = some x) : (part t cs off).run P w = .ok x w := by
  simp [part, run_isAgg h, ha, hx]

theorem scalar_spec {C : Ctx} (hC : CtxOk C) {t : TypeId} (h : scalar C.T t = true) : ∃ ti, C.ti t = some ti ∧ TIok C.P t ti ∧ ti.isAgg = false ∧
    ((∃ k, ti.k = .cell (.int k) ∧ C.P.underlying t = some (.int k)) ∨ (ti.k = .cell .bool ∧ C.P.underlying t = some .bool) ∨ (ti.k = .cell .str ∧ C.P.underlying t = some .string)) := by
  unfold scalar at h
  split at h
  · rename_i k _ _ _ ht
    have hti := hC.ti t _ ht
    obtain ⟨d, hd, hk⟩ := hti.under
    exact ⟨_, ht, hti, rfl, .inl ⟨k, rfl, by rw [hd]; simpa [TKok] using hk⟩⟩
  · rename_i _ _ _ ht
    have hti := hC.ti t _ ht
    obtain ⟨d, hd, hk⟩ := hti.under
    exact ⟨_, ht, hti, rfl, .inr (.inl ⟨rfl, by rw [hd]; simpa [TKok] using hk⟩)⟩
  · rename_i _ _ _ ht
    have hti := hC.ti t _ ht
    obtain ⟨d, hd, hk⟩ := hti.under
    exact ⟨_, ht, hti, rfl, .inr (.inr ⟨rfl, by rw [hd]; simpa [TKok] using hk⟩)⟩
  · cases h

theorem bytes_eq (a b : ByteArray) : (a.toList == b.toList) = decide (a.data.toList = b.data.toList) := by
  rw [ByteArray.toList_eq, ByteArray.toList_eq, Bool.eq_iff_iff, beq_iff_eq, decide_eq_true_iff]

theorem byteArray_beq (a b : ByteArray) : (a == b) = decide (a.data.toList = b.data.toList) := by
  show (a.data == b.data) = _
  by_cases h : a.data = b.data
  · simp [h]
  · have h' : ¬ a.data.toList = b.data.toList := fun e => h (Array.ext' e)
    rw [decide_eq_false h', beq_eq_false_iff_ne]
    exact h

/-- Two values of a scalar type, of the same kind. -/
theorem run_equal_one {C : Ctx} (hC : CtxOk C) {t : TypeId} (hs : scalar C.T t = true) {x y : Value} (hk : (match tiOf C.T t, x, y with
     | some { k := .cell (.int _), .. }, .int k _, .int k' _ => decide (k = k')
     | some { k := .cell .bool, .. }, .bool _, .bool _ => true
     | some { k := .cell .str, .. }, .string _, .string _ => true
     | _, _, _ => false) = true) (d : Nat) (w : World) : (Op.equalIn (d + 1) t x y).run C.P w = .ok (eqV x y) w := by
  obtain ⟨ti, ht, _, _, h⟩ := scalar_spec hC hs
  unfold Ctx.ti at ht
  rw [ht] at hk
  obtain ⟨tk, s, bt, z⟩ := ti
  rcases h with ⟨k, rfl, hu⟩ | ⟨rfl, hu⟩ | ⟨rfl, hu⟩
  · cases x <;> cases y <;> simp only [Bool.false_eq_true] at hk
    simp only [decide_eq_true_eq] at hk
    subst hk
    simp only [Op.equalIn, Sem.run_bind, run_under hu, Result.andThen_ok, if_true, Sem.run_pure, eqV]
    rfl
  · cases x <;> cases y <;> simp only [Bool.false_eq_true] at hk
    simp only [Op.equalIn, Sem.run_bind, run_under hu, Result.andThen_ok, Sem.run_pure, eqV]
  · cases x <;> cases y <;> simp only [Bool.false_eq_true] at hk
    simp only [Op.equalIn, Sem.run_bind, run_under hu, Result.andThen_ok, Sem.run_pure, eqV, byteArray_beq]

theorem run_equal_fields {C : Ctx} (hC : CtxOk C) {xs ys : Array Value} (d : Nat) (w : World) : ∀ (F : List Field) (i : Nat) (xl yl : List Value),
    (∀ f ∈ F, f.name ≠ "_") → scalars C.T i (F.map fun f => (f.offset, f.type)) = true → sameKinds C.T (F.map fun f => (f.offset, f.type)) xl yl = true →
    (∀ j v, xl[j]? = some v → xs[i + j]? = some v) → (∀ j v, yl[j]? = some v → ys[i + j]? = some v) → xl ≠ [] →
    ((forIn F ((none, ()) : Option Bool × Unit) fun f _ => (do
      if f.name ≠ "_" then
        if !(← Op.equalIn (d + 1) f.type (← part f.type xs f.offset) (← part f.type ys f.offset)) then pure (ForInStep.done (some false, ()))
        else pure (ForInStep.yield (none, ()))
      else pure (ForInStep.yield (none, ())) : Sem (ForInStep (Option Bool × Unit)))).run C.P w) = .ok ((if eqVs xl yl then none else some false), ()) w
  | [], i, xl, yl, _, _, hk, _, _, hne => by
    cases xl <;> cases yl <;> simp [sameKinds] at hk
    exact absurd rfl hne
  | f :: F, i, xl, yl, hn, hs, hk, hx, hy, hne => by
    cases xl with
    | nil => exact absurd rfl hne
    | cons x xl =>
      cases yl with
      | nil => simp [sameKinds] at hk
      | cons y yl =>
        simp only [List.map_cons, scalars, Bool.and_eq_true] at hs
        obtain ⟨⟨hoff, hsc⟩, hs'⟩ := hs
        have hoff' : f.offset = i := Nat.eq_of_beq_eq_true hoff
        simp only [List.map_cons, sameKinds, Bool.and_eq_true] at hk
        obtain ⟨hk1, hk'⟩ := hk
        obtain ⟨ti, ht, hti, hagg, _⟩ := scalar_spec hC hsc
        have hx0 : xs[f.offset]? = some x := by rw [hoff']; simpa using hx 0 x rfl
        have hy0 : ys[f.offset]? = some y := by rw [hoff']; simpa using hy 0 y rfl
        have hname := hn f (by simp)
        rw [List.forIn_cons]
        simp only [Sem.run_bind, ne_eq, hname, not_false_eq_true, if_true, run_part_one hti hagg hx0, run_part_one hti hagg hy0, Result.andThen_ok, run_equal_one hC hsc hk1]
        have hxs' : ∀ j v, xl[j]? = some v → xs[i + 1 + j]? = some v := fun j v hj => by have := hx (j + 1) v (by simpa using hj); rwa [show i + (j + 1) = i + 1 + j by omega] at this
        have hys' : ∀ j v, yl[j]? = some v → ys[i + 1 + j]? = some v := fun j v hj => by have := hy (j + 1) v (by simpa using hj); rwa [show i + (j + 1) = i + 1 + j by omega] at this
        cases he : eqV x y with
        | false =>
          simp only [Bool.not_false, if_true, Sem.run_pure, Result.andThen_ok]
          congr 2
          cases xl <;> cases yl <;> simp [eqVs, he]
        | true =>
          simp only [Bool.not_true, Bool.false_eq_true, if_false, Sem.run_pure, Result.andThen_ok]
          cases xl with
          | nil =>
            cases yl with
            | nil =>
              cases F with
              | nil => simp [eqVs, he]
              | cons f' F' => simp [sameKinds] at hk'
            | cons y' yl' => cases F <;> simp [sameKinds] at hk'
          | cons x' xl' =>
            cases yl with
            | nil => cases F <;> simp [sameKinds] at hk'
            | cons y' yl' =>
              rw [run_equal_fields hC d w F (i + 1) (x' :: xl') (y' :: yl') (fun f hf => hn f (by simp [hf])) hs' hk' hxs' hys' (by simp)]
              simp [eqVs, he]

theorem run_equal_agg {C : Ctx} (hC : CtxOk C) {t : TypeId} {xs ys : Array Value} (ht : eqTy C t = true) (hk : eqKinds C t xs.toList ys.toList = true) (w : World) :
    (Op.equal t (.agg xs) (.agg ys)).run C.P w = .ok (eqVs xs.toList ys.toList) w := by
  have hheld := (hC.eq t ht).1
  unfold eqTy at ht
  unfold eqKinds at hk
  split at ht
  · rename_i f0 fs _ _ _ hti
    rw [hti] at hk
    simp only at hk
    obtain ⟨d, hd, F, rfl, hF, hn⟩ := (hC.ti _ _ hti).under
    have hn' : ∀ f ∈ F.toList, f.name ≠ "_" := fun f hf => by
      have := List.all_eq_true.1 hn f hf
      simpa using this
    have hne : xs.toList ≠ [] := by
      intro e
      rw [e] at hk
      simp [sameKinds] at hk
    rw [← hF] at ht hk
    obtain ⟨m, hm⟩ : ∃ m, Op.maxDepth = m + 1 + 1 := ⟨9998, rfl⟩
    unfold Op.equal
    rw [hm]
    have key := run_equal_fields hC (xs := xs) (ys := ys) m w F.toList 0 xs.toList ys.toList hn' ht hk (fun j v hj => by simpa using hj) (fun j v hj => by simpa using hj) hne
    rw [Op.equalIn]
    simp only [Sem.run_bind, run_under hd, Result.andThen_ok, run_program, hheld, Bool.false_eq_true, if_false]
    rw [← Array.forIn_toList]
    refine (congrArg (fun r => Result.andThen r _) key).trans ?_
    simp only [Result.andThen_ok]
    cases eqVs xs.toList ys.toList <;> rfl
  · cases ht

end Go.Proofs.Ytkmmphkjmamckaa
