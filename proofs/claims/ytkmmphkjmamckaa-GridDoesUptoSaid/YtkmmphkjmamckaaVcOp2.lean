/-
  Operations on values: what each comes to.
-/
import Derived.Test.YtkmmphkjmamckaaVcOp
namespace Go.Proofs.Ytkmmphkjmamckaa
open Go
set_option linter.all false

theorem tiCell {C : Ctx} (hC : CtxOk C) {t : TypeId} {ti : TI} (h : C.ti t = some ti) : ∃ d, C.P.underlying t = some d ∧ TKok ti.k d := (hC.ti _ _ h).under

theorem run_eqGuard_agg {C : Ctx} (hC : CtxOk C) {t : TypeId} (ht : eqTy C t = true) {op : BinOp} {X Y : Operand} {xs ys : Array Value} (hop : op = .eql ∨ op = .neq) (w : World) : (eqGuard op t X Y (.agg xs) (.agg ys)).run C.P w = .ok () w := by
  have h := (hC.eq t ht).2
  rcases hop with rfl | rfl <;> simp [eqGuard, h]

theorem run_wBin {C : Ctx} (hC : CtxOk C) {d : Option Tmp} {op : BinOp} {t : TypeId} {x y : Value} {X Y : Operand} {p : Value → Prop} (h : wBin C d op t x y p) :
    ∃ v, p v ∧ ∀ w, ((do eqGuard op t X Y x y; binOp op t x y) : Sem Value).run C.P w = .ok v w := by
  unfold wBin at h
  split at h
  · rename_i k a k' b
    split at h
    · rename_i hk
      subst hk
      obtain ⟨v, hv, hr⟩ := run_intArith (P := C.P) (t := t) h
      refine ⟨v, hv, fun w => ?_⟩
      rw [eqGuard_at_int]
      simp [hr]
    · exact h.elim
  · rename_i a b
    split at h
    · refine ⟨_, h.2, fun w => ?_⟩
      rw [eqGuard_at_string]
      have hm : ¬ ((a.size + b.size : Nat) : Int) > IntKind.i64.max := by rw [IntKind.max_i64]; have := h.1; omega
      simp only [Sem.run_bind, Sem.run_pure, Result.andThen_ok, binOp, Op.stringOp]
      rw [if_neg hm]
      rfl
    · refine ⟨_, h, fun w => ?_⟩
      rw [eqGuard_at_string]
      simp only [Sem.run_bind, Sem.run_pure, Result.andThen_ok, binOp, Op.stringOp, bytes_eq]
    · refine ⟨_, h, fun w => ?_⟩
      rw [eqGuard_at_string]
      simp only [Sem.run_bind, Sem.run_pure, Result.andThen_ok, binOp, Op.stringOp, bytes_eq]
    · exact h.elim
  · rename_i a b
    split at h
    · rename_i ht
      obtain ⟨dd, hd, hk⟩ := tiCell hC ht
      simp only [TKok] at hk
      subst hk
      refine ⟨_, h, fun w => ?_⟩
      rw [eqGuard_at_bool]
      simp only [Sem.run_bind, Sem.run_pure, Result.andThen_ok, binOp, Op.equal]
      obtain ⟨m, hm⟩ : ∃ m, Op.maxDepth = m + 1 := ⟨9999, rfl⟩
      rw [hm, Op.equalIn]
      simp only [Sem.run_bind, run_under hd, Result.andThen_ok, Sem.run_pure]
    · rename_i ht
      obtain ⟨dd, hd, hk⟩ := tiCell hC ht
      simp only [TKok] at hk
      subst hk
      refine ⟨_, h, fun w => ?_⟩
      rw [eqGuard_at_bool]
      simp only [Sem.run_bind, Sem.run_pure, Result.andThen_ok, binOp, Op.equal]
      obtain ⟨m, hm⟩ : ∃ m, Op.maxDepth = m + 1 := ⟨9999, rfl⟩
      rw [hm, Op.equalIn]
      simp only [Sem.run_bind, run_under hd, Result.andThen_ok, Sem.run_pure]
    · exact h.elim
  · rename_i xs ys
    split at h
    · split at h
      · rename_i hk
        simp only [Bool.and_eq_true] at hk
        refine ⟨_, h, fun w => ?_⟩
        simp only [Sem.run_bind, run_eqGuard_agg hC hk.1 (.inl rfl), Result.andThen_ok, binOp, run_equal_agg hC hk.1 hk.2, Sem.run_pure]
      · exact h.elim
    · split at h
      · rename_i hk
        simp only [Bool.and_eq_true] at hk
        refine ⟨_, h, fun w => ?_⟩
        simp only [Sem.run_bind, run_eqGuard_agg hC hk.1 (.inr rfl), Result.andThen_ok, binOp, run_equal_agg hC hk.1 hk.2, Sem.run_pure]
      · exact h.elim
    · exact h.elim
  · rename_i a
    split at h
    · rename_i e _ _ _ ht
      obtain ⟨dd, hd, hk⟩ := tiCell hC ht
      simp only [TKok] at hk
      subst hk
      refine ⟨_, h, fun w => ?_⟩
      rw [eqGuard_at_pointer]
      simp only [Sem.run_bind, Sem.run_pure, Result.andThen_ok, binOp, Op.equal]
      obtain ⟨m, hm⟩ : ∃ m, Op.maxDepth = m + 1 := ⟨9999, rfl⟩
      rw [hm, Op.equalIn]
      cases a <;> simp only [Sem.run_bind, run_under hd, Result.andThen_ok, Sem.run_pure] <;> rfl
    · rename_i e _ _ _ ht
      obtain ⟨dd, hd, hk⟩ := tiCell hC ht
      simp only [TKok] at hk
      subst hk
      refine ⟨_, h, fun w => ?_⟩
      rw [eqGuard_at_pointer]
      simp only [Sem.run_bind, Sem.run_pure, Result.andThen_ok, binOp, Op.equal]
      obtain ⟨m, hm⟩ : ∃ m, Op.maxDepth = m + 1 := ⟨9999, rfl⟩
      rw [hm, Op.equalIn]
      cases a <;> simp only [Sem.run_bind, run_under hd, Result.andThen_ok, Sem.run_pure] <;> rfl
    · exact h.elim
  · rename_i a na ca nb cb
    split at h
    · rename_i e _ _ _ ht
      obtain ⟨dd, hd, hk⟩ := tiCell hC ht
      simp only [TKok] at hk
      subst hk
      refine ⟨_, h, fun w => ?_⟩
      rw [eqGuard_at_slice]
      simp only [Sem.run_bind, Sem.run_pure, Result.andThen_ok, binOp, Op.equal]
      obtain ⟨m, hm⟩ : ∃ m, Op.maxDepth = m + 1 := ⟨9999, rfl⟩
      rw [hm, Op.equalIn]
      cases a <;> simp only [Sem.run_bind, run_under hd, Result.andThen_ok, Sem.run_pure] <;> rfl
    · rename_i e _ _ _ ht
      obtain ⟨dd, hd, hk⟩ := tiCell hC ht
      simp only [TKok] at hk
      subst hk
      refine ⟨_, h, fun w => ?_⟩
      rw [eqGuard_at_slice]
      simp only [Sem.run_bind, Sem.run_pure, Result.andThen_ok, binOp, Op.equal]
      obtain ⟨m, hm⟩ : ∃ m, Op.maxDepth = m + 1 := ⟨9999, rfl⟩
      rw [hm, Op.equalIn]
      cases a <;> simp only [Sem.run_bind, run_under hd, Result.andThen_ok, Sem.run_pure] <;> rfl
    · exact h.elim
  · exact h.elim

theorem run_sliceBound {P : Program} {k : IntKind} {i : Int} {y : Nat} {c : BoundsCode} (h0 : 0 ≤ i) (h1 : i ≤ y) (w : World) : (Instr.sliceBound (.int k i) y c).run P w = .ok i.toNat w := by
  simp [Instr.sliceBound, asIntOf, h0, h1]

theorem optInt_spec {ρ : List Nat} {fr : List SV} {a : Act} (h : FrOk ρ fr a) {x : Option Operand} {r : Option Int} (hx : optInt fr x = some r) :
    (x = none ∧ r = none) ∨ ∃ k n, r = some n ∧ x.map a.eval = some (.int k n) := by
  unfold optInt at hx
  split at hx
  · simp only [Option.some.injEq] at hx
    exact .inl ⟨rfl, hx.symm⟩
  · rename_i x
    split at hx
    · rename_i k n hv
      simp only [Option.some.injEq] at hx
      exact .inr ⟨k, n, hx.symm, by rw [Option.map_some, ev_v h hv]⟩
    · cases hx

theorem run_sliceBounds {P : Program} {b : Bool} {len cap : Nat} {lo hi : Option Value} {l hh : Option Int} (hlo : (lo = none ∧ l = none) ∨ ∃ k n, l = some n ∧ lo = some (.int k n)) (hhi : (hi = none ∧ hh = none) ∨ ∃ k n, hh = some n ∧ hi = some (.int k n))
    (h0 : 0 ≤ l.getD 0) (h1 : l.getD 0 ≤ hh.getD (len : Nat)) (h2 : hh.getD (len : Nat) ≤ (cap : Nat)) (hl : hi = none → len ≤ cap) (w : World) :
    (Instr.sliceBounds b len cap lo hi none).run P w = .ok ((l.getD 0).toNat, (hh.getD (len : Nat)).toNat, cap) w := by
  unfold Instr.sliceBounds
  rcases hhi with ⟨rfl, rfl⟩ | ⟨k2, n2, rfl, rfl⟩
  · rcases hlo with ⟨rfl, rfl⟩ | ⟨k1, n1, rfl, rfl⟩
    · simp
    · simp only [Option.getD_some, Option.getD_none] at h0 h1 h2
      simp [run_sliceBound h0 h1]
  · rcases hlo with ⟨rfl, rfl⟩ | ⟨k1, n1, rfl, rfl⟩
    · simp only [Option.getD_some, Option.getD_none] at h0 h1 h2
      simp [run_sliceBound h1 h2]
    · simp only [Option.getD_some] at h0 h1 h2
      have e : ((n2.toNat : Nat) : Int) = n2 := by omega
      simp [run_sliceBound (by omega : 0 ≤ n2) h2, run_sliceBound (y := n2.toNat) h0 (by omega)]

theorem run_wSlice {C : Ctx} (hC : CtxOk C) {t : TypeId} {x : Value} {lo hi : Option Value} {l hh : Option Int} (hlo : (lo = none ∧ l = none) ∨ ∃ k n, l = some n ∧ lo = some (.int k n)) (hhi : (hi = none ∧ hh = none) ∨ ∃ k n, hh = some n ∧ hi = some (.int k n))
    {p : Value → Prop} (h : wSlice C t x l hh p) : ∃ v, p v ∧ ∀ w, (Instr.sliceAt t x lo hi none).run C.P w = .ok v w := by
  unfold wSlice at h
  split at h
  · rename_i s _ _ _ ht
    obtain ⟨dd, hd, hk⟩ := tiCell hC ht
    simp only [TKok] at hk
    subst hk
    obtain ⟨h0, h1, h2, h3⟩ := h
    refine ⟨_, h3, fun w => ?_⟩
    simp [Instr.sliceAt, run_under hd, Instr.slice, run_sliceBounds hlo hhi h0 h1 h2 (fun _ => Nat.le_refl _)]
  · rename_i pp n c e _ _ _ ht
    obtain ⟨dd, hd, hk⟩ := tiCell hC ht
    simp only [TKok] at hk
    subst hk
    split at h
    · rename_i e' ei he
      obtain ⟨hti, _, _, hcase⟩ := elemTI_spec hC he
      have hee : e' = e := by
        rcases hcase with ⟨_, _, _, hu⟩ | ⟨_, _, _, _, hu⟩
        · rw [hd] at hu; simpa using hu.symm
        · rw [hd] at hu; simp at hu
      subst hee
      obtain ⟨h0, h1, h2, h3⟩ := h
      refine ⟨_, h3, fun w => ?_⟩
      have hl : hi = none → n ≤ c := fun e => by
        rcases hhi with ⟨_, rfl⟩ | ⟨_, _, _, rfl⟩
        · simp at h2; omega
        · cases e
      simp [Instr.sliceAt, run_under hd, Instr.slice, run_sliceBounds hlo hhi h0 h1 h2 hl, run_sizeOf hti]
    · exact h.elim
  · exact h.elim

theorem run_wIndex {C : Ctx} (hC : CtxOk C) {t : TypeId} {x : Value} {k : IntKind} {i : Int} {p : Value → Prop} (h : wIndex C t x i p) : ∃ v, p v ∧ ∀ w, (Instr.index t x (.int k i)).run C.P w = .ok v w := by
  unfold wIndex at h
  split at h
  · rename_i s _ _ _ ht
    obtain ⟨dd, hd, hk⟩ := tiCell hC ht
    simp only [TKok] at hk
    subst hk
    obtain ⟨h0, c, hc, h1⟩ := h
    refine ⟨_, h1, fun w => ?_⟩
    have hg : s[i.toNat]? = some c := by
      obtain ⟨hlt, hx⟩ := List.getElem?_eq_some_iff.1 hc
      have hlt' : i.toNat < s.size := hlt
      rw [getElem?_pos s i.toNat hlt']
      exact congrArg some hx
    simp [Instr.index, run_under hd, asIntOf, h0, hg]
  · rename_i cs n e _ _ _ ht
    obtain ⟨dd, hd, hk⟩ := tiCell hC ht
    simp only [TKok] at hk
    subst hk
    split at h
    · rename_i e' ei he
      obtain ⟨hti, hz, _, hcase⟩ := elemTI_spec hC he
      have hee : e' = e := by
        rcases hcase with ⟨_, _, _, hu⟩ | ⟨_, _, _, _, hu⟩
        · rw [hd] at hu; simp at hu
        · rw [hd] at hu; simp at hu; exact hu.2.symm
      subst hee
      obtain ⟨h0, h1, xs, hx, h2⟩ := h
      by_cases ha : ei.isAgg = true
      · rw [if_pos ha] at h2
        refine ⟨_, h2, fun w => ?_⟩
        have := run_part hti (w := w) hx hz
        simp [Instr.index, run_under hd, asIntOf, h0, h1, run_sizeOf hti, this, ha]
      · rw [if_neg ha] at h2
        obtain ⟨y, rfl, h2⟩ := h2
        refine ⟨_, h2, fun w => ?_⟩
        have := run_part hti (w := w) hx hz
        simp [Instr.index, run_under hd, asIntOf, h0, h1, run_sizeOf hti, this, ha]
    · exact h.elim
  · exact h.elim

/-! ### A struct or an array out of its parts -/

theorem fold_fill (off : Nat) : ∀ (l : List Value) (s : Nat) (acc : Array Value) (j : Nat), off + s + l.length ≤ acc.size →
    ((l.zipIdx s).foldl (fun cs (x : Value × Nat) => cs.setIfInBounds (off + x.2) x.1) acc).size = acc.size ∧
    ((l.zipIdx s).foldl (fun cs (x : Value × Nat) => cs.setIfInBounds (off + x.2) x.1) acc)[j]? = if off + s ≤ j ∧ j < off + s + l.length then l[j - (off + s)]? else acc[j]?
  | [], s, acc, j, _ => by simp; omega
  | x :: l, s, acc, j, h => by
    simp only [List.zipIdx_cons, List.foldl_cons]
    simp only [List.length_cons] at h
    obtain ⟨h1, h2⟩ := fold_fill off l (s + 1) (acc.setIfInBounds (off + s) x) j (by simp; omega)
    refine ⟨by rw [h1]; simp, ?_⟩
    rw [h2]
    by_cases hj : off + (s + 1) ≤ j ∧ j < off + (s + 1) + l.length
    · rw [if_pos hj, if_pos (by simp; omega), show j - (off + s) = (j - (off + (s + 1))) + 1 by omega, List.getElem?_cons_succ]
    · rw [if_neg hj]
      by_cases he : j = off + s
      · subst he
        rw [if_pos (by simp)]
        rw [Array.getElem?_setIfInBounds_self_of_lt (by omega), Nat.sub_self]
        rfl
      · rw [if_neg (by simp; omega), Array.getElem?_setIfInBounds_ne (by omega)]

theorem fill_put {cells : List Value} {off : Nat} {ys r : List Value} (h : putN cells off ys = some r) (hne : off + ys.length ≤ cells.length) :
    ys.toArray.zipIdx.foldl (fun cs (c, j) => cs.setIfInBounds (off + j) c) cells.toArray = r.toArray := by
  obtain ⟨h1, h2, h3⟩ := putN_spec cells off ys r h
  have e : ys.toArray.zipIdx.foldl (fun cs (x : Value × Nat) => cs.setIfInBounds (off + x.2) x.1) cells.toArray = (ys.zipIdx 0).foldl (fun cs (x : Value × Nat) => cs.setIfInBounds (off + x.2) x.1) cells.toArray := by
    rw [← Array.foldl_toList]
    congr 1
    simp
  refine (show _ = _ from e).trans ?_
  apply Array.ext'
  apply List.ext_getElem?
  intro j
  have := (fold_fill off ys 0 cells.toArray j (by simpa using hne)).2
  simp only [Nat.add_zero] at this
  rw [Array.getElem?_toList, this, h3]
  simp

theorem fill_spec {C : Ctx} (hC : CtxOk C) {t : TypeId} {place : Nat → Option (Nat × Nat)} (hpl : ∀ i off ti, (match C.ti t with
      | some { k := .struct _, .. } => fieldAtN C t i
      | some { k := .array _ _, .. } | some { k := .slice _, .. } => (elemTI C t).map fun (e : TypeId × TI) => (i * e.2.size, e.2)
      | _ => none) = some (off, ti) → place i = some (off, ti.size)) : ∀ (l : List (Nat × Value)) (cells r : List Value), fillN C t cells l = some r → Instr.fill place cells.toArray l = some r.toArray
  | [], cells, r, h => by
    simp only [fillN, Option.some.injEq] at h
    simp [Instr.fill, h]
  | (i, y) :: l, cells, r, h => by
    simp only [fillN] at h
    split at h
    · rename_i off ti hm
      split at h
      · rename_i hz
        have hz' := Nat.eq_of_beq_eq_true hz
        split at h
        · rename_i cells' hp
          have hplace := hpl i off ti hm
          have hsz : y.cells.size = ti.size := by rw [← hz']; simp
          obtain ⟨_, h2, _⟩ := putN_spec _ _ _ _ hp
          have hpos : ti.size ≠ 0 := by
            split at hm
            · unfold fieldAtN at hm
              split at hm
              · split at hm
                · split at hm
                  · split at hm
                    · cases hm
                    · rename_i hnz
                      simp only [Option.some.injEq, Prod.mk.injEq] at hm
                      obtain ⟨_, rfl⟩ := hm
                      intro e
                      rw [e] at hnz
                      exact hnz rfl
                  · cases hm
                · cases hm
              · cases hm
            · cases he : elemTI C t with
              | none => rw [he] at hm; cases hm
              | some e =>
                rw [he] at hm
                simp only [Option.map_some, Option.some.injEq, Prod.mk.injEq] at hm
                obtain ⟨_, rfl⟩ := hm
                exact (elemTI_spec hC (e := e.1) (ei := e.2) he).2.1
            · cases he : elemTI C t with
              | none => rw [he] at hm; cases hm
              | some e =>
                rw [he] at hm
                simp only [Option.map_some, Option.some.injEq, Prod.mk.injEq] at hm
                obtain ⟨_, rfl⟩ := hm
                exact (elemTI_spec hC (e := e.1) (ei := e.2) he).2.1
            · cases hm
          have hne : y.cells.toList ≠ [] := fun e => hpos (by rw [← hz', e]; rfl)
          rw [if_neg hne] at h2
          have hle : off + y.cells.toList.length ≤ cells.length := by omega
          have hle' : off + y.cells.size ≤ cells.length := by simpa using hle
          simp only [Instr.fill, hplace, hsz]
          rw [hsz] at hle'
          simp only [List.size_toArray]
          rw [if_neg (by simp; omega)]
          have := fill_put hp hle
          rw [Array.toArray_toList] at this
          rw [this]
          exact fill_spec hC hpl l cells' r h
        · cases h
      · cases h
    · cases h

end Go.Proofs.Ytkmmphkjmamckaa
