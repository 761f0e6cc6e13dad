/-
  What the model's operations come to, at values written out.
-/
import Derived.Test.YtkmmphkjmamckaaVcMem
namespace Go.Proofs.Ytkmmphkjmamckaa
open Go
set_option linter.all false

def TKok : TK → TypeDesc → Prop
  | .cell (.int k), d => d = .int k
  | .cell .bool, d => d = .bool
  | .cell .str, d => d = .string
  | .cell .func, d => ∃ p r v, d = .func p r v
  | .cell _, _ => False
  | .slice e, d => d = .slice e
  | .ptr e, d => d = .pointer e
  | .struct fs, d => ∃ F : Array Field, d = .struct F ∧ (F.toList.map fun f => (f.offset, f.type)) = fs ∧ (F.toList.all fun f => f.name != "_") = true
  | .array n e, d => d = .array n e
  | .tuple _, d => ∃ ts, d = .tuple ts
  | .other, _ => False

structure TIok (P : Program) (t : TypeId) (ti : TI) : Prop where
  info : ∃ i, P.info? t = some i ∧ i.size = ti.size ∧ i.bytes = ti.bytes
  zero : (match ti.k with | .tuple _ => True | _ => ∃ i z, P.info? t = some i ∧ i.zero = some z ∧ z.cells = ti.zero.toArray)
  zlen : (match ti.k with | .tuple _ => True | _ => ti.zero.length = ti.size)
  under : ∃ d, P.underlying t = some d ∧ TKok ti.k d

structure CtxOk (C : Ctx) : Prop where
  ti : ∀ t ti, C.ti t = some ti → TIok C.P t ti
  mixed : C.P.follows .mixedOrders = true
  fn : ∀ id, memN C.fns id = true → ∃ fn, C.P.funcs[id]? = some fn ∧ (fn.name == "runtime.NumGoroutine") = false ∧ fn.body.isNone = false
  eq : ∀ t, eqTy C t = true → C.P.stoodInHeld t = false ∧ C.P.eqGuardType C.P.depth t = false

section
variable {P : Program} {t : TypeId} {ti : TI}

theorem run_under {d : TypeDesc} (h : P.underlying t = some d) (w : World) : (underlying t).run P w = .ok d w := run_underlying h w

theorem run_sizeOf (h : TIok P t ti) (w : World) : (sizeOf t).run P w = .ok ti.size w := by
  obtain ⟨i, hi, hs, _⟩ := h.info
  simp [sizeOf, typeInfo, hi, hs]

theorem run_isAgg (h : TIok P t ti) (w : World) : (isAgg t).run P w = .ok ti.isAgg w := by
  obtain ⟨d, hd, hk⟩ := h.under
  simp only [isAgg, Sem.run_bind, run_under hd, Result.andThen_ok]
  unfold TI.isAgg
  cases hki : ti.k with
  | cell c => rw [hki] at hk; cases c <;> simp only [TKok] at hk <;> first | (subst hk; rfl) | (obtain ⟨p, r, v, rfl⟩ := hk; rfl) | exact hk.elim
  | slice e => rw [hki] at hk; simp only [TKok] at hk; subst hk; rfl
  | ptr e => rw [hki] at hk; simp only [TKok] at hk; subst hk; rfl
  | struct fs => rw [hki] at hk; obtain ⟨F, rfl, _⟩ := hk; rfl
  | array n e => rw [hki] at hk; simp only [TKok] at hk; subst hk; rfl
  | tuple ts => rw [hki] at hk; obtain ⟨ts, rfl⟩ := hk; rfl
  | other => rw [hki] at hk; exact hk.elim

/-- A value of that shape: written out where it is of several cells. -/
def Shaped (ti : TI) (y : Value) : Prop := if ti.isAgg then ∃ l : List Value, y = .agg l.toArray else plain y = true

theorem cells_plain {y : Value} (h : plain y = true) : y.cells = #[y] := by cases y <;> simp_all [plain, Value.oneCell', Value.cells]

theorem run_loadVar (h : TIok P t ti) {w : World} {b o : Nat} {y : Value} (hs : Shaped ti y) (hz : ti.size = y.cells.toList.length) (hr : Rd w b o y.cells.toList) :
    (loadVar t ⟨b, o, none⟩).run P w = .ok y w := by
  simp only [loadVar, Sem.run_bind, run_isAgg h, Result.andThen_ok]
  unfold Shaped at hs
  by_cases ha : ti.isAgg = true
  · rw [if_pos ha] at hs
    obtain ⟨l, rfl⟩ := hs
    simp only [Value.cells] at hr hz
    simp only [ha, if_true, Sem.run_bind, run_sizeOf h, Result.andThen_ok, Sem.run_pure]
    rw [hz, run_loadCells_rd hr]
    rfl
  · rw [if_neg ha] at hs
    rw [cells_plain hs] at hr
    have hc : w.cell? ⟨b, o, none⟩ = some y := hr.1
    simp [ha, run_load, hc]

theorem run_loadAt (h : TIok P t ti) {w : World} {b o : Nat} {y : Value} (hs : Shaped ti y) (hz : ti.size = y.cells.toList.length) (hr : Rd w b o y.cells.toList) :
    (Instr.loadAt t (.pointer (some ⟨b, o, none⟩))).run P w = .ok y w := by
  simp [Instr.loadAt, Instr.sureAddr, run_loadVar h hs hz hr]

theorem run_storeAt (h : TIok P t ti) {w : World} {b o : Nat} {y : Value} (hz : ti.size = y.cells.toList.length) (hp : ∀ c ∈ y.cells.toList, plain c = true) (hw : Wr w b o ti.size) :
    (Instr.storeAt t (.pointer (some ⟨b, o, none⟩)) y).run P w = .ok () (putCells w b o y.cells.toList) := by
  have hz' : y.cells.size = ti.size := by rw [hz]; simp
  simp only [Instr.storeAt, Instr.sureAddr, Sem.run_bind, Sem.run_pure, Result.andThen_ok, storeVar, run_sizeOf h, hz']
  rw [hz] at hw
  have := run_storeCells (P := P) (b := b) (o := o) y.cells.toList 0 (w := w) (by simpa using hw) hp
  simpa using this

theorem fieldAtN_spec {C : Ctx} (hC : CtxOk C) {f off : Nat} {fi : TI} (h : fieldAtN C t f = some (off, fi)) :
    ∃ (F : Array Field) (ft : Field), C.P.underlying t = some (.struct F) ∧ F[f]? = some ft ∧ ft.offset = off ∧ TIok C.P ft.type fi ∧ fi.size ≠ 0 := by
  unfold fieldAtN at h
  split at h
  · rename_i k fs ht
    split at h
    · rename_i off' ft hf
      split at h
      · rename_i tif htf
        split at h
        · cases h
        · rename_i hz
          simp only [Option.some.injEq, Prod.mk.injEq] at h
          obtain ⟨rfl, rfl⟩ := h
          obtain ⟨d, hd, F, rfl, hF, _⟩ := (hC.ti _ _ ht).under
          rw [← hF, List.getElem?_map] at hf
          cases hFf : F.toList[f]? with
          | none => simp [hFf] at hf
          | some fld =>
            simp only [hFf, Option.map_some, Option.some.injEq, Prod.mk.injEq] at hf
            obtain ⟨rfl, rfl⟩ := hf
            refine ⟨F, fld, hd, by simpa using hFf, rfl, hC.ti _ _ htf, fun e => hz ?_⟩
            rw [e]; rfl
      · cases h
    · cases h
  · cases h

theorem run_fieldAt {C : Ctx} (hC : CtxOk C) {f off : Nat} {fi : TI} (h : fieldAtN C t f = some (off, fi)) (w : World) (b o : Nat) :
    (Instr.fieldAt t (.pointer (some ⟨b, o, none⟩)) f).run C.P w = .ok (.pointer (some ⟨b, o + off, none⟩)) w := by
  obtain ⟨F, ft, hd, hf, rfl, hti, hz⟩ := fieldAtN_spec hC h
  simp only [Instr.fieldAt, Sem.run_bind, run_under hd, Result.andThen_ok, hf, Instr.sureAddr, Sem.run_pure, fieldPlace, run_sizeOf hti, Sem.run_ite, hz, if_false, addr_add]

theorem elemTI_spec {C : Ctx} (hC : CtxOk C) {e : TypeId} {ei : TI} (h : elemTI C t = some (e, ei)) :
    TIok C.P e ei ∧ ei.size ≠ 0 ∧ (∀ ts, ei.k ≠ .tuple ts) ∧ ((∃ ti, C.ti t = some ti ∧ ti.k = .slice e ∧ C.P.underlying t = some (.slice e)) ∨ (∃ ti n, C.ti t = some ti ∧ ti.k = .array n e ∧ C.P.underlying t = some (.array n e))) := by
  unfold elemTI at h
  have fin : ∀ (e' : TypeId) (tie : TI), C.ti e' = some tie → (match tie.k with | .tuple _ => none | _ => if Nat.beq tie.size 0 then none else some (e', tie)) = some (e, ei) → e' = e ∧ tie = ei ∧ TIok C.P e ei ∧ ei.size ≠ 0 ∧ ∀ ts, ei.k ≠ .tuple ts := by
    intro e' tie hte h
    split at h
    · cases h
    · rename_i hnt
      split at h
      · cases h
      · rename_i hz
        simp only [Option.some.injEq, Prod.mk.injEq] at h
        obtain ⟨rfl, rfl⟩ := h
        exact ⟨rfl, rfl, hC.ti _ _ hte, fun e => hz (by rw [e]; rfl), fun ts e => hnt ts e⟩
  split at h
  · rename_i k e' _ _ _ ht
    split at h
    · rename_i tie hte
      obtain ⟨rfl, rfl, h1, h2, h3⟩ := fin _ _ hte h
      obtain ⟨d, hd, hk⟩ := (hC.ti _ _ ht).under
      simp only [TKok] at hk
      subst hk
      exact ⟨h1, h2, h3, .inl ⟨_, ht, rfl, hd⟩⟩
    · cases h
  · rename_i k n e' _ _ _ ht
    split at h
    · rename_i tie hte
      obtain ⟨rfl, rfl, h1, h2, h3⟩ := fin _ _ hte h
      obtain ⟨d, hd, hk⟩ := (hC.ti _ _ ht).under
      simp only [TKok] at hk
      subst hk
      exact ⟨h1, h2, h3, .inr ⟨_, n, ht, rfl, hd⟩⟩
    · cases h
  · cases h

theorem run_indexAt_sl {C : Ctx} {e : TypeId} {ei : TI} (he : TIok C.P e ei) (hd : C.P.underlying t = some (.slice e)) (w : World) (b o n c : Nat) (k : IntKind) (i : Int) (h0 : 0 ≤ i) (h1 : i < n) :
    (Instr.indexAt t (.slice (some ⟨b, o, none⟩) n c) (.int k i)).run C.P w = .ok (.pointer (some ⟨b, o + i.toNat * ei.size, none⟩)) w := by
  simp [Instr.indexAt, run_under hd, asIntOf, h0, h1, run_sizeOf he, addr_add]

theorem run_indexAt_arr {C : Ctx} {e : TypeId} {ei : TI} (he : TIok C.P e ei) {n : Nat} (hd : C.P.underlying t = some (.array n e)) (w : World) (b o : Nat) (k : IntKind) (i : Int) (h0 : 0 ≤ i) (h1 : i < n) :
    (Instr.indexAt t (.pointer (some ⟨b, o, none⟩)) (.int k i)).run C.P w = .ok (.pointer (some ⟨b, o + i.toNat * ei.size, none⟩)) w := by
  simp [Instr.indexAt, run_under hd, asIntOf, Instr.sureAddr, h0, h1, run_sizeOf he, addr_add]

theorem run_part (h : TIok P t ti) {w : World} {cs : Array Value} {off : Nat} {xs : List Value} (hx : takeN cs.toList off ti.size = some xs) (hz : ti.size ≠ 0) :
    (part t cs off).run P w = .ok (if ti.isAgg then .agg xs.toArray else xs.headD undef) w := by
  obtain ⟨hl, hj⟩ := takeN_spec _ _ _ _ hx
  simp only [part, Sem.run_bind, run_isAgg h, Result.andThen_ok]
  by_cases ha : ti.isAgg = true
  · simp only [ha, if_true, Sem.run_bind, run_sizeOf h, Result.andThen_ok, Sem.run_pure]
    have hx : cs.extract off (off + ti.size) = xs.toArray := by
      apply Array.ext'
      apply List.ext_getElem?
      intro j
      rcases Nat.lt_or_ge j ti.size with h' | h'
      · have h1 : xs[j]? = some (xs[j]'(by omega)) := List.getElem?_eq_getElem (by omega)
        have h2 := hj j _ h1
        rw [Array.getElem?_toList] at h2
        have hlt : off + j < cs.size := (Array.getElem?_eq_some_iff.1 h2).1
        simp only [Array.getElem?_toList, h1]
        rw [Array.getElem?_extract, if_pos (by omega)]
        exact h2
      · have h1 : xs[j]? = none := List.getElem?_eq_none (by omega)
        simp only [Array.getElem?_toList, h1]
        rw [Array.getElem?_eq_none]
        simp
        omega
    rw [hx]
  · simp only [ha, Bool.false_eq_true, if_false]
    cases xs with
    | nil => exact absurd hl.symm hz
    | cons x xs =>
      have h2 := hj 0 x rfl
      rw [Array.getElem?_toList] at h2
      simp only [Nat.add_zero] at h2
      simp [h2]

end
end Go.Proofs.Ytkmmphkjmamckaa
