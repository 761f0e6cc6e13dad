/-
  An operation that leaves the world alone, one by one.
-/
import Derived.Test.YtkmmphkjmamckaaVcOp2
namespace Go.Proofs.Ytkmmphkjmamckaa
open Go
set_option linter.all false

def cls (ρ : List Nat) (w : World) : Eff → World → Prop
  | .pure, _ => True
  | .rdLoc l, w' => ∀ b, ρ[l]? = some b → w'.heap[b]? = w.heap[b]?
  | .rdMem b o cs, w' => Rd w' b o cs
  | _, _ => False

/-- What an operation that leaves the world alone comes to. -/
def ReadOk (P : Program) (ρ : List Nat) (ls : List Loc) (u w : World) (a : Act) (o : Oper) (k : KO) : Prop :=
  ∃ s v e, k s ls u e ∧ s.holds ρ v ∧ cls ρ w e w ∧ (∀ b q cs, e = .rdMem b q cs → Rd u b q cs) ∧ ∀ w', cls ρ w e w' → (execOp a.eval o).run P w' = .ok (.value v) w'

theorem ReadOk.pure {P : Program} {ρ : List Nat} {ls : List Loc} {u w : World} {a : Act} {o : Oper} {k : KO} (s : SV) (v : Value) (h : k s ls u .pure) (hs : s.holds ρ v) (hr : ∀ w', (execOp a.eval o).run P w' = .ok (.value v) w') : ReadOk P ρ ls u w a o k :=
  ⟨s, v, .pure, h, hs, trivial, (by intro b q cs e; cases e), fun w' _ => hr w'⟩

theorem exCK_plain {c : CK} {p : Value → Prop} (h : exCK c p) : ∃ y, p y ∧ plain y = true := by
  cases c <;> simp only [exCK] at h
  · obtain ⟨n, h⟩ := h; exact ⟨_, h, rfl⟩
  · obtain ⟨n, h⟩ := h; exact ⟨_, h, rfl⟩
  · obtain ⟨n, h⟩ := h; exact ⟨_, h, rfl⟩
  · obtain ⟨a, n, c, h⟩ := h; exact ⟨_, h, rfl⟩
  · obtain ⟨b, o, h⟩ := h; exact ⟨_, h, rfl⟩
  · obtain ⟨b, o, q, h⟩ := h; exact ⟨_, h, rfl⟩

theorem exCKs_list : ∀ {l : List CK} {p : List Value → Prop}, exCKs l p → ∃ y, p y
  | [], _, h => ⟨_, h⟩
  | c :: l, p, h => by
    obtain ⟨x, h, _⟩ := exCK_plain h
    obtain ⟨y, h⟩ := exCKs_list h
    exact ⟨_, h⟩

theorem exOne_spec {T : List TI} {t : TypeId} {ti : TI} {p : Value → Prop} (ht : tiOf T t = some ti) (h : exOne T t p) : ∃ y, p y ∧ Shaped ti y := by
  unfold exOne at h
  rw [ht] at h
  simp only at h
  unfold Shaped TI.isAgg
  split at h
  · rename_i c hk
    rw [hk]
    obtain ⟨y, h, hp⟩ := exCK_plain h
    exact ⟨y, h, by simpa using hp⟩
  · rename_i c hk
    rw [hk]
    obtain ⟨y, h, hp⟩ := exCK_plain h
    exact ⟨y, h, by simpa using hp⟩
  · rename_i c hk
    rw [hk]
    obtain ⟨y, h, hp⟩ := exCK_plain h
    exact ⟨y, h, by simpa using hp⟩
  · rename_i fs hk
    rw [hk]
    split at h
    · obtain ⟨l, h⟩ := h; exact ⟨_, h, by simp⟩
    · obtain ⟨l, h⟩ := exCKs_list h; exact ⟨_, h, by simp⟩
  · rename_i n e hk
    rw [hk]
    split at h
    · obtain ⟨l, h⟩ := h; exact ⟨_, h, by simp⟩
    · obtain ⟨l, h⟩ := exCKs_list h; exact ⟨_, h, by simp⟩
  · exact h.elim

theorem exOne_ti {T : List TI} {t : TypeId} {p : Value → Prop} (h : exOne T t p) : ∃ ti, tiOf T t = some ti := by
  unfold exOne at h
  split at h
  · rename_i ti hti; exact ⟨ti, hti⟩
  · exact h.elim

section
variable {C : Ctx} {ρ : List Nat} {fr : List SV} {ls : List Loc} {u0 w0 u w : World} {a : Act}

theorem read_load (hC : CtxOk C) (hm : MS u0 w0 ρ ls u w) (hf : FrOk ρ fr a) {dst : Option Tmp} {t : TypeId} {x : Operand} {ty : TypeId} {pos : String} {after : Array Edge} {g : Option (Nat × Bool)} {k : KO}
    (h : wLoad C t (ev fr x) ls u k) : ReadOk C.P ρ ls u w a ⟨dst, .load t x, ty, pos, after, g⟩ k := by
  have run : ∀ (y : Value) (w' : World), (Instr.loadAt t (a.eval x)).run C.P w' = .ok y w' → (execOp a.eval ⟨dst, .load t x, ty, pos, after, g⟩).run C.P w' = .ok (.value y) w' := fun y w' hr => by
    simp only [execOp, Sem.run_bind, hr, Result.andThen_ok, Sem.run_pure]
  unfold wLoad at h
  split at h
  · rename_i i off hev
    obtain ⟨b, hb, hx⟩ := ev_lp hf hev
    split at h
    · rename_i l ti hl hti
      have hti' := hC.ti t ti hti
      obtain ⟨hub, hwb⟩ := hm.own i l b hl hb
      -- one way for all
      have fin : ∀ (y : Value), Shaped ti y → takeN l.cells off ti.size = some y.cells.toList → k (.v y) ls u (.rdLoc i) → ReadOk C.P ρ ls u w a ⟨dst, .load t x, ty, pos, after, g⟩ k := fun y hs ht hk => by
        refine ⟨.v y, y, .rdLoc i, hk, rfl, fun _ _ => rfl, (by intro b q cs e; cases e), fun w' hc => run y w' ?_⟩
        have hw' : w'.heap[b]? = some (.cells l.cells.toArray l.ty (0, 0)) := by rw [hc b hb, hwb]
        rw [hx]
        exact run_loadAt hti' hs (takeN_spec _ _ _ _ ht).1.symm (rd_block hw' ht)
      split at h
      · split at h
        · rename_i hbig
          simp only [Bool.and_eq_true] at hbig
          exact fin (.agg l.cells.toArray) (by unfold Shaped; rw [if_pos hbig.1]; exact ⟨_, rfl⟩) h.1 h.2
        · obtain ⟨y, ⟨h1, h2⟩, hs⟩ := exOne_spec hti h
          exact fin y hs h1 h2
      · split at h
        · rename_i cs hcs
          split at h
          · rename_i hagg
            exact fin _ (by unfold Shaped; rw [if_pos hagg]; exact ⟨_, rfl⟩) (by simpa [Value.cells] using hcs) h
          · rename_i hagg
            split at h
            · rename_i c
              -- a single cell: it is plain, or it could not lie there; what is read is what lies there
              refine ⟨.v c, c, .rdLoc i, h, rfl, fun _ _ => rfl, (by intro b q cs e; cases e), fun w' hc => run c w' ?_⟩
              have hw' : w'.heap[b]? = some (.cells l.cells.toArray l.ty (0, 0)) := by rw [hc b hb, hwb]
              have hr := (rd_block hw' hcs).1
              rw [hx]
              simp [Instr.loadAt, Instr.sureAddr, loadVar, run_isAgg hti', hagg, run_load, hr]
            · exact h.elim
        · exact h.elim
    · exact h.elim
  · rename_i b o hev
    have hx := ev_v hf hev
    obtain ⟨ti, hti⟩ := exOne_ti h
    obtain ⟨y, ⟨h1, h2, h3⟩, hs⟩ := exOne_spec hti h
    have hti2 : C.ti t = some ti := hti
    rw [hti2] at h1
    simp only at h1
    refine ⟨.v y, y, .rdMem b o y.cells.toList, h3, rfl, hm.le.rd h2, (by intro b' q' cs' e; cases e; exact h2), fun w' hc => run y w' ?_⟩
    rw [hx]
    exact run_loadAt (hC.ti t ti hti2) hs h1 hc
  · exact h.elim

theorem read_field (hC : CtxOk C) (hf : FrOk ρ fr a) {dst : Option Tmp} {t : TypeId} {x : Operand} {f : Nat} {ty : TypeId} {pos : String} {after : Array Edge} {g : Option (Nat × Bool)} {k : KO}
    (h : wOp C ⟨dst, .field t x f, ty, pos, after, g⟩ fr ls u k) : ReadOk C.P ρ ls u w a ⟨dst, .field t x f, ty, pos, after, g⟩ k := by
  simp only [wOp] at h
  split at h
  · rename_i off ti cs hfa hev
    have hx := ev_v hf hev
    obtain ⟨F, ft, hd, hff, rfl, hti, hz⟩ := fieldAtN_spec hC hfa
    have run : ∀ (y : Value) (w' : World), (part ft.type cs ft.offset).run C.P w' = .ok y w' → (execOp a.eval ⟨dst, .field t x f, ty, pos, after, g⟩).run C.P w' = .ok (.value y) w' := fun y w' hr => by
      simp [execOp, hx, Instr.field, run_under hd, hff, asAgg, hr]
    split at h
    · rename_i hbig
      -- the field's type is the table's
      have hty : fieldTy C t f = ft.type := by
        unfold fieldTy
        unfold fieldAtN at hfa
        split at hfa
        · rename_i fs _ _ _ ht
          obtain ⟨d, hd', F', rfl, hF', _⟩ := (hC.ti _ _ ht).under
          rw [hd] at hd'
          simp only [Option.some.injEq, TypeDesc.struct.injEq] at hd'
          subst hd'
          rw [← hF', List.getElem?_map, Array.getElem?_toList, hff]
          rfl
        · cases hfa
      rw [hty] at h
      obtain ⟨ti', hti'⟩ := exOne_ti h
      obtain ⟨y, ⟨h1, h2⟩, hs⟩ := exOne_spec hti' h
      have hti2 := hC.ti _ _ (show C.ti ft.type = some ti' from hti')
      have hp := fun w' => run_part hti (w := w') h1 hz
      refine ReadOk.pure (.v y) y h2 rfl fun w' => run y w' ?_
      rw [hp w']
      have hagg : ti.isAgg = ti'.isAgg := by
        have e1 := run_isAgg hti w'
        have e2 := run_isAgg hti2 w'
        rw [e1] at e2
        simpa using e2
      unfold Shaped at hs
      by_cases ha : ti'.isAgg = true
      · rw [if_pos ha] at hs
        obtain ⟨l, rfl⟩ := hs
        simp [hagg, ha, Value.cells]
      · rw [if_neg ha] at hs
        rw [cells_plain hs]
        simp [hagg, ha]
    · split at h
      · rename_i xs hxs
        have hp := fun w' => run_part hti (w := w') hxs hz
        split at h
        · rename_i hagg
          refine ReadOk.pure _ _ h rfl fun w' => run _ w' ?_
          rw [hp w', if_pos hagg]
        · rename_i hagg
          split at h
          · refine ReadOk.pure _ _ h rfl fun w' => run _ w' ?_
            rw [hp w', if_neg hagg]
            rfl
          · exact h.elim
      · exact h.elim
  · exact h.elim

theorem read_fieldAddr (hC : CtxOk C) (hf : FrOk ρ fr a) {dst : Option Tmp} {t : TypeId} {x : Operand} {f : Nat} {ty : TypeId} {pos : String} {after : Array Edge} {g : Option (Nat × Bool)} {k : KO}
    (h : wOp C ⟨dst, .fieldAddr t x f, ty, pos, after, g⟩ fr ls u k) : ReadOk C.P ρ ls u w a ⟨dst, .fieldAddr t x f, ty, pos, after, g⟩ k := by
  simp only [wOp] at h
  split at h
  · rename_i off ti b o hfa hev
    have hx := ev_v hf hev
    exact ReadOk.pure _ _ h rfl fun w' => by simp [execOp, hx, run_fieldAt hC hfa]
  · rename_i off ti i p hfa hev
    obtain ⟨b, hb, hx⟩ := ev_lp hf hev
    exact ReadOk.pure _ _ h ⟨b, hb, rfl⟩ fun w' => by simp [execOp, hx, run_fieldAt hC hfa]
  · exact h.elim

theorem read_indexAddr (hC : CtxOk C) (hf : FrOk ρ fr a) {dst : Option Tmp} {t : TypeId} {x i : Operand} {ty : TypeId} {pos : String} {after : Array Edge} {g : Option (Nat × Bool)} {k : KO}
    (h : wOp C ⟨dst, .indexAddr t x i, ty, pos, after, g⟩ fr ls u k) : ReadOk C.P ρ ls u w a ⟨dst, .indexAddr t x i, ty, pos, after, g⟩ k := by
  simp only [wOp] at h
  split at h
  · rename_i ik n hi
    have hi' := ev_v hf hi
    unfold wIndexAddr at h
    split at h
    · rename_i e' _ _ _ e ti p len c ht he hev
      have hx := ev_v hf hev
      obtain ⟨dd, hd, hk⟩ := tiCell hC ht
      simp only [TKok] at hk
      subst hk
      obtain ⟨hti, hz, _, hcase⟩ := elemTI_spec hC he
      have hee : e = e' := by
        rcases hcase with ⟨_, _, _, hu⟩ | ⟨_, _, _, _, hu⟩
        · rw [hd] at hu; simpa using hu.symm
        · rw [hd] at hu; simp at hu
      subst hee
      obtain ⟨b, o, rfl, h0, h1, h2⟩ := h
      exact ReadOk.pure _ _ h2 rfl fun w' => by simp [execOp, hx, hi', run_indexAt_sl hti hd w' b o len c ik n h0 h1]
    · rename_i len e' _ _ _ e ti l off ht he hev
      obtain ⟨b, hb, hx⟩ := ev_lp hf hev
      obtain ⟨dd, hd, hk⟩ := tiCell hC ht
      simp only [TKok] at hk
      subst hk
      obtain ⟨hti, hz, _, hcase⟩ := elemTI_spec hC he
      have hee : e = e' := by
        rcases hcase with ⟨_, _, _, hu⟩ | ⟨_, _, _, _, hu⟩
        · rw [hd] at hu; simp at hu
        · rw [hd] at hu; simp at hu; exact hu.2.symm
      subst hee
      obtain ⟨h0, h1, h2⟩ := h
      exact ReadOk.pure _ _ h2 ⟨b, hb, rfl⟩ fun w' => by simp [execOp, hx, hi', run_indexAt_arr hti hd w' b off ik n h0 h1]
    · rename_i len e' _ _ _ e ti b off ht he hev
      have hx := ev_v hf hev
      obtain ⟨dd, hd, hk⟩ := tiCell hC ht
      simp only [TKok] at hk
      subst hk
      obtain ⟨hti, hz, _, hcase⟩ := elemTI_spec hC he
      have hee : e = e' := by
        rcases hcase with ⟨_, _, _, hu⟩ | ⟨_, _, _, _, hu⟩
        · rw [hd] at hu; simp at hu
        · rw [hd] at hu; simp at hu; exact hu.2.symm
      subst hee
      obtain ⟨h0, h1, h2⟩ := h
      exact ReadOk.pure _ _ h2 rfl fun w' => by simp [execOp, hx, hi', run_indexAt_arr hti hd w' b off ik n h0 h1]
    · exact h.elim
  · exact h.elim

theorem read_build (hC : CtxOk C) (hf : FrOk ρ fr a) {dst : Option Tmp} {t : TypeId} {parts : Array (Nat × Operand)} {ty : TypeId} {pos : String} {after : Array Edge} {g : Option (Nat × Bool)} {k : KO}
    (h : wOp C ⟨dst, .build t parts, ty, pos, after, g⟩ fr ls u k) : ReadOk C.P ρ ls u w a ⟨dst, .build t parts, ty, pos, after, g⟩ k := by
  simp only [wOp] at h
  split at h
  · rename_i ti l ht hl
    have hparts := partsV_eval hf parts.toList l hl
    have hpl : (parts.map fun (i, x) => (i, a.eval x)).toList = l := by rw [← hparts]; simp
    have hti := hC.ti _ _ ht
    split at h
    · rename_i hbd
      split at h
      · rename_i cells hfill
        unfold buildable at hbd
        obtain ⟨dd, hd, hk⟩ := hti.under
        split at hbd
        · rename_i fs hks
          rw [hks] at hk
          obtain ⟨F, rfl, hF, _⟩ := hk
          have hz := hti.zero
          rw [hks] at hz
          obtain ⟨inf, z, hinf, hzz, hzc⟩ := hz
          refine ReadOk.pure _ _ h rfl fun w' => ?_
          have hplaces : ∀ (G : List Field), (∀ f ∈ G, (C.ti f.type).isSome = true) → (G.mapM fun f => (do pure (f.offset, ← sizeOf f.type) : Sem (Nat × Nat))).run C.P w' = .ok (G.map fun f => (f.offset, ((C.ti f.type).map (·.size)).getD 0)) w' := by
            intro G
            induction G with
            | nil => intro _; simp
            | cons f G ih =>
              intro hall
              obtain ⟨fi, hfi⟩ := Option.isSome_iff_exists.1 (hall f (by simp))
              simp only [List.mapM_cons, Sem.run_bind, run_sizeOf (hC.ti _ _ hfi), Result.andThen_ok, Sem.run_pure, ih (fun f' hf' => hall f' (by simp [hf'])), List.map_cons, hfi, Option.map_some, Option.getD_some]
          have hall : ∀ f ∈ F.toList, (C.ti f.type).isSome = true := by
            intro f hff
            have := List.all_eq_true.1 hbd (f.offset, f.type) (by rw [← hF]; exact List.mem_map.2 ⟨f, hff, rfl⟩)
            simpa using this
          have hmap : (F.mapM fun f => (do pure (f.offset, ← sizeOf f.type) : Sem (Nat × Nat))).run C.P w' = .ok (F.toList.map fun f => (f.offset, ((C.ti f.type).map (·.size)).getD 0)).toArray w' := by
            rw [Array.mapM_eq_mapM_toList]
            simp only [Sem.run_map, hplaces F.toList hall, Result.andThen_ok]
          have hfs := fill_spec hC (t := t) (place := fun i => ((F.toList.map fun f => (f.offset, ((C.ti f.type).map (·.size)).getD 0)).toArray)[i]?) (fun i off fi hm => by
            rw [ht] at hm
            obtain ⟨tk, sz, bt, zz⟩ := ti
            simp only at hks
            subst hks
            simp only at hm
            have hm0 := hm
            obtain ⟨F', ft, hd', hff, rfl, hti', _⟩ := fieldAtN_spec hC hm
            rw [hd] at hd'
            simp only [Option.some.injEq, TypeDesc.struct.injEq] at hd'
            subst hd'
            have : C.ti ft.type = some fi := by
              unfold fieldAtN at hm0
              rw [ht] at hm0
              simp only at hm0
              rw [← hF, List.getElem?_map, Array.getElem?_toList, hff] at hm0
              simp only [Option.map_some] at hm0
              split at hm0
              · split at hm0
                · cases hm0
                · simp only [Option.some.injEq, Prod.mk.injEq] at hm0
                  rename_i hh _
                  rw [hh, hm0.2]
              · cases hm0
            simp only [List.getElem?_toArray, List.getElem?_map, Array.getElem?_toList, hff, Option.map_some, this, Option.getD_some]) l ti.zero cells hfill
          simp only [execOp, Instr.build, Sem.run_bind, zeroValue, typeInfo, run_program, hinf, Sem.run_pure, Result.andThen_ok, hzz, run_under hd, hmap, hzc]
          rw [hpl, hfs]
          rfl
        · rename_i n e hks
          rw [hks] at hk
          simp only [TKok] at hk
          subst hk
          have hz := hti.zero
          rw [hks] at hz
          obtain ⟨inf, z, hinf, hzz, hzc⟩ := hz
          obtain ⟨ei, hei⟩ := Option.isSome_iff_exists.1 hbd
          refine ReadOk.pure _ _ h rfl fun w' => ?_
          have hfs := fill_spec hC (t := t) (place := fun i => some (i * ei.size, ei.size)) (fun i off fi hm => by
            rw [ht] at hm
            obtain ⟨tk, sz, bt, zz⟩ := ti
            simp only at hks
            subst hks
            simp only at hm
            unfold elemTI at hm
            rw [ht] at hm
            simp only [hei] at hm
            split at hm
            · cases hm
            split at hm
            · cases hm
            · simp only [Option.map_some, Option.some.injEq, Prod.mk.injEq] at hm
              rw [← hm.1, ← hm.2]) l ti.zero cells hfill
          simp only [execOp, Instr.build, Sem.run_bind, zeroValue, typeInfo, run_program, hinf, Sem.run_pure, Result.andThen_ok, hzz, run_under hd, run_sizeOf (hC.ti _ _ hei), hzc]
          rw [hpl, hfs]
          rfl
        · cases hbd
      · exact h.elim
    · exact h.elim
  · exact h.elim

end
end Go.Proofs.Ytkmmphkjmamckaa
