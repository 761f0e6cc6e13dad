/-
  Operations that write, make memory or call, one by one.
-/
import Derived.Test.YtkmmphkjmamckaaVcStep
namespace Go.Proofs.Ytkmmphkjmamckaa
open Go
set_option linter.all false

theorem Post.of_run {P : Program} {u0 w0 u w : World} {ρ : List Nat} {ls : List Loc} {a : Act} {o : Oper} {k : KO} {Q : Exit → Act → World → Prop} {y : Value} {w' : World} (hr : (execOp a.eval o).run P w = .ok (.value y) w') (h : Post u0 w0 ρ ls u w a o k (a.put o.dst y) w') :
    o.wp P a w (Post u0 w0 ρ ls u w a o k) Q := by
  unfold Oper.wp
  rw [hr]
  exact h

section
variable {C : Ctx} {ρ : List Nat} {fr : List SV} {ls : List Loc} {u0 w0 u w : World} {a : Act} {Q : Exit → Act → World → Prop}

theorem step_box (hm : MS u0 w0 ρ ls u w) {o : Oper} {t : TypeId} {big : Bool} {cells : List Value} {k : KO} (h : wBox C o.dst t big cells ls u k)
    (hr : (execOp a.eval o).run C.P w = .ok (.value (.pointer (some ⟨w.heap.size, 0, none⟩))) (allocW w (.cells cells.toArray t))) : o.wp C.P a w (Post u0 w0 ρ ls u w a o k) Q := by
  refine Post.of_run hr ?_
  unfold wBox at h
  split at h
  · rw [hm.le.size]
    exact Post.wr h (hm.alloc _) (alloc_le _ _)
  · refine ⟨.lp ls.length 0, _, _, .wr, _, ρ ++ [u.heap.size], h, rfl, ⟨[u.heap.size], rfl, by simp⟩, ⟨u.heap.size, ?_, by rw [hm.le.size]⟩, hm.allocLoc t _ cells, alloc_le _ _, fun m hlt => ?_⟩
    · rw [← hm.len]; simp
    · rw [List.getElem?_append_left hlt]

theorem run_newVar {P : Program} (t : TypeId) (v : Value) (w : World) : (newVar t v).run P w = .ok ⟨w.heap.size, 0, none⟩ (allocW w (.cells v.cells t)) := by
  simp only [newVar, newRow, Sem.run_bind, run_newObj, Result.andThen_ok, Sem.run_pure]
  rfl

theorem step_store (hC : CtxOk C) (hm : MS u0 w0 ρ ls u w) (hf : FrOk ρ fr a) {dst : Option Tmp} {t : TypeId} {x y : Operand} {ty : TypeId} {pos : String} {after : Array Edge} {g : Option (Nat × Bool)} {k : KO}
    (h : wOp C ⟨dst, .store t x y, ty, pos, after, g⟩ fr ls u k) : (Oper.mk dst (.store t x y) ty pos after g).wp C.P a w (Post u0 w0 ρ ls u w a ⟨dst, .store t x y, ty, pos, after, g⟩ k) Q := by
  simp only [wOp] at h
  split at h
  · rename_i v hv
    have hy := asV_eval hf hv
    unfold wStore at h
    split at h
    · rename_i ti hti
      have hti' := hC.ti t ti hti
      have run : ∀ (b q : Nat), a.eval x = .pointer (some ⟨b, q, none⟩) → ti.size = v.cells.toList.length → (∀ c ∈ v.cells.toList, plain c = true) → Wr w b q ti.size →
          (execOp a.eval ⟨dst, .store t x y, ty, pos, after, g⟩).run C.P w = .ok .skip (putCells w b q v.cells.toList) := fun b q hx hz hp hw => by
        simp only [execOp, hx, hy, Sem.run_bind, run_storeAt hti' hz hp hw, Result.andThen_ok, Sem.run_pure]
      have fin : ∀ (b q : Nat) (s : SV) (ls' : List Loc) (u' : World) (e : Eff), a.eval x = .pointer (some ⟨b, q, none⟩) → ti.size = v.cells.toList.length → (∀ c ∈ v.cells.toList, plain c = true) → Wr w b q ti.size → k .junk ls' u' e →
          MS u0 w0 ρ ls' u' (putCells w b q v.cells.toList) → u.heap.size ≤ u'.heap.size → EffOk e ρ ls ls' w (putCells w b q v.cells.toList) → (Oper.mk dst (.store t x y) ty pos after g).wp C.P a w (Post u0 w0 ρ ls u w a ⟨dst, .store t x y, ty, pos, after, g⟩ k) Q :=
        fun b q s ls' u' e hx hz hp hw hk hm' hle he => by
          unfold Oper.wp
          rw [run b q hx hz hp hw]
          exact ⟨.junk, ls', u', e, undef, ρ, hk, rfl, ⟨[], by simp, by simp⟩, trivial, hm', hle, he⟩
      split at h
      · rename_i i off hx
        obtain ⟨b, hb, hx'⟩ := ev_lp hf hx
        split at h
        · rename_i l hl
          obtain ⟨hub, hwb⟩ := hm.own i l b hl hb
          have loc : ∀ cs, putN l.cells off v.cells.toList = some cs → ti.size = v.cells.toList.length → (∀ c ∈ v.cells.toList, plain c = true) → k .junk (ls.set i { l with cells := cs }) u (.wrLoc i) →
              (Oper.mk dst (.store t x y) ty pos after g).wp C.P a w (Post u0 w0 ρ ls u w a ⟨dst, .store t x y, ty, pos, after, g⟩ k) Q := fun cs hp hz hpl hk => by
            refine fin b off .junk _ u (.wrLoc i) hx' hz hpl (by rw [hz]; exact wr_block hwb hp) hk (hm.local hl hb hp) (Nat.le_refl _) ⟨fun m hne => by rw [List.getElem?_set_ne (by omega)], fun j hj => put_heap_other _ _ _ _ (hj b hb)⟩
          split at h
          · obtain ⟨hz, h⟩ := h
            rw [okCells_iff] at h
            obtain ⟨hp, cs, hput, hk⟩ := h
            exact loc cs hput hz hp hk
          · split at h
            · rename_i hz
              have hz' := Nat.eq_of_beq_eq_true hz
              split at h
              · rename_i cs hput
                rw [okCells_iff] at h
                exact loc cs hput hz' h.1 h.2
              · exact h.elim
            · exact h.elim
        · exact h.elim
      · rename_i b q hx
        have hx' := ev_v hf hx
        obtain ⟨hz, h⟩ := h
        rw [okCells_iff] at h
        obtain ⟨hp, hw, hk⟩ := h
        refine fin b q .junk ls _ .wr hx' hz hp (hm.le.wr hw) hk (hm.put (by rw [← hz]; exact hw)) (by rw [put_size]; exact Nat.le_refl _) (fun _ _ => rfl)
      · exact h.elim
    · exact h.elim
  · exact h.elim

theorem nextslicecap_le (need cap : Nat) (h : cap < need) : Builtin.nextslicecap need cap ≤ 2 * need + 192 := by
  have grow : ∀ (r c : Nat), c ≤ 2 * need + 192 → Builtin.growBy need r c ≤ 2 * need + 192 := by
    intro r
    induction r with
    | zero => intro c hc; exact hc
    | succ r ih =>
      intro c hc
      rw [Builtin.growBy]
      split
      · exact hc
      · exact ih _ (by omega)
  unfold Builtin.nextslicecap
  split
  · omega
  · split
    · omega
    · exact grow 4 cap (by omega)

theorem notInt {d : TypeDesc} : (∀ k, d ≠ .int k) → (match d with | .int _ => true | _ => false) = false := by intro h; cases d <;> first | rfl | exact absurd rfl (h _)

/-- What an append of these cells comes to. -/
theorem run_append {t t' e : TypeId} {ei : TI} {ats : Array TypeId} {ty : TypeId} (ha : ats = #[t, t']) (he : TIok C.P e ei) (hk : ∀ ts, ei.k ≠ .tuple ts) (hd : C.P.underlying t = some (.slice e)) (hd' : ∃ d, C.P.underlying t' = some d ∧ ∀ k, d ≠ .int k)
    {p : Option Addr} {n c m : Nat} {x : Value} {old new : List Value} (ho : old.length = n * ei.size) (hold : Gets w p old) 
    (hlen : ∀ w', (Builtin.lenOf x).run C.P w' = .ok m w') (hcells0 : (Builtin.firstCells ei.size m x).run C.P w = .ok new.toArray w) (hcells1 : (Builtin.firstCells ei.size m x).run C.P (drewW w) = .ok new.toArray (drewW w))
    (hb : 0 < ei.bytes) (hroom : (2 * (n + m) + 192) * ei.bytes ≤ 140737488355328) (hp : ∀ y ∈ new, plain y = true) (hw : n + m ≤ c → WrS w p (n * ei.size) new.length) :
    (n + m ≤ c ∧ (Builtin.append_ ats ty #[.slice p n c, x]).run C.P w = .ok (.slice p (n + m) c) (putSl w p (n * ei.size) new)) ∨
    (c < n + m ∧ ∃ cap, n + m ≤ cap ∧ (Builtin.append_ ats ty #[.slice p n c, x]).run C.P w = .ok (.slice (some ⟨w.heap.size, 0, none⟩) (n + m) cap) (allocW (drewW w) (.cells (old ++ new ++ repl (cap - (n + m)) ei.zero).toArray e))) := by
  subst ha
  obtain ⟨dd, hdd, hni⟩ := hd'
  obtain ⟨inf, hinf, hsz, hby⟩ := he.info
  obtain ⟨inf', z, hinf', hzz, hzc⟩ := zero_spec he hk
  rw [hinf] at hinf'
  simp only [Option.some.injEq] at hinf'
  subst hinf'
  have hzl : ei.zero.length = ei.size := by
    have := he.zlen
    cases hki : ei.k <;> rw [hki] at this <;> first | exact this | exact absurd hki (hk _)
  by_cases hc : n + m ≤ c
  · refine .inl ⟨hc, ?_⟩
    simp only [Builtin.append_, List.getElem?_toArray, List.getElem?_cons_zero, List.getElem?_cons_succ, Sem.run_bind, run_under hd, Result.andThen_ok, run_sizeOf he, run_under hdd, Bool.false_eq_true, ↓reduceIte, hlen, hc, Bool.not_false, hcells0, Sem.run_pure, Sem.run_ite]
    cases p with
    | none => simp [putSl]
    | some ad =>
      have := run_storeCells_wrs (P := C.P) (hw hc) hp
      simp only [putSl, Sem.run_bind, this, Result.andThen_ok, Sem.run_pure]
  · refine .inr ⟨by omega, ?_⟩
    have hcapq : ∀ tp, ∃ cap, n + m ≤ cap ∧ (Question.appendCap (n + m) c e).cut tp = cap := fun tp => ⟨_, Nat.le_add_right _ _, rfl⟩
    obtain ⟨cap, hcap, hcut⟩ := hcapq (w.tape w.drawn (.appendCap (n + m) c e))
    refine ⟨cap, hcap, ?_⟩
    have hns := nextslicecap_le (n + m) c (by omega)
    have h1 : ¬ Builtin.nextslicecap (n + m) c * inf.bytes > 2 ^ 48 := by
      rw [hby]
      have := Nat.mul_le_mul_right ei.bytes hns
      omega
    have hforced : (Question.appendCap (n + m) c e).forced = false := rfl
    have hfirst : (Builtin.firstCells ei.size n (.slice p n c)).run C.P (drewW w) = .ok old.toArray (drewW w) := by
      cases p with
      | none =>
        have : old = [] := hold
        subst this
        simp [Builtin.firstCells]
      | some ad =>
        have hr : Gets (drewW w) (some ad) old := ⟨hold.1, by
          have := hold.2
          rw [Rd_iff] at this ⊢
          exact this⟩
        simp only [Builtin.firstCells]
        rw [← ho]
        exact run_loadCells_gets hr
    have hzero : ∀ k : Nat, Builtin.zeroCells ei.zero.toArray k = (repl k ei.zero).toArray := fun k => by
      by_cases hz0 : ei.zero = []
      · rw [hz0]; simp [Builtin.zeroCells, repl]
      · unfold Builtin.zeroCells
        rw [← zeros_eq k ei.zero hz0]
        simp
    simp only [Builtin.append_, List.getElem?_toArray, List.getElem?_cons_zero, List.getElem?_cons_succ, Sem.run_bind, run_under hd, Result.andThen_ok, run_sizeOf he, run_under hdd, Bool.false_eq_true, ↓reduceIte, hlen, hc, Sem.run_ite, typeInfo, run_program, hinf, Sem.run_pure]
    simp only [hby] at *
    have h2' : ¬ (((n + m : Nat) : Int) > IntKind.i64.max ∧ (False ∨ ei.bytes = 0)) := by
      intro h
      rcases h.2 with h3 | h3
      · exact h3
      · omega
    rw [if_neg h2', if_neg h1]
    simp only [run_choose, hforced, Bool.false_eq_true, if_false, hcut, run_askRoom, Result.andThen_ok]
    have hdw : ({ w with drawn := w.drawn + 1 } : World) = drewW w := rfl
    rw [hdw]
    simp only [hfirst, Result.andThen_ok, Bool.not_false, if_true, hcells1, zeroValue, typeInfo, Sem.run_bind, run_program, hinf, Sem.run_pure, hzz, hzc, hzero, newRow, run_newObj]
    congr 1
    simp [allocW]

end
end Go.Proofs.Ytkmmphkjmamckaa
