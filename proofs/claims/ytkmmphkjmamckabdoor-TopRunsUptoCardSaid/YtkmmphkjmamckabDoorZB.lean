/-
  Texts that belong together, joined: VcStep, VcStep2, VcStep3, VcSound, VcLoop, VcCode, VcFunc, VcLib, Told, VcCtx.
-/
import Derived.Test.YtkmmphkjmamckabDoorZA
import Derived.Lib.AppendZerosOnto
import Derived.Laws.AppendOwn
/-
  An operation that writes, makes memory or calls.
-/
namespace Go.Proofs.YtkmmphkjmamckabDoor
open Go
set_option linter.all false

def EffOk (e : Eff) (ρ : List Nat) (ls ls' : List Loc) (w w' : World) : Prop :=
  match e with
  | .wrLoc l => (∀ m, m ≠ l → ls'[m]? = ls[m]?) ∧ ∀ k : Nat, (∀ b, ρ[l]? = some b → k ≠ b) → w'.heap[k]? = w.heap[k]?
  | .wr => ∀ m, m < ls.length → ls'[m]? = ls[m]?
  | _ => w' = w ∧ ls' = ls

def Post (u0 w0 : World) (ρ : List Nat) (ls : List Loc) (u w : World) (a : Act) (o : Oper) (k : KO) (a' : Act) (w' : World) : Prop :=
  ∃ s ls' u' e v ρ', k s ls' u' e ∧ a' = a.put o.dst v ∧ (∃ r, ρ' = ρ ++ r ∧ ∀ b ∈ r, u.heap.size ≤ b) ∧ s.holds ρ' v ∧ MS u0 w0 ρ' ls' u' w' ∧ u.heap.size ≤ u'.heap.size ∧ EffOk e ρ ls ls' w w'

section ms
variable {u0 w0 u w : World} {ρ : List Nat} {ls : List Loc}

theorem MS.alloc (h : MS u0 w0 ρ ls u w) (o : Obj) : MS u0 w0 ρ ls (allocW u o) (allocW w o) := by
  refine ⟨h.le.alloc o, ⟨?_, fun k hk => ?_⟩, ?_, h.len, h.nodup, fun i l b hl hb => ?_, h.new⟩
  · have : (allocW u o).heap.size = u.heap.size + 1 := by simp [allocW]
    have := h.kept.size; omega
  · obtain ⟨h1, h2⟩ := h.kept.hole k hk
    have hlt : k < u.heap.size := (Array.getElem?_eq_some_iff.1 h1).1
    rw [heap_alloc, heap_alloc, if_neg (by omega), if_neg (by rw [h.le.size]; omega)]
    exact ⟨h1, h2⟩
  · have : (allocW u o).heap.size = u.heap.size + 1 := by simp [allocW]
    have := h.sz; omega
  · obtain ⟨h1, h2⟩ := h.own i l b hl hb
    have hlt : b < u.heap.size := (Array.getElem?_eq_some_iff.1 h1).1
    rw [heap_alloc, heap_alloc, if_neg (by omega), if_neg (by rw [h.le.size]; omega)]
    exact ⟨h1, h2⟩

theorem MS.allocLoc (h : MS u0 w0 ρ ls u w) (t : TypeId) (q : Bool) (cells : List Value) : MS u0 w0 (ρ ++ [u.heap.size]) (ls ++ [⟨t, q, cells⟩]) (allocW u hole) (allocW w (.cells cells.toArray t)) := by
  refine ⟨h.le.hole _, ⟨?_, fun k hk => ?_⟩, ?_, by simp [h.len], ?_, fun i l b hl hb => ?_, fun b hb => ?_⟩
  · have : (allocW u hole).heap.size = u.heap.size + 1 := by simp [allocW]
    have := h.kept.size; omega
  · obtain ⟨h1, h2⟩ := h.kept.hole k hk
    have hlt : k < u.heap.size := (Array.getElem?_eq_some_iff.1 h1).1
    rw [heap_alloc, heap_alloc, if_neg (by omega), if_neg (by rw [h.le.size]; omega)]
    exact ⟨h1, h2⟩
  · have : (allocW u hole).heap.size = u.heap.size + 1 := by simp [allocW]
    have := h.sz; omega
  · rw [List.nodup_append]
    refine ⟨h.nodup, by simp, fun b hb c hc => ?_⟩
    simp only [List.mem_singleton] at hc
    subst hc
    intro e
    subst e
    obtain ⟨i, hi⟩ := List.mem_iff_getElem?.1 hb
    have hlt : i < ls.length := by rw [← h.len]; exact (List.getElem?_eq_some_iff.1 hi).1
    obtain ⟨h1, _⟩ := h.own i _ _ (List.getElem?_eq_getElem hlt) hi
    have := (Array.getElem?_eq_some_iff.1 h1).1
    omega
  · rcases Nat.lt_or_ge i ls.length with hi | hi
    · rw [List.getElem?_append_left hi] at hl
      rw [List.getElem?_append_left (by rw [h.len]; exact hi)] at hb
      obtain ⟨h1, h2⟩ := h.own i l b hl hb
      have hlt : b < u.heap.size := (Array.getElem?_eq_some_iff.1 h1).1
      rw [heap_alloc, heap_alloc, if_neg (by omega), if_neg (by rw [h.le.size]; omega)]
      exact ⟨h1, h2⟩
    · rw [List.getElem?_append_right hi] at hl
      rw [List.getElem?_append_right (by rw [h.len]; exact hi), h.len] at hb
      cases hj : i - ls.length with
      | zero =>
        rw [hj] at hl hb
        simp only [List.getElem?_cons_zero, Option.some.injEq] at hl hb
        subst hl hb
        rw [heap_alloc, heap_alloc, if_pos rfl, if_pos h.le.size.symm]
        exact ⟨rfl, rfl⟩
      | succ j => rw [hj] at hl; simp at hl
  · simp only [List.mem_append, List.mem_singleton] at hb
    rcases hb with hb | hb
    · exact h.new b hb
    · subst hb; exact h.sz

theorem MS.drew (h : MS u0 w0 ρ ls u w) : MS u0 w0 ρ ls (drewW u) (drewW w) := ⟨h.le.drew, ⟨h.kept.size, h.kept.hole⟩, h.sz, h.len, h.nodup, h.own, h.new⟩

theorem MS.put (h : MS u0 w0 ρ ls u w) {b o : Nat} {cs : List Value} (hw : Wr u b o cs.length) : MS u0 w0 ρ ls (putCells u b o cs) (putCells w b o cs) := by
  by_cases hne : cs = []
  · subst hne; exact h
  have hbk : ∀ k : Nat, u.heap[k]? = some hole → k ≠ b := by
    intro k hk e
    subst e
    obtain ⟨⟨x, hx⟩, _⟩ := hw 0 (by cases cs with | nil => exact absurd rfl hne | cons => simp)
    obtain ⟨c', t, f, hb, _, _⟩ := cell_block hx
    rw [hk] at hb
    simp [hole] at hb
  refine ⟨h.le.put cs o hw, ⟨by rw [put_size]; exact h.kept.size, fun k hk => ?_⟩, by rw [put_size]; exact h.sz, h.len, h.nodup, fun i l c hl hc => ?_, h.new⟩
  · obtain ⟨h1, h2⟩ := h.kept.hole k hk
    have := hbk k h1
    rw [put_heap_other _ _ _ _ this, put_heap_other _ _ _ _ this]
    exact ⟨h1, h2⟩
  · obtain ⟨h1, h2⟩ := h.own i l c hl hc
    have := hbk c h1
    rw [put_heap_other _ _ _ _ this, put_heap_other _ _ _ _ this]
    exact ⟨h1, h2⟩

theorem MS.putSl (h : MS u0 w0 ρ ls u w) {p : Option Addr} {off : Nat} {cs : List Value} (hw : WrS u p off cs.length) : MS u0 w0 ρ ls (putSl u p off cs) (putSl w p off cs) := by
  cases p with
  | none => exact h
  | some a => exact h.put hw.2

theorem MS.local (h : MS u0 w0 ρ ls u w) {i b off : Nat} {l : Loc} {cs cs' : List Value} (hl : ls[i]? = some l) (hb : ρ[i]? = some b) (hp : putN l.cells off cs = some cs') :
    MS u0 w0 ρ (ls.set i { l with cells := cs' }) u (putCells w b off cs) := by
  obtain ⟨hub, hwb⟩ := h.own i l b hl hb
  have hil : i < ls.length := (List.getElem?_eq_some_iff.1 hl).1
  have hput := put_block cs off l.cells cs' w hwb hp
  refine ⟨⟨by rw [put_size]; exact h.le.size, ?_, ?_, ?_, ?_, fun k o hk => ?_⟩, ⟨h.kept.size, fun k hk => ?_⟩, h.sz, by simp [h.len], h.nodup, fun j l' c hl' hc => ?_, h.new⟩
  · have : ∀ (cs : List Value) (o : Nat) (w : World), (putCells w b o cs).tape = w.tape := by intro cs; induction cs with | nil => intros; rfl | cons c cs ih => intro o w; rw [putCells, ih]; rfl
    rw [this]; exact h.le.tape
  · have : ∀ (cs : List Value) (o : Nat) (w : World), (putCells w b o cs).drawn = w.drawn := by intro cs; induction cs with | nil => intros; rfl | cons c cs ih => intro o w; rw [putCells, ih]; rfl
    rw [this]; exact h.le.drawn
  · have : ∀ (cs : List Value) (o : Nat) (w : World), (putCells w b o cs).os = w.os := by intro cs; induction cs with | nil => intros; rfl | cons c cs ih => intro o w; rw [putCells, ih]; rfl
    rw [this]; exact h.le.os
  · have : ∀ (cs : List Value) (o : Nat) (w : World), (putCells w b o cs).output = w.output := by intro cs; induction cs with | nil => intros; rfl | cons c cs ih => intro o w; rw [putCells, ih]; rfl
    rw [this]; exact h.le.output
  · by_cases hkb : k = b
    · subst hkb; rw [hub] at hk; simp only [Option.some.injEq] at hk; exact .inl hk.symm
    · rw [put_heap_other _ _ _ _ hkb]; exact h.le.block k o hk
  · obtain ⟨h1, h2⟩ := h.kept.hole k hk
    have hne : k ≠ b := by
      have h3 := h.new b (List.mem_of_getElem? hb)
      have h4 := (Array.getElem?_eq_some_iff.1 hk).1
      omega
    rw [put_heap_other _ _ _ _ hne]
    exact ⟨h1, h2⟩
  · by_cases hj : j = i
    · subst hj
      rw [List.getElem?_set_self hil] at hl'
      simp only [Option.some.injEq] at hl'
      subst hl'
      rw [hb] at hc
      simp only [Option.some.injEq] at hc
      subst hc
      exact ⟨hub, hput⟩
    · rw [List.getElem?_set_ne (by omega)] at hl'
      obtain ⟨h1, h2⟩ := h.own j l' c hl' hc
      have hne : c ≠ b := by
        intro e
        subst e
        have hjl : j < ρ.length := (List.getElem?_eq_some_iff.1 hc).1
        have := (List.getElem?_inj hjl h.nodup).1 (hc.trans hb.symm)
        exact hj this
      rw [put_heap_other _ _ _ _ hne]
      exact ⟨h1, h2⟩

theorem MS.call (h : MS u0 w0 ρ ls u w) {u' w' : World} (hl : Le u' w') (hk : Kept u w u' w') : MS u0 w0 ρ ls u' w' := by
  refine ⟨hl, ⟨Nat.le_trans h.kept.size hk.size, fun k h0 => ?_⟩, Nat.le_trans h.sz hk.size, h.len, h.nodup, fun i l b hl' hb => ?_, h.new⟩
  · obtain ⟨h1, h2⟩ := h.kept.hole k h0
    obtain ⟨h3, h4⟩ := hk.hole k h1
    exact ⟨h3, h4.trans h2⟩
  · obtain ⟨h1, h2⟩ := h.own i l b hl' hb
    obtain ⟨h3, h4⟩ := hk.hole b h1
    exact ⟨h3, h4.trans h2⟩

end ms

theorem alloc_le (u : World) (o : Obj) : u.heap.size ≤ (allocW u o).heap.size := by simp [allocW]
theorem putSl_le (u : World) (p : Option Addr) (off : Nat) (cs : List Value) : u.heap.size ≤ (putSl u p off cs).heap.size := by cases p <;> simp [putSl, put_size]

theorem Post.wr {u0 w0 u w w' : World} {ρ : List Nat} {ls : List Loc} {a : Act} {o : Oper} {k : KO} {y : Value} {u' : World} (h : k (.v y) ls u' .wr) (hm : MS u0 w0 ρ ls u' w') (hsz : u.heap.size ≤ u'.heap.size) : Post u0 w0 ρ ls u w a o k (a.put o.dst y) w' :=
  ⟨.v y, ls, u', .wr, y, ρ, h, rfl, ⟨[], by simp, by simp⟩, rfl, hm, hsz, fun _ _ => rfl⟩

theorem Post.read {P : Program} {u0 w0 u w : World} {ρ : List Nat} {ls : List Loc} {a : Act} {o : Oper} {k : KO} {Q : Exit → Act → World → Prop} (hm : MS u0 w0 ρ ls u w) (h : ReadOk P ρ ls u w a o k) : o.wp P a w (Post u0 w0 ρ ls u w a o k) Q := by
  obtain ⟨s, v, e, hk, hs, hc, _, hr⟩ := h
  unfold Oper.wp
  rw [hr w hc]
  refine ⟨s, ls, u, e, v, ρ, hk, rfl, ⟨[], by simp, by simp⟩, hs, hm, Nat.le_refl _, ?_⟩
  cases e <;> first | exact ⟨rfl, rfl⟩ | exact hc.elim

/-! ### Zeros -/

theorem repl_get {z : List Value} : ∀ (n j : Nat), j < n * z.length → (repl n z)[j]? = z[j % z.length]?
  | 0, j, h => by simp at h
  | n + 1, j, h => by
    have e : repl (n + 1) z = z ++ repl n z := by simp [repl, List.replicate_succ]
    rw [e]
    rcases Nat.lt_or_ge j z.length with hj | hj
    · rw [List.getElem?_append_left hj, Nat.mod_eq_of_lt hj]
    · rw [List.getElem?_append_right hj, repl_get n (j - z.length) (by rw [Nat.add_mul, Nat.one_mul] at h; omega), Nat.mod_eq_sub_mod hj]

theorem repl_length (n : Nat) (z : List Value) : (repl n z).length = n * z.length := by
  induction n with
  | zero => simp [repl]
  | succ n ih => rw [show repl (n + 1) z = z ++ repl n z by simp [repl, List.replicate_succ], List.length_append, ih, Nat.add_mul, Nat.one_mul, Nat.add_comm]

theorem zeros_eq (n : Nat) (z : List Value) (hz : z ≠ []) : ((Array.range (n * z.length)).map fun i => z.toArray[i % z.toArray.size]!) = (repl n z).toArray := by
  have hpos : 0 < z.length := List.length_pos_iff.2 hz
  apply Array.ext'
  apply List.ext_getElem?
  intro j
  rw [Array.getElem?_toList, Array.getElem?_map]
  rcases Nat.lt_or_ge j (n * z.length) with h | h
  · have hm : j % z.length < z.length := Nat.mod_lt _ hpos
    rw [show (Array.range (n * z.length))[j]? = some j by simp [h]]
    simp only [Option.map_some, List.size_toArray]
    rw [repl_get n j h, List.getElem?_eq_getElem hm]
    simp [hm]
  · rw [Array.getElem?_eq_none (by simpa using h)]
    simp only [Option.map_none]
    rw [List.getElem?_eq_none (by rw [repl_length]; exact h)]

theorem zero_spec {P : Program} {t : TypeId} {ti : TI} (h : TIok P t ti) (hk : ∀ ts, ti.k ≠ .tuple ts) : ∃ i z, P.info? t = some i ∧ i.zero = some z ∧ z.cells = ti.zero.toArray := by
  have hz := h.zero
  cases hki : ti.k <;> rw [hki] at hz <;> first | exact hz | exact absurd hki (hk _)

end Go.Proofs.YtkmmphkjmamckabDoor

/-
  Operations that write, make memory or call, one by one.
-/
namespace Go.Proofs.YtkmmphkjmamckabDoor
open Go
set_option linter.all false

theorem Post.of_run {P : Program} {u0 w0 u w : World} {ρ : List Nat} {ls : List Loc} {a : Act} {o : Oper} {k : KO} {Q : Exit → Act → World → Prop} {y : Value} {w' : World} (hr : (execOp a.eval o).run P w = .ok (.value y) w') (h : Post u0 w0 ρ ls u w a o k (a.put o.dst y) w') :
    o.wp P a w (Post u0 w0 ρ ls u w a o k) Q := by
  unfold Oper.wp
  rw [hr]
  exact h

section
variable {C : Ctx} {ρ : List Nat} {fr : List SV} {ls : List Loc} {u0 w0 u w : World} {a : Act} {Q : Exit → Act → World → Prop}

theorem step_box (hm : MS u0 w0 ρ ls u w) {o : Oper} {t : TypeId} {big : Bool} {cells : List Value} {k : KO} (h : wBox C o.dst t big cells ls u k)
    (hr : (execOp a.eval o).run C.P w = .ok (.value (.pointer (some ⟨w.heap.size, 0, none⟩))) (allocW w (.cells cells.toArray t))) : o.wp C.P a w (Post u0 w0 ρ ls u w a o k) Q := by
  refine Post.of_run hr ?_
  unfold wBox at h
  split at h
  · rw [hm.le.size]
    exact Post.wr h (hm.alloc _) (alloc_le _ _)
  · refine ⟨.lp ls.length 0, _, _, .wr, _, ρ ++ [u.heap.size], h, rfl, ⟨[u.heap.size], rfl, by simp⟩, ⟨u.heap.size, ?_, by rw [hm.le.size]⟩, hm.allocLoc t _ cells, alloc_le _ _, fun m hlt => ?_⟩
    · rw [← hm.len]; simp
    · rw [List.getElem?_append_left hlt]

theorem run_newVar {P : Program} (t : TypeId) (v : Value) (w : World) : (newVar t v).run P w = .ok ⟨w.heap.size, 0, none⟩ (allocW w (.cells v.cells t)) := by
  simp only [newVar, newRow, Sem.run_bind, run_newObj, Result.andThen_ok, Sem.run_pure]
  rfl

theorem step_store (hC : CtxOk C) (hm : MS u0 w0 ρ ls u w) (hf : FrOk ρ fr a) {dst : Option Tmp} {t : TypeId} {x y : Operand} {ty : TypeId} {pos : String} {after : Array Edge} {g : Option (Nat × Bool)} {k : KO}
    (h : wOp C ⟨dst, .store t x y, ty, pos, after, g⟩ fr ls u k) : (Oper.mk dst (.store t x y) ty pos after g).wp C.P a w (Post u0 w0 ρ ls u w a ⟨dst, .store t x y, ty, pos, after, g⟩ k) Q := by
  simp only [wOp] at h
  split at h
  · rename_i v hv
    have hy := asV_eval hf hv
    unfold wStore at h
    split at h
    · rename_i ti hti
      have hti' := hC.ti t ti hti
      have run : ∀ (b q : Nat), a.eval x = .pointer (some ⟨b, q, none⟩) → ti.size = v.cells.toList.length → (∀ c ∈ v.cells.toList, plain c = true) → Wr w b q ti.size →
          (execOp a.eval ⟨dst, .store t x y, ty, pos, after, g⟩).run C.P w = .ok .skip (putCells w b q v.cells.toList) := fun b q hx hz hp hw => by
        simp only [execOp, hx, hy, Sem.run_bind, run_storeAt hti' hz hp hw, Result.andThen_ok, Sem.run_pure]
      have fin : ∀ (b q : Nat) (s : SV) (ls' : List Loc) (u' : World) (e : Eff), a.eval x = .pointer (some ⟨b, q, none⟩) → ti.size = v.cells.toList.length → (∀ c ∈ v.cells.toList, plain c = true) → Wr w b q ti.size → k .junk ls' u' e →
          MS u0 w0 ρ ls' u' (putCells w b q v.cells.toList) → u.heap.size ≤ u'.heap.size → EffOk e ρ ls ls' w (putCells w b q v.cells.toList) → (Oper.mk dst (.store t x y) ty pos after g).wp C.P a w (Post u0 w0 ρ ls u w a ⟨dst, .store t x y, ty, pos, after, g⟩ k) Q :=
        fun b q s ls' u' e hx hz hp hw hk hm' hle he => by
          unfold Oper.wp
          rw [run b q hx hz hp hw]
          exact ⟨.junk, ls', u', e, undef, ρ, hk, rfl, ⟨[], by simp, by simp⟩, trivial, hm', hle, he⟩
      split at h
      · rename_i i off hx
        obtain ⟨b, hb, hx'⟩ := ev_lp hf hx
        split at h
        · rename_i l hl
          obtain ⟨hub, hwb⟩ := hm.own i l b hl hb
          have loc : ∀ cs, putN l.cells off v.cells.toList = some cs → ti.size = v.cells.toList.length → (∀ c ∈ v.cells.toList, plain c = true) → k .junk (ls.set i { l with cells := cs }) u (.wrLoc i) →
              (Oper.mk dst (.store t x y) ty pos after g).wp C.P a w (Post u0 w0 ρ ls u w a ⟨dst, .store t x y, ty, pos, after, g⟩ k) Q := fun cs hp hz hpl hk => by
            refine fin b off .junk _ u (.wrLoc i) hx' hz hpl (by rw [hz]; exact wr_block hwb hp) hk (hm.local hl hb hp) (Nat.le_refl _) ⟨fun m hne => by rw [List.getElem?_set_ne (by omega)], fun j hj => put_heap_other _ _ _ _ (hj b hb)⟩
          split at h
          · obtain ⟨hz, h⟩ := h
            rw [okCells_iff] at h
            obtain ⟨hp, cs, hput, hk⟩ := h
            exact loc cs hput hz hp hk
          · split at h
            · rename_i hz
              have hz' := Nat.eq_of_beq_eq_true hz
              split at h
              · rename_i cs hput
                rw [okCells_iff] at h
                exact loc cs hput hz' h.1 h.2
              · exact h.elim
            · exact h.elim
        · exact h.elim
      · rename_i b q hx
        have hx' := ev_v hf hx
        obtain ⟨hz, h⟩ := h
        rw [okCells_iff] at h
        obtain ⟨hp, hw, hk⟩ := h
        refine fin b q .junk ls _ .wr hx' hz hp (hm.le.wr hw) hk (hm.put (by rw [← hz]; exact hw)) (by rw [put_size]; exact Nat.le_refl _) (fun _ _ => rfl)
      · exact h.elim
    · exact h.elim
  · exact h.elim

theorem nextslicecap_le (need cap : Nat) (h : cap < need) : Builtin.nextslicecap need cap ≤ 2 * need + 192 := by
  have grow : ∀ (r c : Nat), c ≤ 2 * need + 192 → Builtin.growBy need r c ≤ 2 * need + 192 := by
    intro r
    induction r with
    | zero => intro c hc; exact hc
    | succ r ih =>
      intro c hc
      rw [Builtin.growBy]
      split
      · exact hc
      · exact ih _ (by omega)
  unfold Builtin.nextslicecap
  split
  · omega
  · split
    · omega
    · exact grow 4 cap (by omega)

/-- What an append of these cells comes to. -/
theorem run_append {t t' e : TypeId} {ei : TI} {ats : Array TypeId} {ty : TypeId} (ha : ats = #[t, t']) (he : TIok C.P e ei) (hk : ∀ ts, ei.k ≠ .tuple ts) (hd : C.P.underlying t = some (.slice e)) (hd' : ∃ d, C.P.underlying t' = some d ∧ ∀ k, d ≠ .int k)
    {p : Option Addr} {n c m : Nat} {x : Value} {old new : List Value} (ho : old.length = n * ei.size) (hold : Gets w p old) 
    (hlen : ∀ w', (Builtin.lenOf x).run C.P w' = .ok m w') (hcells0 : (Builtin.firstCells ei.size m x).run C.P w = .ok new.toArray w) (hcells1 : (Builtin.firstCells ei.size m x).run C.P (drewW w) = .ok new.toArray (drewW w))
    (hb : 0 < ei.bytes) (hroom : (2 * (n + m) + 192) * ei.bytes ≤ 140737488355328) (hp : ∀ y ∈ new, plain y = true) (hw : n + m ≤ c → WrS w p (n * ei.size) new.length) :
    (n + m ≤ c ∧ (Builtin.append_ ats ty #[.slice p n c, x]).run C.P w = .ok (.slice p (n + m) c) (putSl w p (n * ei.size) new)) ∨
    (c < n + m ∧ ∃ cap, n + m ≤ cap ∧ (Builtin.append_ ats ty #[.slice p n c, x]).run C.P w = .ok (.slice (some ⟨w.heap.size, 0, none⟩) (n + m) cap) (allocW (drewW w) (.cells (old ++ new ++ repl (cap - (n + m)) ei.zero).toArray e))) := by
  subst ha
  obtain ⟨dd, hdd, hni⟩ := hd'
  obtain ⟨inf, hinf, hsz, hby⟩ := he.info
  obtain ⟨inf', z, hinf', hzz, hzc⟩ := zero_spec he hk
  rw [hinf] at hinf'
  simp only [Option.some.injEq] at hinf'
  subst hinf'
  have hzl : ei.zero.length = ei.size := by
    have := he.zlen
    cases hki : ei.k <;> rw [hki] at this <;> first | exact this | exact absurd hki (hk _)
  by_cases hc : n + m ≤ c
  · refine .inl ⟨hc, ?_⟩
    simp only [Builtin.append_, List.getElem?_toArray, List.getElem?_cons_zero, List.getElem?_cons_succ, Sem.run_bind, run_under hd, Result.andThen_ok, run_sizeOf he, run_under hdd, Bool.false_eq_true, ↓reduceIte, hlen, hc, Bool.not_false, hcells0, Sem.run_pure, Sem.run_ite]
    cases p with
    | none => simp [putSl]
    | some ad =>
      have := run_storeCells_wrs (P := C.P) (hw hc) hp
      simp only [putSl, Sem.run_bind, this, Result.andThen_ok, Sem.run_pure]
  · refine .inr ⟨by omega, ?_⟩
    have hcapq : ∀ tp, ∃ cap, n + m ≤ cap ∧ (Question.appendCap (n + m) c e).cut tp = cap := fun tp => ⟨_, Nat.le_add_right _ _, rfl⟩
    obtain ⟨cap, hcap, hcut⟩ := hcapq (w.tape w.drawn (.appendCap (n + m) c e))
    refine ⟨cap, hcap, ?_⟩
    have hns := nextslicecap_le (n + m) c (by omega)
    have h1 : ¬ Builtin.nextslicecap (n + m) c * inf.bytes > 2 ^ 48 := by
      rw [hby]
      have := Nat.mul_le_mul_right ei.bytes hns
      omega
    have hforced : (Question.appendCap (n + m) c e).forced = false := rfl
    have hfirst : (Builtin.firstCells ei.size n (.slice p n c)).run C.P (drewW w) = .ok old.toArray (drewW w) := by
      cases p with
      | none =>
        have : old = [] := hold
        subst this
        simp [Builtin.firstCells]
      | some ad =>
        have hr : Gets (drewW w) (some ad) old := ⟨hold.1, by
          have := hold.2
          rw [Rd_iff] at this ⊢
          exact this⟩
        simp only [Builtin.firstCells]
        rw [← ho]
        exact run_loadCells_gets hr
    have hzero : ∀ k : Nat, Builtin.zeroCells ei.zero.toArray k = (repl k ei.zero).toArray := fun k => by
      by_cases hz0 : ei.zero = []
      · rw [hz0]; simp [Builtin.zeroCells, repl]
      · unfold Builtin.zeroCells
        rw [← zeros_eq k ei.zero hz0]
        simp
    simp only [Builtin.append_, List.getElem?_toArray, List.getElem?_cons_zero, List.getElem?_cons_succ, Sem.run_bind, run_under hd, Result.andThen_ok, run_sizeOf he, run_under hdd, Bool.false_eq_true, ↓reduceIte, hlen, hc, Sem.run_ite, typeInfo, run_program, hinf, Sem.run_pure]
    simp only [hby] at *
    have h2' : ¬ (((n + m : Nat) : Int) > IntKind.i64.max ∧ (False ∨ ei.bytes = 0)) := by
      intro h
      rcases h.2 with h3 | h3
      · exact h3
      · omega
    rw [if_neg h2', if_neg h1]
    simp only [run_choose, hforced, Bool.false_eq_true, if_false, hcut, run_askRoom, Result.andThen_ok]
    have hdw : ({ w with drawn := w.drawn + 1 } : World) = drewW w := rfl
    rw [hdw]
    simp only [hfirst, Result.andThen_ok, Bool.not_false, if_true, hcells1, zeroValue, typeInfo, Sem.run_bind, run_program, hinf, Sem.run_pure, hzz, hzc, hzero, newRow, run_newObj]
    congr 1
    simp [allocW]


/-- Zeros at the end of a slice that has no room for them. -/
theorem run_appendZ {t t' e : TypeId} {ei : TI} {ats : Array TypeId} {ty : TypeId} (ha : ats = #[t, t']) (he : TIok C.P e ei) (hk : ∀ ts, ei.k ≠ .tuple ts) (hd : C.P.underlying t = some (.slice e)) {kn : IntKind} (hd' : C.P.underlying t' = some (.int kn))
    {p : Option Addr} {n c m : Nat} {kq : IntKind} {old : List Value} (ho : old.length = n * ei.size) (hold : Gets w p old) (hb : 0 < ei.bytes) (hs : 0 < ei.size) (h0 : 0 < m) (hc : c < n + m) (hroom : (2 * (n + m) + 192) * ei.bytes ≤ 140737488355328) :
    ∃ cap, n + m ≤ cap ∧ (Builtin.append_ ats ty #[.slice p n c, .int kq (m : Nat)]).run C.P w = .ok (.slice (some ⟨w.heap.size, 0, none⟩) (n + m) cap) (allocW (drewW w) (.cells (old ++ repl m ei.zero ++ repl (cap - (n + m)) ei.zero).toArray e)) := by
  subst ha
  obtain ⟨inf, hinf, hsz, hby⟩ := he.info
  obtain ⟨inf', z, hinf', hzz, hzc⟩ := zero_spec he hk
  rw [hinf] at hinf'
  simp only [Option.some.injEq] at hinf'
  subst hinf'
  have hfirst : (Builtin.firstCells inf.size n (.slice p n c)).run C.P w.drew = .ok old.toArray w.drew := by
    rw [hsz]
    cases p with
    | none =>
      have : old = [] := hold
      subst this
      simp [Builtin.firstCells]
    | some ad =>
      have hr : Gets (drewW w) (some ad) old := ⟨hold.1, by
        have := hold.2
        rw [Rd_iff] at this ⊢
        exact this⟩
      simp only [Builtin.firstCells]
      rw [← ho]
      exact run_loadCells_gets hr
  have hzero : ∀ k : Nat, Builtin.zeroCells z.cells k = (repl k ei.zero).toArray := fun k => by
    rw [hzc]
    by_cases hz0 : ei.zero = []
    · rw [hz0]; simp [Builtin.zeroCells, repl]
    · unfold Builtin.zeroCells
      rw [← zeros_eq k ei.zero hz0]
      simp
  have hns := nextslicecap_le (n + m) c hc
  have hmul := Nat.mul_le_mul_right ei.bytes hns
  have hm1 : m * ei.bytes ≤ (2 * (n + m) + 192) * ei.bytes := Nat.mul_le_mul_right _ (by omega)
  have hm2 : (n + m) * 1 ≤ (2 * (n + m) + 192) * ei.bytes := Nat.mul_le_mul (by omega) hb
  have := Lib.run_append_grow_zeros w t t' ty e inf z kq kn hd hd' hinf hzz p n c old hfirst m h0 (by rw [hsz]; exact hs) hc (by omega) (by rw [hby]; omega) (by rw [hby]; omega)
  refine ⟨grownCap w (n + m) c e, grownCap_ge w (n + m) c e, ?_⟩
  rw [this]
  congr 1
  unfold allocW drewW World.alloc World.drew
  simp only [hzero]
  congr 3
  simp

end
end Go.Proofs.YtkmmphkjmamckabDoor

/-
  Every operation.
-/
namespace Go.Proofs.YtkmmphkjmamckabDoor
open Go
set_option linter.all false

section
variable {C : Ctx} {ρ : List Nat} {fr : List SV} {ls : List Loc} {u0 w0 u w : World} {a : Act} {Q : Exit → Act → World → Prop}

theorem rd_drew {w : World} {b o : Nat} {cs : List Value} (h : Rd w b o cs) : Rd (drewW w) b o cs := by rw [Rd_iff] at *; exact h
theorem gets_drew {w : World} {p : Option Addr} {cs : List Value} (h : Gets w p cs) : Gets (drewW w) p cs := by
  cases p with
  | none => exact h
  | some a => exact ⟨h.1, rd_drew h.2⟩

theorem run_firstCells_sl {P : Program} {w : World} {p : Option Addr} {es m c : Nat} {cs : List Value} (h : Gets w p cs) (hl : cs.length = m * es) : (Builtin.firstCells es m (.slice p m c)).run P w = .ok cs.toArray w := by
  cases p with
  | none =>
    have : cs = [] := h
    subst this
    rfl
  | some ad =>
    simp only [Builtin.firstCells]
    rw [← hl]
    exact run_loadCells_gets h

theorem run_firstCells_len {P : Program} {w : World} {p : Option Addr} {es n m c : Nat} {cs : List Value} (h : Gets w p cs) (hl : cs.length = n * es) : (Builtin.firstCells es n (.slice p m c)).run P w = .ok cs.toArray w := by
  cases p with
  | none =>
    have : cs = [] := h
    subst this
    rfl
  | some ad =>
    simp only [Builtin.firstCells]
    rw [← hl]
    exact run_loadCells_gets h

theorem run_firstCells_str {P : Program} {w : World} {es : Nat} {s : ByteArray} : (Builtin.firstCells es s.size (.string s)).run P w = .ok (bytesV s).toArray w := by
  simp only [Builtin.firstCells, Sem.run_pure]
  congr 1
  apply Array.ext'
  simp [bytesV]

theorem step_builtin (hC : CtxOk C) (hm : MS u0 w0 ρ ls u w) (hf : FrOk ρ fr a) {dst : Option Tmp} {b : Builtin} {xs : Array Operand} {ats : Array TypeId} {ty : TypeId} {pos : String} {after : Array Edge} {g : Option (Nat × Bool)} {k : KO}
    {args : List Value} (hargs : asVs fr xs.toList = some args) (h : wBuiltin C b ats.toList args u fun y u e => k (.v y) ls u e) :
    (Oper.mk dst (.call ⟨.builtin b, xs, ats⟩) ty pos after g).wp C.P a w (Post u0 w0 ρ ls u w a ⟨dst, .call ⟨.builtin b, xs, ats⟩, ty, pos, after, g⟩ k) Q := by
  have hxs : xs.map a.eval = args.toArray := by
    have := asVs_eval hf _ _ hargs
    apply Array.ext'
    simp [this]
  by_cases hb : b = .len ∨ b = .max ∨ b = .min
  · exact Post.read hm (read_builtin hC hf hb hargs h)
  have run : ∀ (y : Value) (w' : World), (builtin b ats ty (xs.map fun | .const _ => true | _ => false) args.toArray).run C.P w = .ok (.value y) w' → (execOp a.eval ⟨dst, .call ⟨.builtin b, xs, ats⟩, ty, pos, after, g⟩).run C.P w = .ok (.value y) w' := fun y w' hr => by
    rw [BigFrame.execOp_builtin, hxs]
    exact hr
  obtain ⟨atl⟩ := ats
  simp only at h
  cases b <;> simp only [wBuiltin] at h <;> (try exact (hb (.inl rfl)).elim) <;> (try exact (hb (.inr (.inl rfl))).elim) <;> (try exact (hb (.inr (.inr rfl))).elim)
  case append =>
    unfold wAppend at h
    rcases atl with _ | ⟨t, _ | ⟨t', _ | ⟨t'', atl⟩⟩⟩ <;> try (simp only at h)
    rcases args with _ | ⟨x, _ | ⟨y, _ | ⟨z, args⟩⟩⟩ <;> try (simp only at h)
    cases x <;> try (simp only at h)
    rename_i p n c
    have fin : ∀ (e : TypeId) (ei : TI) (m : Nat) (src : List Value → Prop), elemTI C t = some (e, ei) → C.P.underlying t = some (.slice e) → (∃ d, C.P.underlying t' = some d ∧ ∀ k, d ≠ .int k) →
        (∀ w', (Builtin.lenOf y).run C.P w' = .ok m w') → (∀ new, src new → new.length = m * ei.size → (Builtin.firstCells ei.size m y).run C.P w = .ok new.toArray w ∧ (Builtin.firstCells ei.size m y).run C.P (drewW w) = .ok new.toArray (drewW w)) →
        appendVC u e ei.size ei.bytes ei.zero p n c m src (fun y u' => k (.v y) ls u' .wr) →
        (Oper.mk dst (.call ⟨.builtin .append, xs, [t, t'].toArray⟩) ty pos after g).wp C.P a w (Post u0 w0 ρ ls u w a ⟨dst, .call ⟨.builtin .append, xs, [t, t'].toArray⟩, ty, pos, after, g⟩ k) Q := by
      intro e ei m src he hd hd' hlen hcells hv
      obtain ⟨hti, _, htup, _⟩ := elemTI_spec hC he
      obtain ⟨old, new, ho, hold, hn, hsrc, heb, hroom, hp, h1, h2⟩ := hv
      rw [okCells_iff] at hp
      obtain ⟨hc0, hc1⟩ := hcells new hsrc hn
      rcases run_append (C := C) (ty := ty) rfl hti htup hd hd' ho (hm.le.gets hold) hlen hc0 hc1 heb hroom hp.1 (fun hc => by rw [hn]; exact hm.le.wrs (h1 hc)) with ⟨hc, hr⟩ | ⟨hc, cap, hcap, hr⟩
      · refine Post.of_run (y := .slice p (n + m) c) (w' := putSl w p (n * ei.size) new) (run _ _ (by rw [BigFrame.builtin_append, Sem.run_bind, hr]; rfl)) ?_
        exact Post.wr (h2 _ _ _ (.inl ⟨hc, rfl, rfl, rfl⟩)) (hm.putSl (by rw [hn]; exact h1 hc)) (putSl_le _ _ _ _)
      · refine Post.of_run (y := .slice (some ⟨w.heap.size, 0, none⟩) (n + m) cap) (w' := allocW (drewW w) (.cells (old ++ new ++ repl (cap - (n + m)) ei.zero).toArray e)) (run _ _ (by rw [BigFrame.builtin_append, Sem.run_bind, hr]; rfl)) ?_
        have hk := h2 _ _ _ (.inr ⟨hc, hcap, rfl, rfl⟩)
        rw [hm.le.size]
        exact Post.wr hk (hm.drew.alloc _) (alloc_le (drewW u) _)
    split at h
    · rename_i e0 _ _ _ e ei e1 _ _ _ xp m xc ht he ht'
      obtain ⟨dd, hd, hk⟩ := tiCell hC ht
      simp only [TKok] at hk
      subst hk
      obtain ⟨dd', hd', hk'⟩ := tiCell hC ht'
      simp only [TKok] at hk'
      subst hk'
      have hee : e = e0 := by
        rcases (elemTI_spec hC he).2.2.2 with ⟨_, _, _, hu⟩ | ⟨_, _, _, _, hu⟩
        · rw [hd] at hu; simpa using hu.symm
        · rw [hd] at hu; simp at hu
      subst hee
      exact fin e ei m _ he hd ⟨_, hd', by simp⟩ (fun w' => rfl) (fun new hs hl => ⟨run_firstCells_sl (hm.le.gets hs) hl, run_firstCells_sl (gets_drew (hm.le.gets hs)) hl⟩) h
    · rename_i e0 _ _ _ e ei _ _ _ s ht he ht'
      obtain ⟨dd, hd, hk⟩ := tiCell hC ht
      simp only [TKok] at hk
      subst hk
      obtain ⟨dd', hd', hk'⟩ := tiCell hC ht'
      simp only [TKok] at hk'
      subst hk'
      have hee : e = e0 := by
        rcases (elemTI_spec hC he).2.2.2 with ⟨_, _, _, hu⟩ | ⟨_, _, _, _, hu⟩
        · rw [hd] at hu; simpa using hu.symm
        · rw [hd] at hu; simp at hu
      subst hee
      exact fin e ei s.size _ he hd ⟨_, hd', by simp⟩ (fun w' => rfl) (fun new hs _ => by obtain ⟨rfl, _⟩ := hs; exact ⟨run_firstCells_str, run_firstCells_str⟩) h
    · rename_i e0 _ _ _ e ei kn _ _ _ kq m ht he ht'
      obtain ⟨dd, hd, hk⟩ := tiCell hC ht
      simp only [TKok] at hk
      subst hk
      obtain ⟨dd', hd', hk'⟩ := tiCell hC ht'
      simp only [TKok] at hk'
      subst hk'
      have hee : e = e0 := by
        rcases (elemTI_spec hC he).2.2.2 with ⟨_, _, _, hu⟩ | ⟨_, _, _, _, hu⟩
        · rw [hd] at hu; simpa using hu.symm
        · rw [hd] at hu; simp at hu
      subst hee
      obtain ⟨hti, _, htup, _⟩ := elemTI_spec hC he
      obtain ⟨old, ho, hold, heb, hes, h0, hc, hroom, h2⟩ := h
      obtain ⟨mn, hmn⟩ : ∃ mn : Nat, m = mn := ⟨m.toNat, by omega⟩
      subst hmn
      rw [Int.toNat_natCast] at h2
      have hroom' : (2 * (n + mn) + 192) * ei.bytes ≤ 140737488355328 := by
        have e : (((2 * (n + mn) + 192) * ei.bytes : Nat) : Int) = (2 * ((n : Int) + mn) + 192) * (ei.bytes : Int) := by simp only [Int.natCast_mul, Int.natCast_add]; rfl
        have h1 := hroom
        rw [← e] at h1
        omega
      obtain ⟨cap, hcap, hr⟩ := run_appendZ (C := C) (ats := [t, t'].toArray) (ty := ty) (kq := kq) (m := mn) (c := c) (n := n) rfl hti htup hd hd' ho (hm.le.gets hold) heb hes (by omega) (by omega) hroom'
      refine Post.of_run (y := .slice (some ⟨w.heap.size, 0, none⟩) (n + mn) cap) (w' := allocW (drewW w) (.cells (old ++ repl mn ei.zero ++ repl (cap - (n + mn)) ei.zero).toArray e)) (run _ _ (by rw [BigFrame.builtin_append, Sem.run_bind, hr]; rfl)) ?_
      have hcn : c < n + mn := by omega
      have hk := h2 (some ⟨u.heap.size, 0, none⟩) cap _ (.inr ⟨hcn, hcap, rfl, rfl⟩)
      rw [hm.le.size]
      exact Post.wr hk (hm.drew.alloc _) (alloc_le (drewW u) _)
    · exact h.elim
  case cap =>
    unfold wCap at h
    rcases atl with _ | ⟨t, _ | ⟨t', atl⟩⟩ <;> try (simp only at h)
    rcases args with _ | ⟨x, _ | ⟨y, args⟩⟩ <;> try (simp only at h)
    cases x <;> try (simp only at h)
    rename_i p n c
    split at h
    · rename_i ht
      obtain ⟨dd, hd, hk⟩ := tiCell hC ht
      simp only [TKok] at hk
      subst hk
      refine Post.of_run (run _ w ?_) (Post.wr h hm (Nat.le_refl _))
      simp [builtin, Builtin.cap_, goInt, run_under hd]
    · exact h.elim
  case clear =>
    unfold wClear at h
    rcases atl with _ | ⟨t, _ | ⟨t', atl⟩⟩ <;> try (simp only at h)
    rcases args with _ | ⟨x, _ | ⟨y, args⟩⟩ <;> try (simp only at h)
    cases x <;> try (simp only at h)
    rename_i p n c
    split at h
    · rename_i e0 _ _ _ e ei ht he
      obtain ⟨dd, hd, hk⟩ := tiCell hC ht
      simp only [TKok] at hk
      subst hk
      have hee : e = e0 := by
        rcases (elemTI_spec hC he).2.2.2 with ⟨_, _, _, hu⟩ | ⟨_, _, _, _, hu⟩
        · rw [hd] at hu; simpa using hu.symm
        · rw [hd] at hu; simp at hu
      subst hee
      obtain ⟨hti, hz, htup, _⟩ := elemTI_spec hC he
      obtain ⟨hp, hw, hk⟩ := h
      rw [okCells_iff] at hp
      obtain ⟨inf, z, hinf, hzz, hzc⟩ := zero_spec hti htup
      have hzl : ei.zero.length = ei.size := by
        have := hti.zlen
        cases hki : ei.k <;> rw [hki] at this <;> first | exact this | exact absurd hki (htup _)
      have hne : ei.zero ≠ [] := by intro e; rw [e] at hzl; exact hz hzl.symm
      have hl : (repl n ei.zero).length = n * ei.size := by rw [repl_length, hzl]
      refine Post.of_run (run _ (putSl w p 0 (repl n ei.zero)) ?_) (Post.wr hk (hm.putSl (by rw [hl]; exact hw)) (putSl_le _ _ _ _))
      have hw' := hm.le.wrs hw
      cases p with
      | none => simp [builtin, Builtin.clear_, run_under hd, putSl]
      | some ad =>
        cases n with
        | zero => simp [builtin, Builtin.clear_, run_under hd, putSl, repl, putCells]
        | succ n =>
          have hst := run_storeCells_wrs (P := C.P) (ad := ad) (off := 0) (cs := repl (n + 1) ei.zero) (w := w) (by rw [hl]; exact hw') hp.1
          have e1 : ad.add 0 = ad := by obtain ⟨b, o, s⟩ := ad; cases s <;> simp [Addr.add]
          rw [e1] at hst
          have hzero : Builtin.zeroCells ei.zero.toArray (n + 1) = (repl (n + 1) ei.zero).toArray := by
            unfold Builtin.zeroCells
            rw [← zeros_eq (n + 1) ei.zero hne]
            simp
          simp [builtin, Builtin.clear_, run_under hd, zeroValue, typeInfo, hinf, hzz, hzc, hzero, hst, putSl]
    · exact h.elim
  case copy =>
    unfold wCopy at h
    rcases atl with _ | ⟨t, _ | ⟨t', _ | ⟨t'', atl⟩⟩⟩ <;> try (simp only at h)
    rcases args with _ | ⟨x, _ | ⟨y, _ | ⟨z, args⟩⟩⟩ <;> try (simp only at h)
    cases x <;> try (simp only at h)
    rename_i p n c
    split at h
    · rename_i e0 _ _ _ e ei xp m xc ht he
      obtain ⟨dd, hd, hk⟩ := tiCell hC ht
      simp only [TKok] at hk
      subst hk
      have hee : e = e0 := by
        rcases (elemTI_spec hC he).2.2.2 with ⟨_, _, _, hu⟩ | ⟨_, _, _, _, hu⟩
        · rw [hd] at hu; simpa using hu.symm
        · rw [hd] at hu; simp at hu
      subst hee
      obtain ⟨hti, _, _, _⟩ := elemTI_spec hC he
      obtain ⟨cs, hl, hsrc, hp, hw, hk⟩ := h
      rw [okCells_iff] at hp
      have hfc := run_firstCells_len (P := C.P) (m := m) (c := xc) (hm.le.gets hsrc) hl
      refine Post.of_run (run _ (putSl w p 0 cs) ?_) (Post.wr hk (hm.putSl (by rw [hl]; exact hw)) (putSl_le _ _ _ _))
      have hw' := hm.le.wrs hw
      have hstore : ((match p with | some ad => storeCells ad cs | none => pure ()) : Sem Unit).run C.P w = .ok () (putSl w p 0 cs) := by
        cases p with
        | none => rfl
        | some ad =>
          have := run_storeCells_wrs (P := C.P) (ad := ad) (off := 0) (cs := cs) (w := w) (by rw [hl]; exact hw') hp.1
          have e : ad.add 0 = ad := by obtain ⟨b, o, s⟩ := ad; cases s <;> simp [Addr.add]
          rw [e] at this
          simpa [putSl] using this
      rw [BigFrame.builtin_copy]
      simp only [Builtin.copy_, List.getElem?_toArray, List.getElem?_cons_zero, List.getElem?_cons_succ, Sem.run_bind, run_under hd, Result.andThen_ok, Builtin.lenOf, Sem.run_pure, run_sizeOf hti]
      rw [show Nat.min m n = min m n from rfl, hfc]
      simp only [Result.andThen_ok]
      cases p with
      | none => simp [putSl, goInt]
      | some ad =>
        simp only at hstore
        simp [hstore, goInt]
    · exact h.elim

theorem step_buildSlice (hC : CtxOk C) (hm : MS u0 w0 ρ ls u w) (hf : FrOk ρ fr a) {dst : Option Tmp} {t : TypeId} {n : Nat} {parts : Array (Nat × Operand)} {ty : TypeId} {pos : String} {after : Array Edge} {g : Option (Nat × Bool)} {k : KO}
    (h : wOp C ⟨dst, .buildSlice t n parts, ty, pos, after, g⟩ fr ls u k) : (Oper.mk dst (.buildSlice t n parts) ty pos after g).wp C.P a w (Post u0 w0 ρ ls u w a ⟨dst, .buildSlice t n parts, ty, pos, after, g⟩ k) Q := by
  simp only [wOp] at h
  split at h
  · rename_i e0 _ _ _ e ei l ht he hl
    obtain ⟨dd, hd, hk⟩ := tiCell hC ht
    simp only [TKok] at hk
    subst hk
    have hee : e = e0 := by
      rcases (elemTI_spec hC he).2.2.2 with ⟨_, _, _, hu⟩ | ⟨_, _, _, _, hu⟩
      · rw [hd] at hu; simpa using hu.symm
      · rw [hd] at hu; simp at hu
    subst hee
    obtain ⟨hti, hz, htup, _⟩ := elemTI_spec hC he
    split at h
    · rename_i hble
      have hle := Nat.le_of_ble_eq_true hble
      split at h
      · rename_i cells hfill
        have hparts := partsV_eval hf parts.toList l hl
        have hpl : (parts.map fun (i, x) => (i, a.eval x)).toList = l := by rw [← hparts]; simp
        obtain ⟨inf, z, hinf, hzz, hzc⟩ := zero_spec hti htup
        have hzl : ei.zero.length = ei.size := by
          have := hti.zlen
          cases hki : ei.k <;> rw [hki] at this <;> first | exact this | exact absurd hki (htup _)
        have hne : ei.zero ≠ [] := by intro e; rw [e] at hzl; exact hz hzl.symm
        have hfs := fill_spec hC (t := t) (place := fun i => some (i * ei.size, ei.size)) (fun i off fi hm => by
          rw [ht] at hm
          simp only [he, Option.map_some, Option.some.injEq, Prod.mk.injEq] at hm
          rw [← hm.1, ← hm.2]) l (repl n ei.zero) cells hfill
        refine Post.of_run (y := .slice (some ⟨w.heap.size, 0, none⟩) n n) (w' := allocW w (.cells cells.toArray e)) ?_ (by rw [hm.le.size]; exact Post.wr h (hm.alloc _) (alloc_le _ _))
        have hbig : ¬ n * ei.size > 2 ^ 24 := by omega
        simp only [execOp, Instr.buildSlice, Sem.run_bind, run_under hd, Result.andThen_ok, run_sizeOf hti]
        rw [if_neg hbig]
        by_cases h0 : n * ei.size = 0
        · have hr0 : repl n ei.zero = [] := List.length_eq_zero_iff.1 (by rw [repl_length, hzl]; exact h0)
          rw [hr0] at hfs
          rw [if_pos h0]
          simp only [h0, Array.range_zero', List.map_toArray, List.map_nil, hpl, hfs, newRow, Sem.run_bind, run_newObj, Sem.run_pure, Result.andThen_ok]
          rfl
        · have hrow : ((Array.range (n * ei.size)).map fun i => ei.zero.toArray[i % ei.zero.toArray.size]!) = (repl n ei.zero).toArray := by
            rw [← hzl]
            exact zeros_eq n ei.zero hne
          rw [if_neg h0]
          simp only [zeroValue, typeInfo, Sem.run_bind, run_program, hinf, Sem.run_pure, Result.andThen_ok, hzz, hzc, hrow, hpl, hfs, newRow, run_newObj]
          rfl
      · exact h.elim
    · exact h.elim
  · exact h.elim

theorem step_makeSlice (hC : CtxOk C) (hm : MS u0 w0 ρ ls u w) (hf : FrOk ρ fr a) {dst : Option Tmp} {t : TypeId} {l c : Operand} {ty : TypeId} {pos : String} {after : Array Edge} {g : Option (Nat × Bool)} {k : KO}
    (h : wOp C ⟨dst, .makeSlice t l c, ty, pos, after, g⟩ fr ls u k) : (Oper.mk dst (.makeSlice t l c) ty pos after g).wp C.P a w (Post u0 w0 ρ ls u w a ⟨dst, .makeSlice t l c, ty, pos, after, g⟩ k) Q := by
  simp only [wOp] at h
  split at h
  · rename_i e0 _ _ _ e ei k1 n k2 m ht he hl hc
    obtain ⟨dd, hd, hk⟩ := tiCell hC ht
    simp only [TKok] at hk
    subst hk
    have hee : e = e0 := by
      rcases (elemTI_spec hC he).2.2.2 with ⟨_, _, _, hu⟩ | ⟨_, _, _, _, hu⟩
      · rw [hd] at hu; simpa using hu.symm
      · rw [hd] at hu; simp at hu
    subst hee
    obtain ⟨hti, hz, htup, _⟩ := elemTI_spec hC he
    obtain ⟨h0, h1, h2, h3, h4⟩ := h
    obtain ⟨inf', hinf', _, hby⟩ := hti.info
    obtain ⟨inf, z, hinf, hzz, hzc⟩ := zero_spec hti htup
    rw [hinf] at hinf'
    simp only [Option.some.injEq] at hinf'
    subst hinf'
    have hzl : ei.zero.length = ei.size := by
      have := hti.zlen
      cases hki : ei.k <;> rw [hki] at this <;> first | exact this | exact absurd hki (htup _)
    have hne : ei.zero ≠ [] := by intro e; rw [e] at hzl; exact hz hzl.symm
    refine Post.of_run (y := .slice (some ⟨w.heap.size, 0, none⟩) n.toNat m.toNat) (w' := allocW w (.cells (repl m.toNat ei.zero).toArray e)) ?_ (by rw [hm.le.size]; exact Post.wr h4 (hm.alloc _) (alloc_le _ _))
    have hw1 : IntKind.i64.wrap n = n := IntWalk.i64_in n (by omega)
    have hw2 : IntKind.i64.wrap m = m := IntWalk.i64_in m (by omega)
    have hcond : ¬ ((decide (m < 0) || decide ((inf.bytes : Int) * m > 2 ^ 48)) || decide (n < 0) || decide (n > m)) = true := by
      rw [hby]
      simp only [Bool.or_eq_true, decide_eq_true_eq]
      omega
    simp only [execOp, ev_v hf hl, ev_v hf hc, Instr.makeSlice, Sem.run_bind, run_under hd, Result.andThen_ok, asInt, asIntOf, Sem.run_pure, typeInfo, run_program, hinf, hw1, hw2]
    rw [if_neg hcond]
    simp only [run_askRoom, Result.andThen_ok, run_sizeOf hti, Sem.run_bind]
    by_cases h0 : m.toNat * ei.size = 0
    · have hr0 : repl m.toNat ei.zero = [] := List.length_eq_zero_iff.1 (by rw [repl_length, hzl]; exact h0)
      rw [hr0, if_pos h0]
      simp only [h0, Array.range_zero', List.map_toArray, List.map_nil, newRow, Sem.run_bind, run_newObj, Sem.run_pure, Result.andThen_ok]
      rfl
    · have hrow : ((Array.range (m.toNat * ei.size)).map fun i => ei.zero.toArray[i % ei.zero.toArray.size]!) = (repl m.toNat ei.zero).toArray := by
        rw [← hzl]
        exact zeros_eq m.toNat ei.zero hne
      rw [if_neg h0]
      simp only [zeroValue, typeInfo, Sem.run_bind, run_program, hinf, Sem.run_pure, Result.andThen_ok, hzz, hzc, hrow, newRow, run_newObj]
      rfl
  · exact h.elim

theorem run_call {P : Program} {id : FuncId} {fn : Func} (hfn : P.funcs[id]? = some fn) (h1 : (fn.name == "runtime.NumGoroutine") = false) (h2 : fn.body.isNone = false) (args : Array Value) (w : World) : (callFunc id args).run P w = .ok (.enter id args) w := by
  simp only [callFunc, Sem.run_bind, run_program, Result.andThen_ok, hfn, h1, h2, Bool.false_eq_true, if_false, Sem.run_pure]

theorem exTy_some {T : List TI} {t : TypeId} {p : Value → Prop} (h : exTy T t p) : ∃ y, p y := by
  have one : ∀ (t : TypeId) (p : Value → Prop), exOne T t p → ∃ y, p y := fun t p h => by
    obtain ⟨ti, hti⟩ := exOne_ti h
    obtain ⟨y, h, _⟩ := exOne_spec hti h
    exact ⟨y, h⟩
  have many : ∀ (ts : List TypeId) (p : List Value → Prop), exMany T ts p → ∃ y, p y := by
    intro ts
    induction ts with
    | nil => intro p h; exact ⟨_, h⟩
    | cons t ts ih =>
      intro p h
      obtain ⟨x, h⟩ := one _ _ h
      obtain ⟨l, h⟩ := ih _ h
      exact ⟨_, h⟩
  unfold exTy at h
  split at h
  · obtain ⟨l, h⟩ := many _ _ h
    exact ⟨_, h⟩
  · exact one _ _ h

theorem step_call (hC : CtxOk C) (hm : MS u0 w0 ρ ls u w) (hf : FrOk ρ fr a) {dst : Option Tmp} {f : Operand} {xs : Array Operand} {ats : Array TypeId} {ty : TypeId} {pos : String} {after : Array Edge} {g : Option (Nat × Bool)} {k : KO}
    {args : List Value} (hargs : asVs fr xs.toList = some args) (h : wCall C ⟨dst, .call ⟨.value f, xs, ats⟩, ty, pos, after, g⟩ (ev fr f) args ls u k) :
    (Oper.mk dst (.call ⟨.value f, xs, ats⟩) ty pos after g).wp C.P a w (Post u0 w0 ρ ls u w a ⟨dst, .call ⟨.value f, xs, ats⟩, ty, pos, after, g⟩ k) Q := by
  have hxs : xs.map a.eval = args.toArray := by
    have := asVs_eval hf _ _ hargs
    apply Array.ext'
    simp [this]
  unfold wCall at h
  split at h
  · rename_i id first captured hev
    split at h
    · rename_i hmem
      have hfe := ev_v hf hev
      obtain ⟨fn, hfn, h1, h2⟩ := hC.fn id hmem
      unfold Oper.wp
      have hrun : (execOp a.eval ⟨dst, .call ⟨.value f, xs, ats⟩, ty, pos, after, g⟩).run C.P w = .ok (.enter id (first ++ args.toArray ++ captured)) w := by
        simp only [execOp, resolve, Deferred.ofValue, hfe, hxs, Sem.run_bind, Sem.run_pure, Result.andThen_ok, invoke, run_call hfn h1 h2]
      rw [hrun]
      have hspec := h w hm.le
      rw [show (first.toList ++ args ++ captured.toList).toArray = first ++ args.toArray ++ captured by apply Array.ext'; simp] at hspec
      refine Calls.mono hspec fun e w' ⟨u', hR, hle, hkept⟩ => ?_
      obtain ⟨y, rfl, hk⟩ := exTy_some hR
      exact Post.wr hk (hm.call hle hkept) hkept.size
    · have hfe := ev_v hf hev
      obtain ⟨y, hrun, hk⟩ := exTy_some h
      have hr := hrun w hm.le
      rw [show (first.toList ++ args ++ captured.toList).toArray = first ++ args.toArray ++ captured by apply Array.ext'; simp] at hr
      refine Post.of_run (y := y) (w' := w) ?_ (Post.wr hk hm (Nat.le_refl _))
      simp only [execOp, resolve, Deferred.ofValue, hfe, hxs, Sem.run_bind, Sem.run_pure, Result.andThen_ok, invoke, hr]
  · exact h.elim

theorem foldl_bytes : ∀ (l : List UInt8) (s : ByteArray), (l.map fun b => ((b.toNat : Nat) : Int)).foldl (fun r n => r.push (UInt8.ofNat n.toNat)) s = ⟨s.data ++ l.toArray⟩
  | [], s => by simp
  | b :: l, s => by
    rw [List.map_cons, List.foldl_cons, foldl_bytes l]
    simp [ByteArray.push]

theorem run_bytes {P : Program} {w : World} {p : Option Addr} {n c : Nat} {st : ByteArray} (hsz : st.size = n) (hg : Gets w p (bytesV st)) : (Conv.bytesToString (.slice p n c)).run P w = .ok (.string st) w := by
  cases p with
  | none =>
    have h0 : bytesV st = [] := hg
    have : st = ByteArray.empty := by
      obtain ⟨⟨l⟩⟩ := st
      simp only [bytesV, List.map_eq_nil_iff] at h0
      subst h0
      rfl
    subst this
    rfl
  | some ad =>
    have hl := run_loadCells_gets (P := P) hg
    have hlen : (bytesV st).length = n := by rw [← hsz]; simp [bytesV]
    rw [hlen] at hl
    have e : bytesV st = ((st.data.toList.map fun b => ((b.toNat : Nat) : Int)).map (Value.int .u8)) := by simp [bytesV]
    rw [e] at hl
    rw [run_bytesToString w _ n c _ hl, foldl_bytes]
    congr 2
    obtain ⟨⟨l⟩⟩ := st
    simp [ByteArray.empty, ByteArray.emptyWithCapacity]
    rfl

theorem run_toBytes {P : Program} {e : TypeId} {st : ByteArray} (w : World) : ∃ cap, st.size ≤ cap ∧ (Conv.stringToBytes e st).run P w = .ok (.slice (some ⟨w.heap.size, 0, none⟩) st.size cap) (allocW (drewW w) (.cells (bytesV st ++ repl (cap - st.size) [.int .u8 0]).toArray e (cap, cap + 1))) := by
  obtain ⟨cap, hcap, hcut⟩ : ∃ cap, st.size ≤ cap ∧ (Question.appendCap st.size 0 e).cut (w.tape w.drawn (.appendCap st.size 0 e)) = cap := ⟨_, Nat.le_add_right _ _, rfl⟩
  refine ⟨cap, hcap, ?_⟩
  have hforced : (Question.appendCap st.size 0 e).forced = false := rfl
  have hel : (st.data.map fun b => Value.int .u8 b.toNat) ++ Array.replicate (cap - st.size) (.int .u8 0) = (bytesV st ++ repl (cap - st.size) [.int .u8 0]).toArray := by
    apply Array.ext'
    have : repl (cap - st.size) [Value.int .u8 0] = List.replicate (cap - st.size) (.int .u8 0) := by
      generalize cap - st.size = k
      induction k with
      | zero => rfl
      | succ k ih => rw [show repl (k + 1) [Value.int .u8 0] = [Value.int .u8 0] ++ repl k [.int .u8 0] by simp [repl, List.replicate_succ], ih]; rfl
    simp [bytesV, this]
  have hsz : (bytesV st ++ repl (cap - st.size) [Value.int .u8 0]).length = cap := by
    rw [List.length_append, repl_length]
    have : (bytesV st).length = st.size := by simp [bytesV]
    rw [this]
    simp
    omega
  have hsh : ∀ (o : Array Value) (k : Nat), (drewW w).heap.size = k → (allocW (drewW w) (.cells o e)).shape? k = some (e, o.size) := by
    intro o k hk
    unfold World.shape?
    rw [heap_alloc, if_pos hk.symm]
  simp only [Conv.stringToBytes, Sem.run_bind, run_choose, hforced, Bool.false_eq_true, if_false, hcut, Result.andThen_ok, newRow, run_newObj, Sem.run_pure, hel, markStringish, run_shape]
  have e1 : ({ heap := w.heap.push (.cells (bytesV st ++ repl (cap - st.size) [.int .u8 0]).toArray e), tape := w.tape, drawn := w.drawn + 1, os := w.os, output := w.output } : World) = allocW (drewW w) (.cells (bytesV st ++ repl (cap - st.size) [.int .u8 0]).toArray e) := rfl
  rw [e1, hsh _ w.heap.size rfl]
  simp only [run_freeze, List.size_toArray, hsz, Result.andThen_ok]
  congr 1
  show World.freeze _ _ _ = _
  unfold World.freeze
  rw [if_neg (by decide)]
  unfold allocW
  congr 1
  apply Array.ext_getElem?
  intro i
  rw [Array.getElem?_modify]
  show (if (drewW w).heap.size = i then _ else _) = _
  split
  · rename_i h
    subst h
    simp
  · rename_i h
    simp only [Array.getElem?_push]
    rw [if_neg (by omega), if_neg (by omega)]

theorem step_convert (hC : CtxOk C) (hm : MS u0 w0 ρ ls u w) (hf : FrOk ρ fr a) {dst : Option Tmp} {s d : TypeId} {x : Operand} {ty : TypeId} {pos : String} {after : Array Edge} {g : Option (Nat × Bool)} {k : KO}
    (h : wOp C ⟨dst, .convert s d x, ty, pos, after, g⟩ fr ls u k) : (Oper.mk dst (.convert s d x) ty pos after g).wp C.P a w (Post u0 w0 ρ ls u w a ⟨dst, .convert s d x, ty, pos, after, g⟩ k) Q := by
  by_cases hr : isRead C ⟨dst, .convert s d x, ty, pos, after, g⟩ = true
  · exact Post.read hm (read_op hC hm hf hr h)
  simp only [wOp] at h
  split at h
  · rename_i y hy
    have hy' := asV_eval hf hy
    unfold wConvert at h
    split at h
    · rename_i hs hd
      exfalso
      apply hr
      simp only [isRead]
      rw [hs, hd]
    · rename_i e _ _ _ _ _ _ p n c hs hd
      obtain ⟨d1, hd1, hk1⟩ := tiCell hC hs
      obtain ⟨d2, hd2, hk2⟩ := tiCell hC hd
      simp only [TKok] at hk1 hk2
      subst hk1 hk2
      split at h
      · rename_i he
        obtain ⟨d3, hd3, hk3⟩ := tiCell hC he
        simp only [TKok] at hk3
        subst hk3
        obtain ⟨st, hsz, hg, hk⟩ := h
        refine Post.of_run (y := .string st) (w' := w) ?_ (Post.wr hk hm (Nat.le_refl _))
        have hg' := hm.le.gets hg
        have hconv : (Conv.bytesToString (.slice p n c)).run C.P w = .ok (.string st) w := run_bytes hsz hg'
        simp only [execOp, hy', convert, Sem.run_bind, run_under hd1, run_under hd2, run_under hd3, Result.andThen_ok, hconv, Sem.run_pure]
      · exact h.elim
    · rename_i _ _ _ e _ _ _ st hs hd
      obtain ⟨d1, hd1, hk1⟩ := tiCell hC hs
      obtain ⟨d2, hd2, hk2⟩ := tiCell hC hd
      simp only [TKok] at hk1 hk2
      subst hk1 hk2
      split at h
      · rename_i he
        obtain ⟨d3, hd3, hk3⟩ := tiCell hC he
        simp only [TKok] at hk3
        subst hk3
        obtain ⟨cap, hcap, hrun⟩ := run_toBytes (P := C.P) (e := e) (st := st) w
        refine Post.of_run (y := .slice (some ⟨w.heap.size, 0, none⟩) st.size cap) ?_ (by rw [hm.le.size]; exact Post.wr (h cap hcap) (hm.drew.alloc _) (alloc_le (drewW u) _))
        simp only [execOp, hy', convert, Sem.run_bind, run_under hd1, run_under hd2, run_under hd3, Result.andThen_ok, hrun, Sem.run_pure]
      · exact h.elim
    · exact h.elim
  · exact h.elim

end
end Go.Proofs.YtkmmphkjmamckabDoor

/-
  Operation by operation, region by region, code: what the proposition says is what runs.
-/
namespace Go.Proofs.YtkmmphkjmamckabDoor
open Go
set_option linter.all false

section
variable {C : Ctx} {u0 w0 : World}

theorem step_op (hC : CtxOk C) {ρ : List Nat} {fr : List SV} {ls : List Loc} {u w : World} {a : Act} {Q : Exit → Act → World → Prop} (hm : MS u0 w0 ρ ls u w) (hf : FrOk ρ fr a) {o : Oper} {k : KO} (h : wOp C o fr ls u k) : o.wp C.P a w (Post u0 w0 ρ ls u w a o k) Q := by
  by_cases hr : isRead C o = true
  · exact Post.read hm (read_op hC hm hf hr h)
  obtain ⟨dst, op, ty, pos, after, g⟩ := o
  cases op <;> try (exact (hr rfl).elim)
  case alloc t =>
    simp only [wOp] at h
    split at h
    · rename_i ti hti
      have hti' := hC.ti t ti hti
      split at h
      · exact h.elim
      · rename_i htup
        obtain ⟨inf, z, hinf, hzz, hzc⟩ := zero_spec hti' (fun ts e => htup (by simp [TI.isTuple, e]))
        refine step_box hm h ?_
        simp only [execOp, Instr.alloc, Sem.run_bind, zeroValue, typeInfo, run_program, hinf, Sem.run_pure, Result.andThen_ok, hzz, run_newVar, hzc]
    · exact h.elim
  case box t x =>
    simp only [wOp] at h
    split at h
    · rename_i ti y hti hy
      refine step_box hm h ?_
      simp only [execOp, Instr.box, asV_eval hf hy, Sem.run_bind, run_newVar, Result.andThen_ok, Sem.run_pure, Array.toArray_toList]
    · exact h.elim
  case buildSlice t n parts => exact step_buildSlice hC hm hf h
  case store t x y => exact step_store hC hm hf h
  case convert s d x => exact step_convert hC hm hf h
  case makeSlice t l c => exact step_makeSlice hC hm hf h
  case call c =>
    obtain ⟨callee, xs, ats⟩ := c
    simp only [wOp] at h
    split at h
    · rename_i args hargs
      cases callee with
      | builtin b => exact step_builtin hC hm hf hargs h
      | value f => exact step_call hC hm hf hargs h
      | invoke r m => exact h.elim
    · exact h.elim
  all_goals (simp only [wOp] at h)

end
end Go.Proofs.YtkmmphkjmamckabDoor

/-
  The relation of a loop or a cut, opened and shut.
-/
namespace Go.Proofs.YtkmmphkjmamckabDoor
open Go
set_option linter.all false

theorem apCK_op {c : CK} {x : Value} {α : Type} {f : ckTy c α} {R : α → Prop} (h : apCK c x f R) {p : Value → α → Prop} (hp : opCK c f p) : ∃ g, p x g ∧ R g := by
  cases c <;> cases x <;> try (exact h.elim)
  case int.int k k' n =>
    simp only [apCK] at h
    split at h
    · rename_i e; subst e; exact ⟨_, hp n, h⟩
    · exact h.elim
  case bool.bool b => exact ⟨_, hp b, h⟩
  case str.string s => exact ⟨_, hp s, h⟩
  case slice.slice a n m => exact ⟨_, hp a n m, h⟩
  case ptr.pointer a =>
    rcases a with _ | ⟨b, o, s⟩
    · exact h.elim
    · cases s
      · exact ⟨_, hp b o, h⟩
      · exact h.elim
  case func.func g a b => exact ⟨_, hp g a b, h⟩

theorem apCK_and {c : CK} {x : Value} {α : Type} {f : ckTy c α} {A B : α → Prop} (h : apCK c x f A) (h' : apCK c x f B) : ∃ g, A g ∧ B g := by
  cases c <;> cases x <;> try (exact h.elim)
  case int.int k k' n =>
    simp only [apCK] at h h'
    split at h
    · rename_i e; rw [if_pos e] at h'; exact ⟨_, h, h'⟩
    · exact h.elim
  case bool.bool b => exact ⟨_, h, h'⟩
  case str.string s => exact ⟨_, h, h'⟩
  case slice.slice a n m => exact ⟨_, h, h'⟩
  case ptr.pointer a =>
    rcases a with _ | ⟨b, o, s⟩
    · exact h.elim
    · cases s
      · exact ⟨_, h, h'⟩
      · exact h.elim
  case func.func g a b => exact ⟨_, h, h'⟩

theorem apCKs_op {α : Type} : ∀ {l : List CK} {xs : List Value} {f : cksTy l α} {R : α → Prop}, apCKs l xs f R → ∀ {p : List Value → α → Prop}, opCKs l f p → ∃ g, p xs g ∧ R g
  | [], [], f, R, h, p, hp => ⟨f, hp, h⟩
  | [], _ :: _, _, _, h, _, _ => h.elim
  | _ :: _, [], _, _, h, _, _ => h.elim
  | c :: l, x :: xs, f, R, h, p, hp => by
    obtain ⟨g, h1, h2⟩ := apCK_op (c := c) h hp
    exact apCKs_op h2 h1

theorem apCKs_and {α : Type} : ∀ {l : List CK} {xs : List Value} {f : cksTy l α} {A B : α → Prop}, apCKs l xs f A → apCKs l xs f B → ∃ g, A g ∧ B g
  | [], [], f, _, _, h, h' => ⟨f, h, h'⟩
  | [], _ :: _, _, _, _, h, _ => h.elim
  | _ :: _, [], _, _, _, h, _ => h.elim
  | c :: l, x :: xs, f, A, B, h, h' => by
    obtain ⟨g, h1, h2⟩ := apCK_and (c := c) h h'
    exact apCKs_and h1 h2

/-- What a slot's entry is behind the opening. -/
def normS (s : SS) (old x : SV) : SV :=
  match s with
  | .keep => old
  | .junk => .junk
  | _ =>
    match x with
    | .lit b => .v (.bool b)
    | x => x

theorem apSS_op {s : SS} {old x : SV} {α : Type} {f : ssTy s α} {R : α → Prop} (h : apSS s x f R) {p : SV → α → Prop} (hp : opSS s old f p) : ∃ g, p (normS s old x) g ∧ R g := by
  cases s with
  | keep => exact ⟨f, hp, h⟩
  | junk => exact ⟨f, hp, h⟩
  | cell c =>
    cases x <;> try (exact h.elim)
    case v x => exact apCK_op (c := c) (p := fun x g => p (.v x) g) h hp
    case lit b => exact apCK_op (c := c) (p := fun x g => p (.v x) g) h hp
  | agg l =>
    cases x <;> try (exact h.elim)
    case v x =>
      cases x <;> try (exact h.elim)
      rename_i cs
      obtain ⟨g, h1, h2⟩ := apCKs_op (p := fun xs g => p (.v (.agg xs.toArray)) g) h hp
      exact ⟨g, by simpa [normS] using h1, h2⟩
  | opq =>
    cases x <;> try (exact h.elim)
    case v x =>
      cases x <;> try (exact h.elim)
      rename_i cs
      exact ⟨_, by simpa [normS] using hp cs.toList, h⟩

theorem apSS_norm {s : SS} {old x : SV} {α : Type} {f : ssTy s α} {R : α → Prop} (h : apSS s x f R) : apSS s (normS s old x) f R := by
  cases s with
  | keep => exact h
  | junk => exact h
  | cell c => cases x <;> first | exact h | exact h.elim
  | agg l => cases x <;> first | exact h | exact h.elim
  | opq => cases x <;> first | exact h | exact h.elim

theorem apSS_and {s : SS} {x : SV} {α : Type} {f : ssTy s α} {A B : α → Prop} (h : apSS s x f A) (h' : apSS s x f B) : ∃ g, A g ∧ B g := by
  cases s with
  | keep => exact ⟨_, h, h'⟩
  | junk => exact ⟨_, h, h'⟩
  | cell c =>
    cases x <;> try (exact h.elim)
    case v x => exact apCK_and (c := c) h h'
    case lit b => exact apCK_and (c := c) h h'
  | agg l =>
    cases x <;> try (exact h.elim)
    case v x =>
      cases x <;> try (exact h.elim)
      exact apCKs_and h h'
  | opq =>
    cases x <;> try (exact h.elim)
    case v x =>
      cases x <;> try (exact h.elim)
      exact ⟨_, h, h'⟩

def normSl : List SS → List SV → List SV → List SV
  | s :: l, o :: os, x :: xs => normS s o x :: normSl l os xs
  | _, _, _ => []

theorem apSl_op {α : Type} : ∀ {l : List SS} {olds xs : List SV} {f : slTy l α} {R : α → Prop}, apSl l xs f R → ∀ {p : List SV → α → Prop}, opSl l olds f p → (∃ g, p (normSl l olds xs) g ∧ R g) ∧ xs.length = l.length ∧ olds.length = l.length
  | [], [], [], f, R, h, p, hp => ⟨⟨f, hp, h⟩, rfl, rfl⟩
  | [], _, _ :: _, _, _, h, _, _ => h.elim
  | [], _ :: _, [], _, _, _, _, hp => hp.elim
  | _ :: _, _, [], _, _, h, _, _ => h.elim
  | _ :: _, [], _ :: _, _, _, _, _, hp => hp.elim
  | s :: l, o :: os, x :: xs, f, R, h, p, hp => by
    obtain ⟨g, h1, h2⟩ := apSS_op (s := s) h hp
    obtain ⟨h3, h4, h5⟩ := apSl_op h2 h1
    exact ⟨h3, by simp [h4], by simp [h5]⟩

theorem apCK_mono {c : CK} {x : Value} {α : Type} {f : ckTy c α} {A B : α → Prop} (h : apCK c x f A) (hAB : ∀ g, A g → B g) : apCK c x f B := by
  cases c <;> cases x <;> try (exact h.elim)
  case int.int k k' n =>
    simp only [apCK] at h ⊢
    split at h
    · rename_i e; rw [if_pos e]; exact hAB _ h
    · exact h.elim
  case bool.bool b => exact hAB _ h
  case str.string s => exact hAB _ h
  case slice.slice a n m => exact hAB _ h
  case ptr.pointer a =>
    rcases a with _ | ⟨b, o, s⟩
    · exact h.elim
    · cases s
      · exact hAB _ h
      · exact h.elim
  case func.func g a b => exact hAB _ h

theorem apCKs_mono {α : Type} : ∀ {l : List CK} {xs : List Value} {f : cksTy l α} {A B : α → Prop}, apCKs l xs f A → (∀ g, A g → B g) → apCKs l xs f B
  | [], [], _, _, _, h, hAB => hAB _ h
  | [], _ :: _, _, _, _, h, _ => h.elim
  | _ :: _, [], _, _, _, h, _ => h.elim
  | c :: l, x :: _, _, _, _, h, hAB => apCK_mono (c := c) (x := x) h fun _ hg => apCKs_mono (l := l) hg hAB

theorem apSS_mono {s : SS} {x : SV} {α : Type} {f : ssTy s α} {A B : α → Prop} (h : apSS s x f A) (hAB : ∀ g, A g → B g) : apSS s x f B := by
  cases s with
  | keep => exact hAB _ h
  | junk => exact hAB _ h
  | cell c =>
    cases x <;> try (exact h.elim)
    case v x => exact apCK_mono (c := c) (x := x) h hAB
    case lit b => exact apCK_mono (c := c) (x := .bool b) h hAB
  | agg l =>
    cases x <;> try (exact h.elim)
    case v x =>
      cases x <;> try (exact h.elim)
      exact apCKs_mono h hAB
  | opq =>
    cases x <;> try (exact h.elim)
    case v x =>
      cases x <;> try (exact h.elim)
      exact hAB _ h

theorem apSl_norm {α : Type} : ∀ {l : List SS} {olds xs : List SV} {f : slTy l α} {R : α → Prop}, olds.length = l.length → apSl l xs f R → apSl l (normSl l olds xs) f R
  | [], _, [], _, _, _, h => h
  | [], _, _ :: _, _, _, _, h => h.elim
  | _ :: _, _, [], _, _, _, h => h.elim
  | _ :: _, [], _ :: _, _, _, hl, _ => by simp at hl
  | s :: l, o :: os, x :: xs, f, R, hl, h => by
    have h1 : apSS s (normS s o x) f (fun g => apSl l xs g R) := apSS_norm (s := s) h
    exact apSS_mono h1 fun g hg => apSl_norm (by simpa using hl) hg

theorem apSl_and {α : Type} : ∀ {l : List SS} {xs : List SV} {f : slTy l α} {A B : α → Prop}, apSl l xs f A → apSl l xs f B → ∃ g, A g ∧ B g
  | [], [], f, _, _, h, h' => ⟨f, h, h'⟩
  | [], _ :: _, _, _, _, h, _ => h.elim
  | _ :: _, [], _, _, _, h, _ => h.elim
  | s :: l, x :: xs, f, A, B, h, h' => by
    obtain ⟨g, h1, h2⟩ := apSS_and (s := s) h h'
    exact apSl_and h1 h2

/-- Locals that are as the shape's old ones where they are kept, and of their make. -/
def LRel : List LSS → List Loc → List Loc → Prop
  | [], _, _ => True
  | s :: l, o :: os, x :: xs => x.ty = o.ty ∧ x.opq = o.opq ∧ (match s with | .keep => x = o | _ => True) ∧ LRel l os xs
  | _, _, _ => False

theorem LRel.refl : ∀ (l : List LSS) (os : List Loc), l.length ≤ os.length → LRel l os os
  | [], _, _ => trivial
  | s :: l, [], h => by simp at h
  | s :: l, o :: os, h => ⟨rfl, rfl, by cases s <;> simp, LRel.refl l os (by simpa using h)⟩

theorem apLl_op {α : Type} : ∀ {l : List LSS} {os rs xs : List Loc} {f : llTy l α} {R : α → Prop}, LRel l os rs → apLl l rs xs f R → ∀ {p : List Loc → α → Prop}, opLl l os f p →
    (∃ g, p (xs.take l.length) g ∧ R g) ∧ l.length ≤ xs.length ∧ LRel l os (xs.take l.length)
  | [], [], _, _, f, R, _, h, p, hp => ⟨⟨f, hp, h⟩, by simp, trivial⟩
  | [], _ :: _, _, _, _, _, _, _, _, hp => hp.elim
  | _ :: _, [], _, _, _, _, hl, _, _, _ => hl.elim
  | _ :: _, _ :: _, [], _, _, _, hl, _, _, _ => hl.elim
  | _ :: _, _ :: _, _ :: _, [], _, _, _, h, _, _ => h.elim
  | s :: l, o :: os, r :: rs, x :: xs, f, R, hl, h, p, hp => by
    obtain ⟨h1, h2, h3, h4⟩ := hl
    cases s with
    | keep =>
      obtain ⟨rfl, h⟩ := h
      have h3 : x = o := h3
      subst h3
      obtain ⟨h5, h6, h7⟩ := apLl_op h4 h (p := fun ls h => p (x :: ls) h) hp
      exact ⟨h5, by simpa using h6, rfl, rfl, rfl, h7⟩
    | cells ck =>
      have h : (if (Nat.beq x.ty r.ty && x.opq == r.opq) = true then apCKs ck x.cells f (fun g => apLl l rs xs g R) else False) := h
      split at h
      · rename_i hc
        simp only [Bool.and_eq_true, beq_iff_eq] at hc
        have hty := Nat.eq_of_beq_eq_true hc.1
        obtain ⟨g, h8, h9⟩ := apCKs_op h hp
        have e : ({ o with cells := x.cells } : Loc) = x := by
          obtain ⟨ty, q, cs⟩ := x
          obtain ⟨ty', q', cs'⟩ := o
          simp only at h1 h2 hty hc ⊢
          rw [← h1, ← h2, ← hty, ← hc.2]
        rw [e] at h8
        obtain ⟨h5, h6, h7⟩ := apLl_op h4 h9 (p := fun ls h => p (x :: ls) h) h8
        exact ⟨h5, by simpa using h6, hty.trans h1, hc.2.trans h2, trivial, h7⟩
      · exact h.elim
    | opq =>
      have h : (if (Nat.beq x.ty r.ty && x.opq == r.opq) = true then apLl l rs xs (f x.cells) R else False) := h
      split at h
      · rename_i hc
        simp only [Bool.and_eq_true, beq_iff_eq] at hc
        have hty := Nat.eq_of_beq_eq_true hc.1
        have h8 := hp x.cells
        have e : ({ o with cells := x.cells } : Loc) = x := by
          obtain ⟨ty, q, cs⟩ := x
          obtain ⟨ty', q', cs'⟩ := o
          simp only at h1 h2 hty hc ⊢
          rw [← h1, ← h2, ← hty, ← hc.2]
        rw [e] at h8
        obtain ⟨h5, h6, h7⟩ := apLl_op h4 h (p := fun ls h => p (x :: ls) h) h8
        exact ⟨h5, by simpa using h6, hty.trans h1, hc.2.trans h2, trivial, h7⟩
      · exact h.elim

/-- The same, seen from the locals themselves. -/
theorem apLl_self {α : Type} : ∀ {l : List LSS} {rs xs : List Loc} {f : llTy l α} {R : α → Prop}, apLl l rs xs f R → apLl l (xs.take l.length) (xs.take l.length) f R
  | [], _, _, _, _, h => h
  | _ :: _, [], _, _, _, h => h.elim
  | _ :: _, _ :: _, [], _, _, h => h.elim
  | s :: l, r :: rs, x :: xs, f, R, h => by
    cases s with
    | keep => obtain ⟨_, h⟩ := h; exact ⟨rfl, apLl_self h⟩
    | cells ck =>
      have h : (if (Nat.beq x.ty r.ty && x.opq == r.opq) = true then apCKs ck x.cells f (fun g => apLl l rs xs g R) else False) := h
      show (if (Nat.beq x.ty x.ty && x.opq == x.opq) = true then apCKs ck x.cells f (fun g => apLl l (xs.take l.length) (xs.take l.length) g R) else False)
      split at h
      · rw [if_pos (by simp)]
        exact apSS_mono (s := .agg ck) (x := .v (.agg x.cells.toArray)) h fun g hg => apLl_self hg
      · exact h.elim
    | opq =>
      have h : (if (Nat.beq x.ty r.ty && x.opq == r.opq) = true then apLl l rs xs (f x.cells) R else False) := h
      show (if (Nat.beq x.ty x.ty && x.opq == x.opq) = true then apLl l (xs.take l.length) (xs.take l.length) (f x.cells) R else False)
      split at h
      · rw [if_pos (by simp)]
        exact apLl_self h
      · exact h.elim

theorem apLl_and {α : Type} : ∀ {l : List LSS} {rs xs : List Loc} {f : llTy l α} {A B : α → Prop}, apLl l rs xs f A → apLl l rs xs f B → ∃ g, A g ∧ B g
  | [], _, _, f, _, _, h, h' => ⟨f, h, h'⟩
  | _ :: _, [], _, _, _, _, h, _ => h.elim
  | _ :: _, _ :: _, [], _, _, _, h, _ => h.elim
  | s :: l, r :: rs, x :: xs, f, A, B, h, h' => by
    cases s with
    | keep => exact apLl_and h.2 h'.2
    | cells ck =>
      have h : (if (Nat.beq x.ty r.ty && x.opq == r.opq) = true then apCKs ck x.cells f (fun g => apLl l rs xs g A) else False) := h
      have h' : (if (Nat.beq x.ty r.ty && x.opq == r.opq) = true then apCKs ck x.cells f (fun g => apLl l rs xs g B) else False) := h'
      split at h
      · rename_i hc
        rw [if_pos hc] at h'
        obtain ⟨g, h1, h2⟩ := apCKs_and h h'
        exact apLl_and h1 h2
      · exact h.elim
    | opq =>
      have h : (if (Nat.beq x.ty r.ty && x.opq == r.opq) = true then apLl l rs xs (f x.cells) A else False) := h
      have h' : (if (Nat.beq x.ty r.ty && x.opq == r.opq) = true then apLl l rs xs (f x.cells) B else False) := h'
      split at h
      · rename_i hc
        rw [if_pos hc] at h'
        exact apLl_and h h'
      · exact h.elim

theorem apSl_mono {α : Type} : ∀ {l : List SS} {xs : List SV} {f : slTy l α} {A B : α → Prop}, apSl l xs f A → (∀ g, A g → B g) → apSl l xs f B
  | [], [], _, _, _, h, hAB => hAB _ h
  | [], _ :: _, _, _, _, h, _ => h.elim
  | _ :: _, [], _, _, _, h, _ => h.elim
  | s :: l, x :: _, _, _, _, h, hAB => apSS_mono (s := s) (x := x) h fun _ hg => apSl_mono (l := l) hg hAB

theorem apSh_and {α : Type} {s : LShape} {old : List Loc} {fr : List SV} {ls : List Loc} {f : shTy s α} {A B : α → Prop} (h : apSh s old fr ls f A) (h' : apSh s old fr ls f B) : ∃ g, A g ∧ B g := by
  obtain ⟨g, h1, h2⟩ := apSl_and h h'
  exact apLl_and h1 h2

theorem apLl_mono {α : Type} : ∀ {l : List LSS} {rs xs : List Loc} {f : llTy l α} {A B : α → Prop}, apLl l rs xs f A → (∀ g, A g → B g) → apLl l rs xs f B
  | [], _, _, _, _, _, h, hAB => hAB _ h
  | _ :: _, [], _, _, _, _, h, _ => h.elim
  | _ :: _, _ :: _, [], _, _, _, h, _ => h.elim
  | s :: l, r :: rs, x :: xs, f, A, B, h, hAB => by
    cases s with
    | keep => exact ⟨h.1, apLl_mono h.2 hAB⟩
    | cells ck =>
      have h : (if (Nat.beq x.ty r.ty && x.opq == r.opq) = true then apCKs ck x.cells f (fun g => apLl l rs xs g A) else False) := h
      show (if (Nat.beq x.ty r.ty && x.opq == r.opq) = true then apCKs ck x.cells f (fun g => apLl l rs xs g B) else False)
      split at h
      · rename_i hc
        rw [if_pos hc]
        exact apCKs_mono h fun g hg => apLl_mono hg hAB
      · exact h.elim
    | opq =>
      have h : (if (Nat.beq x.ty r.ty && x.opq == r.opq) = true then apLl l rs xs (f x.cells) A else False) := h
      show (if (Nat.beq x.ty r.ty && x.opq == r.opq) = true then apLl l rs xs (f x.cells) B else False)
      split at h
      · rename_i hc
        rw [if_pos hc]
        exact apLl_mono h hAB
      · exact h.elim

theorem apSh_mono {α : Type} {s : LShape} {old : List Loc} {fr : List SV} {ls : List Loc} {f : shTy s α} {A B : α → Prop} (h : apSh s old fr ls f A) (hAB : ∀ g, A g → B g) : apSh s old fr ls f B := apSl_mono h fun _ hg => apLl_mono hg hAB

theorem apSh_op {α : Type} {s : LShape} {old : List Loc} {fr0 fr : List SV} {ls0 ls : List Loc} {f : shTy s α} {R : α → Prop} (hl : LRel s.locs ls0 old) (h : apSh s old fr ls f R) {p : List SV → List Loc → α → Prop} (hp : opSh s fr0 ls0 f p) :
    (∃ g, p (normSl s.slots fr0 fr) (ls.take s.locs.length) g ∧ R g) ∧ fr.length = s.slots.length ∧ fr0.length = s.slots.length ∧ s.locs.length ≤ ls.length ∧ LRel s.locs ls0 (ls.take s.locs.length) := by
  obtain ⟨⟨g, h1, h2⟩, h3, h4⟩ := apSl_op h hp
  obtain ⟨h5, h6, h7⟩ := apLl_op hl h2 h1
  exact ⟨h5, h3, h4, h6, h7⟩

theorem apSh_self {α : Type} {s : LShape} {old : List Loc} {fr0 fr : List SV} {ls : List Loc} {f : shTy s α} {R : α → Prop} (hlen : fr0.length = s.slots.length) (h : apSh s old fr ls f R) : apSh s (ls.take s.locs.length) (normSl s.slots fr0 fr) (ls.take s.locs.length) f R :=
  apSl_norm hlen (apSl_mono h fun _ hg => apLl_self hg)

/-- An opening is only there if it has the locals' number. -/
theorem opCK_ex {c : CK} {α : Type} {f : ckTy c α} {p : Value → α → Prop} (h : opCK c f p) : ∃ y g, p y g := by
  cases c
  · exact ⟨_, _, h 0⟩
  · exact ⟨_, _, h true⟩
  · exact ⟨_, _, h ByteArray.empty⟩
  · exact ⟨_, _, h none 0 0⟩
  · exact ⟨_, _, h 0 0⟩
  · exact ⟨_, _, h (.func 0) #[] #[]⟩

theorem opCKs_ex {α : Type} : ∀ {l : List CK} {f : cksTy l α} {p : List Value → α → Prop}, opCKs l f p → ∃ y g, p y g
  | [], f, _, h => ⟨[], f, h⟩
  | c :: l, f, p, h => by
    obtain ⟨y, g, h⟩ := opCK_ex (c := c) h
    obtain ⟨ys, g', h⟩ := opCKs_ex h
    exact ⟨_, _, h⟩

theorem opSS_ex {s : SS} {old : SV} {α : Type} {f : ssTy s α} {p : SV → α → Prop} (h : opSS s old f p) : ∃ y g, p y g := by
  cases s with
  | keep => exact ⟨_, _, h⟩
  | junk => exact ⟨_, _, h⟩
  | cell c => obtain ⟨y, g, h⟩ := opCK_ex (c := c) (p := fun x g => p (.v x) g) h; exact ⟨_, _, h⟩
  | agg l => obtain ⟨y, g, h⟩ := opCKs_ex (p := fun xs g => p (.v (.agg xs.toArray)) g) h; exact ⟨_, _, h⟩
  | opq => exact ⟨_, _, h []⟩

theorem opSl_ex {α : Type} : ∀ {l : List SS} {os : List SV} {f : slTy l α} {p : List SV → α → Prop}, opSl l os f p → ∃ y g, p y g
  | [], [], f, _, h => ⟨[], f, h⟩
  | [], _ :: _, _, _, h => h.elim
  | _ :: _, [], _, _, h => h.elim
  | s :: l, o :: os, f, p, h => by
    obtain ⟨y, g, h⟩ := opSS_ex (s := s) h
    obtain ⟨ys, g', h⟩ := opSl_ex h
    exact ⟨_, _, h⟩

theorem opLl_len {α : Type} : ∀ {l : List LSS} {os : List Loc} {f : llTy l α} {p : List Loc → α → Prop}, opLl l os f p → os.length = l.length
  | [], [], _, _, _ => rfl
  | [], _ :: _, _, _, h => h.elim
  | _ :: _, [], _, _, h => h.elim
  | s :: l, o :: os, f, p, h => by
    cases s with
    | keep => have := opLl_len (l := l) (os := os) h; simp [this]
    | cells ck => obtain ⟨y, g, h⟩ := opCKs_ex h; have := opLl_len (l := l) (os := os) h; simp [this]
    | opq => have := opLl_len (l := l) (os := os) (h []); simp [this]

theorem opSh_len_eq {α : Type} {s : LShape} {fr : List SV} {ls : List Loc} {f : shTy s α} {p : List SV → List Loc → α → Prop} (h : opSh s fr ls f p) : ls.length = s.locs.length := by
  obtain ⟨y, g, h⟩ := opSl_ex h
  exact opLl_len h

theorem opSh_len {α : Type} {s : LShape} {fr : List SV} {ls : List Loc} {f : shTy s α} {p : List SV → List Loc → α → Prop} (h : opSh s fr ls f p) : s.locs.length ≤ ls.length := Nat.le_of_eq (opSh_len_eq h).symm

end Go.Proofs.YtkmmphkjmamckabDoor

/-
  Regions, code, functions.
-/
namespace Go.Proofs.YtkmmphkjmamckabDoor
open Go
set_option linter.all false

def Out (D : List Nat) (a a' : Act) : Prop := ∀ t, memN D t = false → a'.tmps[t]? = a.tmps[t]?

theorem Out.refl (D : List Nat) (a : Act) : Out D a a := fun _ _ => rfl

theorem memN_append (l r : List Nat) (t : Nat) : memN (l ++ r) t = (memN l t || memN r t) := by
  induction l with
  | nil => rfl
  | cons k l ih => simp only [List.cons_append, memN]; split <;> simp [ih]

theorem Out.left {D E : List Nat} {a a' : Act} (h : Out D a a') : Out (D ++ E) a a' := fun t ht => h t (by rw [memN_append, Bool.or_eq_false_iff] at ht; exact ht.1)
theorem Out.right {D E : List Nat} {a a' : Act} (h : Out E a a') : Out (D ++ E) a a' := fun t ht => h t (by rw [memN_append, Bool.or_eq_false_iff] at ht; exact ht.2)
theorem Out.trans {D : List Nat} {a b c : Act} (h : Out D a b) (k : Out D b c) : Out D a c := fun t ht => (k t ht).trans (h t ht)

def St (u0 w0 : World) (ρ0 : List Nat) (D : List Nat) (a0 : Act) (K : KN) (a : Act) (w : World) : Prop :=
  ∃ ρ fr ls u, (∃ r, ρ = ρ0 ++ r) ∧ MS u0 w0 ρ ls u w ∧ FrOk ρ fr a ∧ K fr ls u ∧ Out D a0 a

def Qof (u0 w0 : World) (ρ0 : List Nat) (D : List Nat) (a0 : Act) (Kn : KN) (Kx : Nat → KN) (Kr : KN) : Exit → Act → World → Prop
  | .normal, a, w => St u0 w0 ρ0 D a0 Kn a w
  | .exit id, a, w => St u0 w0 ρ0 D a0 (Kx id) a w
  | .ret, a, w => St u0 w0 ρ0 D a0 Kr a w
  | _, _, _ => False

theorem St.mono {u0 w0 : World} {ρ0 : List Nat} {D : List Nat} {a0 : Act} {K K' : KN} {a : Act} {w : World} (h : St u0 w0 ρ0 D a0 K a w) (hK : ∀ fr ls u, K fr ls u → K' fr ls u) : St u0 w0 ρ0 D a0 K' a w := by
  obtain ⟨ρ, fr, ls, u, h1, h2, h3, h4, h5⟩ := h
  exact ⟨ρ, fr, ls, u, h1, h2, h3, hK _ _ _ h4, h5⟩

theorem SV.holds_mono {ρ r : List Nat} {s : SV} {y : Value} (h : s.holds ρ y) : s.holds (ρ ++ r) y := by
  cases s with
  | lp i off =>
    obtain ⟨b, hb, hy⟩ := h
    refine ⟨b, ?_, hy⟩
    rw [List.getElem?_append_left (List.getElem?_eq_some_iff.1 hb).1]
    exact hb
  | _ => exact h

theorem FrOk.mono {ρ r : List Nat} {fr : List SV} {a : Act} (h : FrOk ρ fr a) : FrOk (ρ ++ r) fr a := ⟨h.defers, h.size, fun t s y hs hy => SV.holds_mono (h.slot t s y hs hy)⟩

theorem FrOk.put {ρ : List Nat} {fr : List SV} {a : Act} (h : FrOk ρ fr a) {d : Option Tmp} {s : SV} {v : Value} (hs : s.holds ρ v) : FrOk ρ (putS fr d s) (a.put d v) := by
  cases d with
  | none => exact h
  | some d =>
    refine ⟨h.defers, by simp [Act.put, putS, h.size], fun t s' y hs' hy => ?_⟩
    simp only [Act.put, putS] at hs' hy
    by_cases htd : t = d
    · subst htd
      have hlt : t < fr.length := by have := (List.getElem?_eq_some_iff.1 hs').1; simpa using this
      rw [List.getElem?_set_self hlt] at hs'
      rw [Array.getElem?_setIfInBounds_self_of_lt (by rw [h.size]; exact hlt)] at hy
      simp only [Option.some.injEq] at hs' hy
      subst hs' hy
      exact hs
    · rw [List.getElem?_set_ne (by omega)] at hs'
      rw [Array.getElem?_setIfInBounds_ne (by omega)] at hy
      exact h.slot t s' y hs' hy

theorem FrOk.lit {ρ : List Nat} {fr : List SV} {a : Act} (h : FrOk ρ fr a) {d : Nat} {b : Bool} (hd : fr.getD d .junk = .v (.bool b)) : FrOk ρ (fr.set d (.lit b)) a := by
  refine ⟨h.defers, by simp [h.size], fun t s y hs hy => ?_⟩
  by_cases htd : t = d
  · subst htd
    have hlt : t < fr.length := by have := (List.getElem?_eq_some_iff.1 hs).1; simpa using this
    rw [List.getElem?_set_self hlt] at hs
    simp only [Option.some.injEq] at hs
    subst hs
    have hf : fr[t]? = some (.v (.bool b)) := by
      rw [List.getD_eq_getElem?_getD] at hd
      rw [List.getElem?_eq_getElem hlt] at hd ⊢
      simpa using hd
    exact h.slot t (.v (.bool b)) y hf hy
  · rw [List.getElem?_set_ne (by omega)] at hs
    exact h.slot t s y hs hy

theorem Act.out_put {D : List Nat} {a : Act} {d : Option Tmp} {v : Value} (h : ∀ t, d = some t → memN D t = true) : Out D a (a.put d v) := by
  intro t ht
  cases d with
  | none => rfl
  | some d =>
    have : t ≠ d := fun e => by subst e; rw [h t rfl] at ht; cases ht
    simp only [Act.put]
    rw [Array.getElem?_setIfInBounds_ne (by omega)]

theorem memN_of_mem {l : List Nat} {t : Nat} (h : t ∈ l) : memN l t = true := by
  induction l with
  | nil => cases h
  | cons k l ih =>
    simp only [memN]
    split
    · rfl
    · rename_i hne
      rcases List.mem_cons.1 h with rfl | h
      · exact absurd (by simp) hne
      · exact ih h

theorem mem_dstsL {l : List Oper} {o : Oper} {d : Nat} (ho : o ∈ l) (hd : o.dst = some d) : d ∈ dstsL l := by
  induction l with
  | nil => cases ho
  | cons x l ih =>
    rcases List.mem_cons.1 ho with rfl | h
    · simp [dstsL, hd]
    · simp only [dstsL]
      split
      · exact List.mem_cons_of_mem _ (ih h)
      · exact ih h

section
variable {C : Ctx} {u0 w0 : World}

/-- A guard is decided as the frame has it. -/
theorem guard_sound {ρ : List Nat} {fr : List SV} {a : Act} (hf : FrOk ρ fr a) {ops : List Oper} {o : Oper} {run skip : List SV → Prop} (h : wGuard ops o fr run skip) :
    (∃ fr', FrOk ρ fr' a ∧ run fr' ∧ Region.wanted o (yielded ops.toArray a.tmps) = true) ∨ (∃ fr', FrOk ρ fr' a ∧ skip fr' ∧ Region.wanted o (yielded ops.toArray a.tmps) = false) := by
  unfold wGuard at h
  unfold Region.wanted
  split at h
  · rename_i hg
    rw [hg]
    exact .inl ⟨fr, hf, h, rfl⟩
  · rename_i j want hg
    rw [hg]
    simp only
    split at h
    · exact h.elim
    · rename_i d hd
      have hy : ∀ y, a.tmps[d]? = some y → yielded ops.toArray a.tmps j = (match y with | .bool b => some b | _ => none) := by
        intro y hy
        unfold yielded
        unfold guardSlot at hd
        simp only [List.getElem?_toArray, hd, Option.bind_some, hy]
        cases y <;> rfl
      have look : ∀ s, fr.getD d .junk = s → s ≠ .junk → ∃ y, a.tmps[d]? = some y ∧ s.holds ρ y := by
        intro s hs hne
        rw [List.getD_eq_getElem?_getD] at hs
        cases hfr : fr[d]? with
        | none => rw [hfr] at hs; exact absurd hs.symm hne
        | some s' =>
          rw [hfr] at hs
          simp only [Option.getD_some] at hs
          subst hs
          have hlt : d < a.tmps.size := by rw [hf.size]; exact (List.getElem?_eq_some_iff.1 hfr).1
          exact ⟨_, Array.getElem?_eq_getElem hlt, hf.slot d _ _ hfr (Array.getElem?_eq_getElem hlt)⟩
      split at h
      · rename_i b hs
        obtain ⟨y, hty, hyv⟩ := look _ hs (by simp)
        have hyv : y = .bool b := hyv
        subst hyv
        rw [hy _ hty]
        split at h
        · rename_i hb
          refine .inl ⟨fr, hf, h, ?_⟩
          have : b = want := by simpa using hb
          simp [this]
        · rename_i hb
          refine .inr ⟨fr, hf, h, ?_⟩
          have : ¬ b = want := by simpa using hb
          simp [this]
      · rename_i b hs
        obtain ⟨y, hty, hyv⟩ := look _ hs (by simp)
        have hyv : y = .bool b := hyv
        subst hyv
        rw [hy _ hty]
        have hfl := hf.lit hs
        cases b
        · have h := h.2 rfl
          cases want
          · exact .inl ⟨_, hfl, h, rfl⟩
          · exact .inr ⟨_, hfl, h, rfl⟩
        · have h := h.1 rfl
          cases want
          · exact .inr ⟨_, hfl, h, rfl⟩
          · exact .inl ⟨_, hfl, h, rfl⟩
      · rename_i vs hs
        obtain ⟨y, hty, hyv⟩ := look _ hs (by simp)
        have hyv : y = .tuple vs := hyv
        subst hyv
        rw [hy _ hty]
        exact .inr ⟨fr, hf, h, rfl⟩
      · exact h.elim

theorem ops_sound (hC : CtxOk C) {all : List Oper} {Kn : KN} {ρ0 : List Nat} {a0 : Act} : ∀ (l : List Oper), (∀ o ∈ l, o ∈ all) → ∀ {ρ : List Nat} {fr : List SV} {ls : List Loc} {u w : World} {a : Act}, (∃ r, ρ = ρ0 ++ r) → MS u0 w0 ρ ls u w → FrOk ρ fr a → Out (dstsL all) a0 a →
    wOps C all Kn l fr ls u → wpList C.P all.toArray (NQ (St u0 w0 ρ0 (dstsL all) a0 Kn)) l a w
  | [], _, ρ, fr, ls, u, w, a, hρ, hm, hf, ho, h => ⟨ρ, fr, ls, u, hρ, hm, hf, h, ho⟩
  | o :: l, hsub, ρ, fr, ls, u, w, a, hρ, hm, hf, ho, h => by
    have hin := hsub o (by simp)
    have hdst : ∀ t, o.dst = some t → memN (dstsL all) t = true := fun t ht => memN_of_mem (mem_dstsL hin ht)
    unfold wpList
    simp only [wOps] at h
    rcases guard_sound hf h with ⟨fr', hf', hrun, hw⟩ | ⟨fr', hf', hskip, hw⟩
    · rw [if_pos hw]
      refine .inl (Oper.wp_mono (fun a' w' hp => ?_) (step_op hC (Q := NQ (St u0 w0 ρ0 (dstsL all) a0 Kn)) hm hf' hrun))
      obtain ⟨s, ls', u', e, v, ρ', hk, rfl, ⟨r, rfl, _⟩, hs, hm', _⟩ := hp
      obtain ⟨r0, rfl⟩ := hρ
      exact ops_sound hC l (fun o ho => hsub o (by simp [ho])) ⟨r0 ++ r, by simp⟩ hm' (hf'.mono.put hs) (ho.trans (Act.out_put hdst)) hk
    · rw [if_neg (by rw [hw]; simp)]
      exact ops_sound hC l (fun o ho => hsub o (by simp [ho])) hρ hm (hf'.put (s := .v (.tuple #[])) rfl) (ho.trans (Act.out_put hdst)) hskip

/-! ### Drawn regions -/

def PendOk (ρ : List Nat) (u : World) : Pend → APend → Prop
  | .loc i l, q => q.i = i ∧ ∃ b x, ρ[l]? = some b ∧ q.C = fun w' => w'.heap[b]? = x
  | .mem i b o cs, q => q.i = i ∧ (cs = [] ∨ b < u.heap.size ∧ b ∉ ρ) ∧ q.C = fun w' => Rd w' b o cs

theorem PendOk.mono {ρ r : List Nat} {u u' : World} (hr : ∀ b ∈ r, u.heap.size ≤ b) (hsz : u.heap.size ≤ u'.heap.size) : ∀ {p : Pend} {q : APend}, PendOk ρ u p q → PendOk (ρ ++ r) u' p q
  | .loc i l, q, h => by
    obtain ⟨h1, b, x, h2, h3⟩ := h
    exact ⟨h1, b, x, by rw [List.getElem?_append_left (List.getElem?_eq_some_iff.1 h2).1]; exact h2, h3⟩
  | .mem i b o cs, q, h => by
    obtain ⟨h1, h2, h3⟩ := h
    refine ⟨h1, h2.imp id fun ⟨h4, h5⟩ => ⟨by omega, fun hm => ?_⟩, h3⟩
    rcases List.mem_append.1 hm with hm | hm
    · exact h5 hm
    · have := hr b hm; omega

def PdOk (ρ : List Nat) (u : World) (pd : List Pend) (ps : List APend) : Prop := ∀ q ∈ ps, (∀ w, q.C w) ∨ ∃ p ∈ pd, PendOk ρ u p q

theorem PdOk.mono {ρ r : List Nat} {u u' : World} {pd : List Pend} {ps : List APend} (h : PdOk ρ u pd ps) (hr : ∀ b ∈ r, u.heap.size ≤ b) (hsz : u.heap.size ≤ u'.heap.size) : PdOk (ρ ++ r) u' pd ps := fun q hq => (h q hq).imp id fun ⟨p, hp, hpq⟩ => ⟨p, hp, PendOk.mono hr hsz hpq⟩

theorem allN_spec {α : Type} {p : α → Prop} : ∀ {l : List α}, allN p l → ∀ x ∈ l, p x
  | [], _, x, hx => by cases hx
  | [y], h, x, hx => by simp at hx; subst hx; exact h
  | y :: z :: l, h, x, hx => by
    rcases List.mem_cons.1 hx with rfl | hx
    · exact h.1
    · exact allN_spec h.2 x hx

theorem recheck_spec {ms : List Nat} {j : Nat} {e : Eff} {u : World} {R : Prop} : ∀ {pd : List Pend}, recheck ms j e u pd R → R ∧ ∀ p ∈ pd, match p with
    | .loc i l => (match e with | .wrLoc l' => unord ms i j = true → l ≠ l' | _ => True)
    | .mem i b o cs => (match e with | .wr => unord ms i j = true → Rd u b o cs | _ => True)
  | [], h => ⟨h, by simp⟩
  | .loc i l :: pd, h => by
    cases e with
    | wrLoc l' =>
      have h : (if (unord ms i j && Nat.beq l l') = true then False else recheck ms j (.wrLoc l') u pd R) := h
      split at h
      · exact h.elim
      · rename_i hc
        obtain ⟨h1, h2⟩ := recheck_spec h
        refine ⟨h1, fun p hp => ?_⟩
        rcases List.mem_cons.1 hp with rfl | hp
        · intro hu e
          subst e
          exact hc (by simp [hu])
        · exact h2 p hp
    | _ =>
      obtain ⟨h1, h2⟩ := recheck_spec (pd := pd) h
      refine ⟨h1, fun p hp => ?_⟩
      rcases List.mem_cons.1 hp with rfl | hp
      · trivial
      · exact h2 p hp
  | .mem i b o cs :: pd, h => by
    cases e with
    | wr =>
      have h : (if unord ms i j = true then Rd u b o cs ∧ recheck ms j .wr u pd R else recheck ms j .wr u pd R) := h
      split at h
      · rename_i hu
        obtain ⟨h1, h2⟩ := recheck_spec h.2
        refine ⟨h1, fun p hp => ?_⟩
        rcases List.mem_cons.1 hp with rfl | hp
        · exact fun _ => h.1
        · exact h2 p hp
      · rename_i hu
        obtain ⟨h1, h2⟩ := recheck_spec h
        refine ⟨h1, fun p hp => ?_⟩
        rcases List.mem_cons.1 hp with rfl | hp
        · exact fun hu' => absurd hu' hu
        · exact h2 p hp
    | _ =>
      obtain ⟨h1, h2⟩ := recheck_spec (pd := pd) h
      refine ⟨h1, fun p hp => ?_⟩
      rcases List.mem_cons.1 hp with rfl | hp
      · trivial
      · exact h2 p hp

/-- What was read stays as it is behind a step that rechecked it. -/
theorem keeps_step {ρ r : List Nat} {ls ls' : List Loc} {u u' w w' : World} {e : Eff} {ms : List Nat} {j : Nat} {pd : List Pend} {ps : List APend} {R : Prop} (hm : MS u0 w0 ρ ls u w) (hm' : MS u0 w0 (ρ ++ r) ls' u' w') (he : EffOk e ρ ls ls' w w')
    (hp : PdOk ρ u pd ps) (hr : recheck ms j e u' pd R) : keepsA ms ps j w w' := by
  obtain ⟨_, hre⟩ := recheck_spec hr
  intro q hq hu hC
  rcases hp q hq with hall | ⟨p, hpp, hpq⟩
  · exact hall w'
  have hpre := hre p hpp
  cases p with
  | loc i l =>
    obtain ⟨hi, b, x, hb, hC'⟩ := hpq
    rw [hC'] at hC ⊢
    rw [hi] at hu
    simp only at hpre
    have hlt : l < ls.length := by rw [← hm.len]; exact (List.getElem?_eq_some_iff.1 hb).1
    have hb' : (ρ ++ r)[l]? = some b := by rw [List.getElem?_append_left (List.getElem?_eq_some_iff.1 hb).1]; exact hb
    have hl := List.getElem?_eq_getElem hlt
    have same : ls'[l]? = ls[l]? → w'.heap[b]? = w.heap[b]? := fun hs => by
      rw [hl] at hs
      rw [(hm.own l _ b hl hb).2, (hm'.own l _ b hs hb').2]
    show w'.heap[b]? = x
    rw [← hC]
    cases e with
    | wrLoc l' => exact same (he.1 l (hpre hu))
    | wr => exact same (he l hlt)
    | pure => rw [he.1]
    | rdLoc _ => rw [he.1]
    | rdMem _ _ _ => rw [he.1]
  | mem i b o cs =>
    obtain ⟨hi, hb, hC'⟩ := hpq
    rw [hC'] at hC ⊢
    rw [hi] at hu
    simp only at hpre
    show Rd w' b o cs
    cases e with
    | wr => exact hm'.le.rd (hpre hu)
    | wrLoc l' =>
      rcases hb with rfl | ⟨_, hbr⟩
      · trivial
      · have hk := he.2 b (fun c hc e => by subst e; exact hbr (List.mem_of_getElem? hc))
        have hC : Rd w b o cs := hC
        rw [Rd_iff] at hC ⊢
        intro t v hv
        rw [← hC t v hv]
        exact World.cell?_of_block hk
    | pure => rw [he.1]; exact hC
    | rdLoc _ => rw [he.1]; exact hC
    | rdMem _ _ _ => rw [he.1]; exact hC

theorem any_sound (hC : CtxOk C) {ops : Array Oper} {Kn : KN} {ρ0 : List Nat} {a0 : Act} (hsel : Region.noSelect ops = true) : ∀ (n : Nat) (listed : Array Bool) (pd : List Pend) (ps : List APend) {ρ : List Nat} {fr : List SV} {ls : List Loc} {u w : World} {a : Act},
    (∃ r, ρ = ρ0 ++ r) → MS u0 w0 ρ ls u w → FrOk ρ fr a → Out (dstsL ops.toList) a0 a → Closed ops listed → PdOk ρ u pd ps →
    wAny C ops (masks ops.toList []) Kn n listed pd fr ls u → wpAnyP C.P ops (St u0 w0 ρ0 (dstsL ops.toList) a0 Kn) (masks ops.toList []) ps n listed a w
  | 0, listed, pd, ps, ρ, fr, ls, u, w, a, hρ, hm, hf, ho, hc, hp, h => by
    simp only [wAny] at h
    split at h
    · rename_i he
      exact ⟨by simpa using he, ρ, fr, ls, u, hρ, hm, hf, h, ho⟩
    · exact h.elim
  | n + 1, listed, pd, ps, ρ, fr, ls, u, w, a, hρ, hm, hf, ho, hc, hp, h => by
    simp only [wAny] at h
    split at h
    · rename_i hr
      refine ⟨fun _ => ⟨ρ, fr, ls, u, hρ, hm, hf, h, ho⟩, fun i hi => ?_⟩
      rw [hr] at hi
      cases hi
    · rename_i r rs hr
      have hdst : ∀ (i : Nat) (o : Oper), ops[i]? = some o → ∀ t, o.dst = some t → memN (dstsL ops.toList) t = true := fun i o hio t ht => memN_of_mem (mem_dstsL (by have := Array.mem_of_getElem? hio; simpa using this) ht)
      split at h
      · -- a reader is taken first
        rename_i i hfind
        have hmem := List.mem_of_find?_eq_some hfind
        have hprop := List.find?_some hfind
        rw [← hr] at hmem
        cases hio : ops[i]? with
        | none => rw [hio] at h; exact h.elim
        | some o =>
          rw [hio] at h hprop
          simp only [Option.map_some, Option.getD_some, Bool.and_eq_true] at hprop h
          obtain ⟨hread, hfree⟩ := hprop
          have hfree' := Region.free_spec (md := .any) hio hfree
          rcases guard_sound hf h with ⟨fr', hf', hrun, hw⟩ | ⟨fr', hf', hskip, hw⟩
          · obtain ⟨s, v, e, hk, hs, hcl, hmemr, hre⟩ := read_op hC hm hf' hread hrun
            refine wpAnyP_first (C := cls ρ w e) (v := v) hio (Region.noSelect_spec hsel) rfl n listed a w hfree' hc hmem (.inl ⟨by simpa using hw, hre⟩) hcl ?_
            refine any_sound hC hsel n _ (pend i e pd) _ hρ hm (hf'.put hs) (ho.trans (Act.out_put (hdst i o hio))) (hc.set hmem) (fun q hq => ?_) hk
            have old : ∀ q ∈ ps, (∀ w, q.C w) ∨ ∃ p ∈ pend i e pd, PendOk ρ u p q := fun q hq => (hp q hq).imp id fun ⟨p, hp, hpq⟩ => ⟨p, by cases e <;> simp [pend, hp], hpq⟩
            rcases List.mem_cons.1 hq with rfl | hq
            · cases e with
              | pure => exact .inl fun _ => trivial
              | rdLoc l =>
                rcases Nat.lt_or_ge l ρ.length with hl | hl
                · refine .inr ⟨.loc i l, by simp [pend], rfl, ?_⟩
                  have hb := List.getElem?_eq_getElem hl
                  refine ⟨ρ[l], w.heap[ρ[l]]?, hb, ?_⟩
                  funext w'
                  apply propext
                  constructor
                  · intro h'; exact h' _ hb
                  · intro h' b hb'; rw [hb] at hb'; simp only [Option.some.injEq] at hb'; subst hb'; exact h'
                · exact .inl fun w' b hb => by rw [List.getElem?_eq_none hl] at hb; cases hb
              | rdMem b q cs =>
                have hrd := hmemr b q cs rfl
                refine .inr ⟨.mem i b q cs, by simp [pend], rfl, ?_, rfl⟩
                cases cs with
                | nil => exact .inl rfl
                | cons c cs =>
                  obtain ⟨c', t, f, hb, _, _⟩ := cell_block hrd.1
                  refine .inr ⟨(Array.getElem?_eq_some_iff.1 hb).1, fun hmem => ?_⟩
                  obtain ⟨j, hj⟩ := List.mem_iff_getElem?.1 hmem
                  have hlt : j < ls.length := by rw [← hm.len]; exact (List.getElem?_eq_some_iff.1 hj).1
                  have := (hm.own j _ b (List.getElem?_eq_getElem hlt) hj).1
                  rw [hb] at this
                  simp [hole] at this
              | wrLoc l => exact hcl.elim
              | wr => exact hcl.elim
            · exact old q hq
          · refine wpAnyP_first (C := fun _ => True) (v := undef) hio (Region.noSelect_spec hsel) rfl n listed a w hfree' hc hmem (.inr ⟨by simpa using hw, rfl⟩) trivial ?_
            refine any_sound hC hsel n _ pd _ hρ hm (hf'.put (s := .v (.tuple #[])) rfl) (ho.trans (Act.out_put (hdst i o hio))) (hc.set hmem) (fun q hq => ?_) hskip
            rcases List.mem_cons.1 hq with rfl | hq
            · exact .inl fun _ => trivial
            · exact hp q hq
      · rename_i hfind
        refine ⟨fun h0 => (by rw [h0] at hr; cases hr), fun i hi => ?_⟩
        have h := allN_spec h i (by rw [← hr]; exact hi)
        cases hio : ops[i]? with
        | none => rw [hio] at h; exact h.elim
        | some o =>
          rw [hio] at h
          simp only at h
          unfold wpOp
          rw [hio]
          simp only
          rcases guard_sound hf h with ⟨fr', hf', hrun, hw⟩ | ⟨fr', hf', hskip, hw⟩
          · rw [if_pos (by simpa using hw)]
            refine .inl (Oper.wp_mono (fun a' w' hpo => ?_) (step_op hC (Q := NQ (St u0 w0 ρ0 (dstsL ops.toList) a0 Kn)) hm hf' hrun))
            obtain ⟨s, ls', u', e, v, ρ', hk, rfl, ⟨r, rfl, hrn⟩, hs, hm', hsz, heff⟩ := hpo
            have hrk := (recheck_spec hk).1
            obtain ⟨r0, rfl⟩ := hρ
            exact ⟨keeps_step hm hm' heff hp hk, any_sound hC hsel n _ pd ps ⟨r0 ++ r, by simp⟩ hm' (hf'.mono.put hs) (ho.trans (Act.out_put (hdst i o hio))) (hc.set hi) (hp.mono hrn hsz) hrk⟩
          · rw [if_neg (by rw [Array.toArray_toList] at hw; rw [hw]; simp)]
            exact ⟨fun q _ _ hq => hq, any_sound hC hsel n _ pd ps hρ hm (hf'.put (s := .v (.tuple #[])) rfl) (ho.trans (Act.out_put (hdst i o hio))) (hc.set hi) hp hskip⟩

end
end Go.Proofs.YtkmmphkjmamckabDoor

/-
  Code and functions: what the proposition says is what runs.
-/
namespace Go.Proofs.YtkmmphkjmamckabDoor
open Go
set_option linter.all false

theorem wp_loop_n {P : Program} {c : Code} {Q : Exit → Act → World → Prop} (I : Nat → Act → World → Prop)
    (round : ∀ n a w, I n a w → c.wp P (Exit.then (fun a' w' => ∃ m, m < n ∧ I m a' w') Q) a w) {n : Nat} {a : Act} {w : World} (h : I n a w) : (Code.loop c).wp P Q a w := by
  intro b k cs
  have key : ∀ n a w, I n a w → ∃ e a' w', Q e a' w' ∧ Arrives P (lone (b.at a (.code c :: .inLoop c :: k)) cs w) b k cs e a' w' := by
    intro n
    induction n using Nat.strongRecOn with
    | _ n ih =>
      intro a w hI
      obtain ⟨e, a₁, w₁, hq, harr⟩ := round n a w hI b (.inLoop c :: k) cs
      cases e with
      | normal =>
        obtain ⟨m, hlt, hI₁⟩ := hq
        obtain ⟨e₂, a₂, w₂, hq₂, harr₂⟩ := ih m hlt a₁ w₁ hI₁
        exact ⟨e₂, a₂, w₂, hq₂, .of_steps (Steps.trans harr (.one step_inLoop)) harr₂⟩
      | exit id => exact ⟨_, a₁, w₁, hq, .pass (x := .inLoop c) rfl (fun _ _ => .inl (by simp)) harr⟩
      | goto l => exact ⟨_, a₁, w₁, hq, .pass (x := .inLoop c) rfl (fun _ _ => .inl (by simp)) harr⟩
      | ret => exact ⟨_, a₁, w₁, hq, .pass (x := .inLoop c) rfl (fun _ _ => .inl (by simp)) harr⟩
      | panic ch => exact ⟨_, a₁, w₁, hq, .pass (x := .inLoop c) rfl (fun _ _ => .inl (by simp)) harr⟩
      | outgrown => exact ⟨_, a₁, w₁, hq, .pass (x := .inLoop c) rfl (fun _ _ => .inl (by simp)) harr⟩
  obtain ⟨e, a', w', hq, harr⟩ := key n a w h
  exact ⟨e, a', w', hq, .of_steps (.one step_loop) harr⟩

theorem St.deepen {u0 w0 : World} {ρ0 r : List Nat} {D E : List Nat} {a0 a1 a : Act} {K : KN} {w : World} (h : St u0 w0 (ρ0 ++ r) E a1 K a w) (ho : Out D a0 a1) : St u0 w0 ρ0 (D ++ E) a0 K a w := by
  obtain ⟨ρ, fr, ls, u, ⟨r', rfl⟩, h1, h2, h3, h4⟩ := h
  exact ⟨_, fr, ls, u, ⟨r ++ r', by simp⟩, h1, h2, h3, ho.left.trans h4.right⟩

theorem Qof.deepen {u0 w0 : World} {ρ0 r : List Nat} {D E : List Nat} {a0 a1 : Act} {Kn Kr : KN} {Kx : Nat → KN} (ho : Out D a0 a1) : ∀ e a w, Qof u0 w0 (ρ0 ++ r) E a1 Kn Kx Kr e a w → Qof u0 w0 ρ0 (D ++ E) a0 Kn Kx Kr e a w := by
  intro e a w h
  cases e with
  | normal => exact St.deepen h ho
  | exit id => exact St.deepen h ho
  | ret => exact St.deepen h ho
  | goto l => exact h
  | panic c => exact h
  | outgrown => exact h

theorem St.wider {u0 w0 : World} {ρ0 : List Nat} {D E : List Nat} {a0 a : Act} {K : KN} {w : World} (h : St u0 w0 ρ0 D a0 K a w) (hDE : ∀ t, memN E t = false → memN D t = false) : St u0 w0 ρ0 E a0 K a w := by
  obtain ⟨ρ, fr, ls, u, hr, h1, h2, h3, h4⟩ := h
  exact ⟨ρ, fr, ls, u, hr, h1, h2, h3, fun t ht => h4 t (hDE t ht)⟩

theorem Qof.wider {u0 w0 : World} {ρ0 : List Nat} {D E : List Nat} {a0 : Act} {Kn Kr : KN} {Kx : Nat → KN} (hDE : ∀ t, memN E t = false → memN D t = false) : ∀ e a w, Qof u0 w0 ρ0 D a0 Kn Kx Kr e a w → Qof u0 w0 ρ0 E a0 Kn Kx Kr e a w := by
  intro e a w h
  cases e with
  | normal => exact St.wider h hDE
  | exit id => exact St.wider h hDE
  | ret => exact St.wider h hDE
  | goto l => exact h
  | panic c => exact h
  | outgrown => exact h

theorem normSl_length : ∀ {l : List SS} {os xs : List SV}, os.length = l.length → xs.length = l.length → (normSl l os xs).length = l.length
  | [], _, _, _, _ => by simp [normSl]
  | s :: l, o :: os, x :: xs, h1, h2 => by simp [normSl, normSl_length (l := l) (os := os) (xs := xs) (by simpa using h1) (by simpa using h2)]
  | _ :: _, [], _, h, _ => by simp at h
  | _ :: _, _ :: _, [], _, h => by simp at h

/-- The opened frame: what is kept is the old one's. -/
theorem normSl_get : ∀ {l : List SS} {os xs : List SV} {i0 : Nat} {D : List Nat}, os.length = l.length → xs.length = l.length → keepsOk D i0 l = true → ∀ (t : Nat) (s : SV), (normSl l os xs)[t]? = some s →
    (memN D (i0 + t) = false ∧ os[t]? = some s) ∨ s = .junk ∨ (∃ x, xs[t]? = some x ∧ (s = x ∨ ∃ b, x = .lit b ∧ s = .v (.bool b)))
  | [], _, _, _, _, _, _, _, t, s, h => by simp [normSl] at h
  | _ :: _, [], _, _, _, h, _, _, _, _, _ => by simp at h
  | _ :: _, _ :: _, [], _, _, _, h, _, _, _, _ => by simp at h
  | k :: l, o :: os, x :: xs, i0, D, h1, h2, hk, t, s, h => by
    have hk' : keepsOk D (i0 + 1) l = true ∧ (k = .keep → memN D i0 = false) := by
      cases k <;> simp only [keepsOk, Bool.and_eq_true] at hk
      · exact ⟨hk.2, fun _ => by simpa using hk.1⟩
      all_goals exact ⟨hk, fun e => by cases e⟩
    cases t with
    | zero =>
      simp only [normSl, List.getElem?_cons_zero, Option.some.injEq] at h
      subst h
      cases k with
      | keep => exact .inl ⟨hk'.2 rfl, rfl⟩
      | junk => exact .inr (.inl rfl)
      | _ => refine .inr (.inr ⟨x, rfl, ?_⟩); cases x <;> simp [normS]
    | succ t =>
      simp only [normSl, List.getElem?_cons_succ] at h
      have := normSl_get (by simpa using h1) (by simpa using h2) hk'.1 t s h
      rw [show i0 + 1 + t = i0 + (t + 1) by omega] at this
      simpa using this

theorem FrOk.norm {ρ r : List Nat} {D : List Nat} {l : List SS} {os xs : List SV} {a0 a : Act} (h0 : FrOk ρ os a0) (h : FrOk (ρ ++ r) xs a) (ho : Out D a0 a) (h1 : os.length = l.length) (h2 : xs.length = l.length) (hk : keepsOk D 0 l = true)
    (hlp : ∀ (t i off : Nat), (normSl l os xs)[t]? = some (.lp i off) → memN D t = false ∧ os[t]? = some (.lp i off)) : FrOk ρ (normSl l os xs) a := by
  refine ⟨h.defers, by rw [normSl_length h1 h2, h.size, h2], fun t s y hs hy => ?_⟩
  rcases normSl_get h1 h2 hk t s hs with ⟨hm, hos⟩ | rfl | ⟨x, hx, hsx⟩
  · rw [Nat.zero_add] at hm
    rw [ho t hm] at hy
    exact h0.slot t s y hos hy
  · trivial
  · have hv := h.slot t x y hx hy
    rcases hsx with rfl | ⟨b, rfl, rfl⟩
    · cases s with
      | lp i off =>
        obtain ⟨hm, hos⟩ := hlp t i off hs
        rw [ho t hm] at hy
        exact h0.slot t _ y hos hy
      | _ => exact hv
    · exact hv

/-- No local pointer comes through a relation but by being kept. -/
theorem apSl_lp {α : Type} : ∀ {l : List SS} {os xs : List SV} {f : slTy l α} {R : α → Prop} {i0 : Nat} {D : List Nat}, os.length = l.length → keepsOk D i0 l = true → apSl l xs f R → ∀ (t i off : Nat), (normSl l os xs)[t]? = some (.lp i off) → memN D (i0 + t) = false ∧ os[t]? = some (.lp i off)
  | [], _, [], _, _, _, _, _, _, _, t, i, off, h => by simp [normSl] at h
  | [], _, _ :: _, _, _, _, _, _, _, h, _, _, _, _ => h.elim
  | _ :: _, _, [], _, _, _, _, _, _, h, _, _, _, _ => h.elim
  | _ :: _, [], _ :: _, _, _, _, _, h, _, _, _, _, _, _ => by simp at h
  | k :: l, o :: os, x :: xs, f, R, i0, D, h1, hk, ha, t, i, off, h => by
    have hk' : keepsOk D (i0 + 1) l = true ∧ (k = .keep → memN D i0 = false) := by
      cases k <;> simp only [keepsOk, Bool.and_eq_true] at hk
      · exact ⟨hk.2, fun _ => by simpa using hk.1⟩
      all_goals exact ⟨hk, fun e => by cases e⟩
    have ha : apSS k x f (fun g => apSl l xs g R) := ha
    cases t with
    | zero =>
      simp only [normSl, List.getElem?_cons_zero, Option.some.injEq] at h
      cases k with
      | keep => exact ⟨hk'.2 rfl, by simpa [normS] using h⟩
      | junk => simp [normS] at h
      | cell c => cases x <;> simp [normS] at h <;> exact ha.elim
      | agg c => cases x <;> simp [normS] at h <;> exact ha.elim
      | opq => cases x <;> simp [normS] at h <;> exact ha.elim
    | succ t =>
      simp only [normSl, List.getElem?_cons_succ] at h
      have hex : ∃ g, apSl l xs g R := by
        obtain ⟨g, hg, _⟩ := apSS_and (s := k) (x := x) ha ha
        exact ⟨g, hg⟩
      obtain ⟨g, hg⟩ := hex
      have := apSl_lp (by simpa using h1) hk'.1 hg t i off h
      rw [show i0 + 1 + t = i0 + (t + 1) by omega] at this
      simpa using this

theorem MS.take {u0 w0 u w : World} {ρ r : List Nat} {ls : List Loc} (h : MS u0 w0 (ρ ++ r) ls u w) {n : Nat} (hn : ρ.length = n) (hl : n ≤ ls.length) : MS u0 w0 ρ (ls.take n) u w := by
  subst hn
  refine ⟨h.le, h.kept, h.sz, by simp; omega, (List.nodup_append.1 h.nodup).1, fun i l b hl' hb => ?_, fun b hb => h.new b (by simp [hb])⟩
  have hi := (List.getElem?_eq_some_iff.1 hb).1
  rw [List.getElem?_take_of_lt hi] at hl'
  exact h.own i l b hl' (by rw [List.getElem?_append_left hi]; exact hb)

section
variable {C : Ctx} {u0 w0 : World}

theorem W_sound (hC : CtxOk C) : ∀ (c : Code) (Kn : KN) (Kx : Nat → KN) (Kr : KN) {ρ : List Nat} {fr : List SV} {ls : List Loc} {u w : World} {a : Act}, MS u0 w0 ρ ls u w → FrOk ρ fr a → W C c Kn Kx Kr fr ls u →
    c.wp C.P (Qof u0 w0 ρ (dsts c) a Kn Kx Kr) a w := by
  intro c
  induction c with
  | skip =>
    intro Kn Kx Kr ρ fr ls u w a hm hf h
    exact wp_skip ⟨ρ, fr, ls, u, ⟨[], by simp⟩, hm, hf, h, Out.refl _ _⟩
  | region id ops draw =>
    intro Kn Kx Kr ρ fr ls u w a hm hf h
    simp only [W] at h
    have toQ : ∀ e a' w', NQ (St u0 w0 ρ (dstsL ops.toList) a Kn) e a' w' → Qof u0 w0 ρ (dsts (.region id ops draw)) a Kn Kx Kr e a' w' := by
      intro e a' w' hq
      cases e <;> first | exact hq | exact hq.elim
    cases draw with
    | true =>
      simp only [if_true] at h
      split at h
      · rename_i hsel
        have := any_sound hC hsel ops.size (Array.replicate ops.size false) [] [] (ρ0 := ρ) ⟨[], by simp⟩ hm.drew hf (Out.refl _ a) Closed.start (fun q hq => by cases hq) h
        exact Code.wp_mono toQ (wp_region_any hC.mixed (wpAny_of_P _ _ _ _ this))
      · exact h.elim
    | false =>
      simp only [Bool.false_eq_true, if_false] at h
      have := ops_sound hC ops.toList (fun o ho => ho) (ρ0 := ρ) ⟨[], by simp⟩ hm hf (Out.refl _ a) h
      rw [Array.toArray_toList] at this
      exact Code.wp_mono toQ (wp_region_list this)
  | seq x y ihx ihy =>
    intro Kn Kx Kr ρ fr ls u w a hm hf h
    simp only [W] at h
    split at h
    · refine wp_seq (Code.wp_mono (fun e a' w' hq => ?_) (ihx _ _ _ hm hf h))
      cases e with
      | normal =>
        obtain ⟨ρ1, fr1, ls1, u1, ⟨r, rfl⟩, hm1, hf1, hk1, ho1⟩ := hq
        exact Code.wp_mono (Qof.deepen ho1) (ihy _ _ _ hm1 hf1 hk1)
      | exit id => exact St.wider hq fun t ht => by simp only [dsts, memN_append, Bool.or_eq_false_iff] at ht; exact ht.1
      | ret => exact St.wider hq fun t ht => by simp only [dsts, memN_append, Bool.or_eq_false_iff] at ht; exact ht.1
      | goto l => exact hq
      | panic c => exact hq
      | outgrown => exact hq
    · rename_i sh hsh
      split at h
      · rename_i hkeep
        obtain ⟨J, h1, h2⟩ := h
        refine wp_seq (Code.wp_mono (fun e a' w' hq => ?_) (ihx _ _ _ hm hf h1))
        cases e with
        | normal =>
          obtain ⟨ρ1, fr1, ls1, u1, ⟨r, rfl⟩, hm1, hf1, hk1, ho1⟩ := hq
          have hlen := opSh_len h2
          obtain ⟨⟨g, hg1, hg2⟩, hl1, hl2, hl3, _⟩ := apSh_op (LRel.refl _ _ hlen) hk1 h2
          have hlp := fun t i off ht => by
            have := apSl_lp (i0 := 0) hl2 hkeep hk1 t i off ht
            rwa [Nat.zero_add] at this
          have hf2 : FrOk ρ (normSl sh.slots fr fr1) a' := hf.norm hf1 ho1 hl2 hl1 hkeep hlp
          have hn : ls.length = sh.locs.length := opSh_len_eq h2
          have hm2 : MS u0 w0 ρ (ls1.take sh.locs.length) u1 w' := hm1.take (by rw [hm.len, hn]) hl3
          have := ihy _ _ _ hm2 hf2 (hg1 u1 hg2)
          refine Code.wp_mono (fun e a2 w2 hq2 => Qof.deepen (r := []) ho1 e a2 w2 (by simpa using hq2)) this
        | exit id => exact St.wider hq fun t ht => by simp only [dsts, memN_append, Bool.or_eq_false_iff] at ht; exact ht.1
        | ret => exact St.wider hq fun t ht => by simp only [dsts, memN_append, Bool.or_eq_false_iff] at ht; exact ht.1
        | goto l => exact hq
        | panic c => exact hq
        | outgrown => exact hq
      · exact h.elim
  | cond cnd x y ihx ihy =>
    intro Kn Kx Kr ρ fr ls u w a hm hf h
    simp only [W] at h
    have wx : ∀ e a' w', Qof u0 w0 ρ (dsts x) a Kn Kx Kr e a' w' → Qof u0 w0 ρ (dsts (.cond cnd x y)) a Kn Kx Kr e a' w' := Qof.wider fun t ht => by simp only [dsts, memN_append, Bool.or_eq_false_iff] at ht; exact ht.1
    have wy : ∀ e a' w', Qof u0 w0 ρ (dsts y) a Kn Kx Kr e a' w' → Qof u0 w0 ρ (dsts (.cond cnd x y)) a Kn Kx Kr e a' w' := Qof.wider fun t ht => by simp only [dsts, memN_append, Bool.or_eq_false_iff] at ht; exact ht.2
    split at h
    · rename_i hc
      exact wp_cond_true (ev_lit hf hc) (Code.wp_mono wx (ihx _ _ _ hm hf h))
    · rename_i hc
      exact wp_cond_false (ev_lit hf hc) (Code.wp_mono wy (ihy _ _ _ hm hf h))
    · rename_i t hc
      exact wp_cond_split (ev_v hf hc) (fun ht => Code.wp_mono wx (ihx _ _ _ hm hf (h.1 ht))) (fun ht => Code.wp_mono wy (ihy _ _ _ hm hf (h.2 ht)))
    · exact h.elim
  | block id c ih =>
    intro Kn Kx Kr ρ fr ls u w a hm hf h
    simp only [W] at h
    refine wp_block (Code.wp_mono (fun e a' w' hq => ?_) (ih _ _ _ hm hf h))
    cases e with
    | exit id' =>
      simp only [Exit.inBlock]
      have hq : St u0 w0 ρ (dsts c) a (if Nat.beq id' id then Kn else Kx id') a' w' := hq
      split
      · rename_i he
        subst he
        have hq2 : St u0 w0 ρ (dsts c) a Kn a' w' := by simpa using hq
        exact hq2
      · rename_i hne
        have : Nat.beq id' id = false := by
          cases hb : Nat.beq id' id with
          | false => rfl
          | true => exact absurd (Nat.eq_of_beq_eq_true hb) hne
        rw [this] at hq
        exact hq
    | normal => exact hq
    | ret => exact hq
    | goto l => exact hq
    | panic c => exact hq
    | outgrown => exact hq
  | loop c ih =>
    intro Kn Kx Kr ρ fr ls u w a hm hf h
    simp only [W] at h
    split at h
    · exact h.elim
    · rename_i sh hsh
      split at h
      · rename_i hkeep
        obtain ⟨J, M, h1, h2⟩ := h
        have hn : ls.length = sh.locs.length := opSh_len_eq h2
        -- the head of a round
        let body : Nat → List SV → List Loc → World → Prop := fun n fr1 ls1 u1 =>
          W C c (fun fr'' ls'' u'' => apSh sh ls1 fr'' ls'' J fun j' => j' u'' ∧ apSh sh ls1 fr'' ls'' M fun m' => m' u'' < n) Kx Kr fr1 ls1 u1
        let I : Nat → Act → World → Prop := fun n a1 w1 => ∃ fr1 ls1 u1, MS u0 w0 ρ ls1 u1 w1 ∧ FrOk ρ fr1 a1 ∧ Out (dsts c) a a1 ∧ LRel sh.locs ls ls1 ∧ ls1.length = sh.locs.length ∧ body n fr1 ls1 u1
        -- from a relation that holds to a round's head
        have enter : ∀ {r : List Nat} {lsR : List Loc} {fr1 : List SV} {ls1 : List Loc} {u1 w1 : World} {a1 : Act} {S : (World → Nat) → Prop}, LRel sh.locs ls lsR → MS u0 w0 (ρ ++ r) ls1 u1 w1 → FrOk (ρ ++ r) fr1 a1 → Out (dsts c) a a1 →
            apSh sh lsR fr1 ls1 J (fun j => j u1) → (apSh sh lsR fr1 ls1 M S → ∃ m, S m ∧ I (m u1) a1 w1) ∧ ∃ m, I m a1 w1 := by
          intro r lsR fr1 ls1 u1 w1 a1 S hl hm1 hf1 ho1 hJ
          obtain ⟨⟨g, hg1, hg2⟩, hl1, hl2, hl3, hl4⟩ := apSh_op hl hJ h2
          have hlp := fun t i off ht => by
            have := apSl_lp (i0 := 0) hl2 hkeep hJ t i off ht
            rwa [Nat.zero_add] at this
          have hf2 : FrOk ρ (normSl sh.slots fr fr1) a1 := hf.norm hf1 ho1 hl2 hl1 hkeep hlp
          have hm2 : MS u0 w0 ρ (ls1.take sh.locs.length) u1 w1 := hm1.take (by rw [hm.len, hn]) hl3
          have mk : ∀ m : World → Nat, (∀ u', g u' → W C c (fun fr'' ls'' u'' => apSh sh (ls1.take sh.locs.length) fr'' ls'' J fun j' => j' u'' ∧ apSh sh (ls1.take sh.locs.length) fr'' ls'' M fun m' => m' u'' < m u') Kx Kr (normSl sh.slots fr fr1) (ls1.take sh.locs.length) u') → I (m u1) a1 w1 :=
            fun m hb => ⟨_, _, u1, hm2, hf2, ho1, hl4, by simp; omega, hb u1 hg2⟩
          refine ⟨fun hM => ?_, ?_⟩
          · obtain ⟨m, hm1', hS⟩ := apSh_and hg1 (apSh_self hl2 hM)
            exact ⟨m, hS, mk m hm1'⟩
          · obtain ⟨m, hm1', _⟩ := apSh_and hg1 hg1
            exact ⟨_, mk m hm1'⟩
        obtain ⟨n, hn0⟩ := (enter (r := []) (S := fun _ => True) (LRel.refl _ _ (Nat.le_of_eq hn.symm)) (by simpa using hm) (by simpa using hf) (Out.refl _ _) h1).2
        refine wp_loop_n I (fun n a1 w1 hI => ?_) hn0
        obtain ⟨fr1, ls1, u1, hm1, hf1, ho1, hl1, hlen1, hbody⟩ := hI
        refine Code.wp_mono (fun e a' w' hq => ?_) (ih _ _ _ hm1 hf1 hbody)
        cases e with
        | normal =>
          obtain ⟨ρ2, fr2, ls2, u2, ⟨r, rfl⟩, hm2, hf2, hk2, ho2⟩ := hq
          obtain ⟨j, ⟨hj, hM⟩, _⟩ := apSh_and hk2 hk2
          have hJ : apSh sh ls1 fr2 ls2 J (fun j => j u2) := apSh_mono hk2 fun _ h => h.1
          have := (enter (S := fun m => m u2 < n) hl1 hm2 hf2 (ho1.trans ho2) hJ).1 hM
          obtain ⟨m, hlt, hI⟩ := this
          exact ⟨_, hlt, hI⟩
        | exit id =>
          have hq : St u0 w0 ρ (dsts c) a1 (Kx id) a' w' := hq
          obtain ⟨ρ2, fr2, ls2, u2, hr, hm2, hf2, hk2, ho2⟩ := hq
          exact ⟨ρ2, fr2, ls2, u2, hr, hm2, hf2, hk2, ho1.trans ho2⟩
        | ret =>
          have hq : St u0 w0 ρ (dsts c) a1 Kr a' w' := hq
          obtain ⟨ρ2, fr2, ls2, u2, hr, hm2, hf2, hk2, ho2⟩ := hq
          exact ⟨ρ2, fr2, ls2, u2, hr, hm2, hf2, hk2, ho1.trans ho2⟩
        | goto l => exact hq
        | panic c => exact hq
        | outgrown => exact hq
      · exact h.elim
  | exit id =>
    intro Kn Kx Kr ρ fr ls u w a hm hf h
    exact wp_exit ⟨ρ, fr, ls, u, ⟨[], by simp⟩, hm, hf, h, Out.refl _ _⟩
  | ret =>
    intro Kn Kx Kr ρ fr ls u w a hm hf h
    exact wp_ret ⟨ρ, fr, ls, u, ⟨[], by simp⟩, hm, hf, h, Out.refl _ _⟩
  | rangeFunc => intro Kn Kx Kr ρ fr ls u w a hm hf h; exact h.elim
  | scope => intro Kn Kx Kr ρ fr ls u w a hm hf h; exact h.elim
  | label => intro Kn Kx Kr ρ fr ls u w a hm hf h; exact h.elim
  | goto => intro Kn Kx Kr ρ fr ls u w a hm hf h; exact h.elim
  | refuse => intro Kn Kx Kr ρ fr ls u w a hm hf h; exact h.elim

def resSem (tmps : Array Value) : ResultVar → Sem Value
  | .tmp t => pure (tmps.getD t undef)
  | .cell b t => do loadVar t (← asAddr (tmps.getD b undef))

theorem res_one (hC : CtxOk C) {ρ : List Nat} {fr : List SV} {ls : List Loc} {u w : World} {a : Act} (hm : MS u0 w0 ρ ls u w) (hf : FrOk ρ fr a) {r : ResultVar} {p : Value → Prop} (h : resOne C fr ls u r p) :
    ∃ x, p x ∧ (resSem a.tmps r).run C.P w = .ok x w := by
  cases r with
  | tmp t =>
    simp only [resOne] at h
    split at h
    · rename_i x hx
      refine ⟨x, h, ?_⟩
      have := asV_eval hf hx
      simp only [resSem, Sem.run_pure]
      rw [show a.tmps.getD t undef = a.eval (.tmp t) from rfl, this]
    · exact h.elim
  | cell b t =>
    simp only [resOne] at h
    obtain ⟨s, v, e, hk, hs, hc, _, hr⟩ := read_load hC hm hf (dst := none) (ty := 0) (pos := "") (after := #[]) (g := none) h
    have hr := hr w hc
    cases s with
    | v x =>
      simp only at hk
      have hv : v = x := hs
      subst hv
      refine ⟨v, hk, ?_⟩
      simp only [resSem]
      rw [show a.tmps.getD b undef = a.eval (.tmp b) from rfl]
      simp only [execOp, Instr.loadAt, Sem.run_bind] at hr ⊢
      cases hx : a.eval (.tmp b) with
      | pointer ad =>
        rw [hx] at hr
        cases ad with
        | none => simp [Instr.sureAddr] at hr
        | some ad =>
          simp only [Instr.sureAddr, asAddr, Sem.run_pure, Result.andThen_ok] at hr ⊢
          cases hl : (loadVar t ad).run C.P w with
          | ok y w' =>
            rw [hl] at hr
            simp only [Result.andThen_ok, Result.ok.injEq, Next.value.injEq] at hr
            rw [hr.1, hr.2]
          | halt x' w' => rw [hl] at hr; simp at hr
      | _ => rw [hx] at hr; simp [Instr.sureAddr] at hr
    | lit b => exact hk.elim
    | lp i off => exact hk.elim
    | junk => exact hk.elim

theorem res_many (hC : CtxOk C) {ρ : List Nat} {fr : List SV} {ls : List Loc} {u w : World} {a : Act} (hm : MS u0 w0 ρ ls u w) (hf : FrOk ρ fr a) : ∀ {rs : List ResultVar} {p : List Value → Prop}, resMany C fr ls u rs p →
    ∃ xs, p xs ∧ (rs.mapM (resSem a.tmps)).run C.P w = .ok xs w
  | [], p, h => ⟨[], h, by simp⟩
  | r :: rs, p, h => by
    obtain ⟨x, h1, h2⟩ := res_one hC hm hf h
    obtain ⟨xs, h3, h4⟩ := res_many hC hm hf h1
    refine ⟨x :: xs, h3, ?_⟩
    rw [List.mapM_cons]
    simp only [Sem.run_bind, h2, Result.andThen_ok, h4, Sem.run_pure]

theorem ret_sound (hC : CtxOk C) {ρ : List Nat} {fr : List SV} {ls : List Loc} {u w : World} {a : Act} (hm : MS u0 w0 ρ ls u w) (hf : FrOk ρ fr a) {fn : Func} {R : Ending → World → Prop} (h : wRet C fn R fr ls u) :
    ∃ v, (results fn a.tmps).run C.P w = .ok v w ∧ R (.returned v) u := by
  unfold wRet at h
  obtain ⟨xs, h1, h2⟩ := res_many hC hm hf h
  have hrun : (results fn a.tmps).run C.P w = .ok (if h : xs.toArray.size = 1 then xs.toArray[0] else .tuple xs.toArray) w := by
    have e : results fn a.tmps = (do let vs ← fn.results.mapM (resSem a.tmps); pure (if h : vs.size = 1 then vs[0] else .tuple vs)) := by
      unfold results
      congr 1
    rw [e, Array.mapM_eq_mapM_toList]
    simp only [Sem.run_bind, Sem.run_map, h2, Result.andThen_ok, Sem.run_pure]
  refine ⟨_, hrun, ?_⟩
  rcases xs with _ | ⟨x, _ | ⟨y, xs⟩⟩
  · exact h1
  · exact h1
  · exact h1

/-- **What a function's proposition says is what a call of it does.** -/
theorem func_sound (hC : CtxOk C) {id : FuncId} {fn : Func} (hfn : C.P.funcs[id]? = some fn) {args : List Value} {u : World} {R : Ending → World → Prop} (h : wFunc C fn args u R) : Spec C.P id args.toArray u R := by
  intro w hle
  unfold wFunc at h
  split at h
  · rename_i c hb
    refine calls_of_wp hfn hb ?_
    have hm : MS u w [] [] u w := ⟨hle, ⟨Nat.le_refl _, fun k hk => ⟨hk, rfl⟩⟩, Nat.le_refl _, rfl, List.nodup_nil, (by intro i l b hl; simp at hl), (by simp)⟩
    have hf : FrOk [] (args.map SV.v ++ List.replicate (fn.ntmps - args.length) (.v (.tuple #[]))) { tmps := args.toArray ++ Array.replicate (fn.ntmps - args.toArray.size) undef, defers := [] } := by
      refine ⟨rfl, by simp, fun t s y hs hy => ?_⟩
      simp only [List.size_toArray] at hy
      rcases Nat.lt_or_ge t args.length with ht | ht
      · rw [List.getElem?_append_left (by simpa using ht), List.getElem?_map, List.getElem?_eq_getElem ht] at hs
        rw [Array.getElem?_append_left (by simpa using ht)] at hy
        simp only [Option.map_some, Option.some.injEq] at hs
        subst hs
        simp only [List.getElem?_toArray, List.getElem?_eq_getElem ht, Option.some.injEq] at hy
        exact hy.symm
      · rw [List.getElem?_append_right (by simpa using ht)] at hs
        rw [Array.getElem?_append_right (by simpa using ht)] at hy
        simp only [List.length_map, List.getElem?_replicate, List.size_toArray, Array.getElem?_replicate] at hs hy
        split at hs
        · rename_i hlt
          rw [if_pos hlt] at hy
          simp only [Option.some.injEq] at hs hy
          subst hs hy
          rfl
        · cases hs
    refine Code.wp_mono (fun e a w1 hq => ?_) (W_sound hC c _ _ _ hm hf h)
    have fin : ∀ K : KN, (∀ fr ls u1, K fr ls u1 → wRet C fn R fr ls u1) → ∀ {D a0}, St u w [] D a0 K a w1 → a.defers = [] ∧ ∃ v, (results fn a.tmps).run C.P w1 = .ok v w1 ∧ ∃ u', R (.returned v) u' ∧ Le u' w1 ∧ Kept u w u' w1 := by
      intro K hK D a0 hst
      obtain ⟨ρ, fr, ls, u1, _, hm1, hf1, hk, _⟩ := hst
      obtain ⟨v, h1, h2⟩ := ret_sound hC hm1 hf1 (hK _ _ _ hk)
      exact ⟨hf1.defers, v, h1, u1, h2, hm1.le, hm1.kept⟩
    cases e with
    | normal => exact fin _ (fun _ _ _ h => h) hq
    | ret => exact fin _ (fun _ _ _ h => h) hq
    | exit id =>
      obtain ⟨_, _, _, _, _, _, _, hk, _⟩ := hq
      exact hk.elim
    | goto l => exact hq
    | panic c => exact hq.elim
    | outgrown => exact hq.elim
  · exact h.elim

theorem func_spec {C : Ctx} (hC : CtxOk C) {id : FuncId} {fn : Func} (hfn : C.P.funcs[id]? = some fn) {args : List Value} {u : World} {R : Ending → World → Prop} {Q : Prop} (he : wFunc C fn args u R = Q) (h : Q) : Spec C.P id args.toArray u R := by
  subst he
  exact func_sound hC hfn h

theorem Spec.mono {P : Program} {f : FuncId} {args : Array Value} {u : World} {R R' : Ending → World → Prop} (h : Spec P f args u R) (hR : ∀ e u', R e u' → R' e u') : Spec P f args u R' := fun w hw => (h w hw).mono fun e _ ⟨u', h1, h2, h3⟩ => ⟨u', hR e u' h1, h2, h3⟩

end
end Go.Proofs.YtkmmphkjmamckabDoor

/-
  Memory as the contracts speak of it: what stays, slices of one's own, what lies in a slice.
-/
namespace Go.Proofs.YtkmmphkjmamckabDoor
open Go
set_option linter.all false

/-- No block goes, and those beyond S stay as they are. -/
structure Upd (S : Nat → Prop) (u u' : World) : Prop where
  size : u.heap.size ≤ u'.heap.size
  old : ∀ k, k < u.heap.size → ¬ S k → u'.heap[k]? = u.heap[k]?
  os : u'.os = u.os
  output : u'.output = u.output
  tape : u'.tape = u.tape

abbrev Ext : World → World → Prop := Upd fun _ => False

/-- The blocks that a slice lies in: one, or none. -/
def At (p : Option Addr) (k : Nat) : Prop := ∃ a, p = some a ∧ a.block = k

theorem Upd.refl {S : Nat → Prop} (u : World) : Upd S u u := ⟨Nat.le_refl _, fun _ _ _ => rfl, rfl, rfl, rfl⟩

theorem Upd.mono {S S' : Nat → Prop} {u u' : World} (h : Upd S u u') (hs : ∀ k, k < u.heap.size → S k → S' k) : Upd S' u u' := ⟨h.size, fun k hk hn => h.old k hk fun hS => hn (hs k hk hS), h.os, h.output, h.tape⟩

theorem Upd.any {S : Nat → Prop} {u u' : World} (h : Ext u u') : Upd S u u' := h.mono fun _ _ h => h.elim

theorem Upd.trans {S T : Nat → Prop} {u v w : World} (h : Upd S u v) (g : Upd T v w) (hs : ∀ k, k < u.heap.size → T k → S k) : Upd S u w :=
  ⟨Nat.le_trans h.size g.size, fun k hk hn => by rw [g.old k (Nat.lt_of_lt_of_le hk h.size) fun ht => hn (hs k hk ht), h.old k hk hn], by rw [g.os, h.os], by rw [g.output, h.output], by rw [g.tape, h.tape]⟩

theorem Upd.ext {S : Nat → Prop} {u v w : World} (h : Upd S u v) (g : Ext v w) : Upd S u w := h.trans g fun _ _ h => h.elim

theorem Upd.alloc {S : Nat → Prop} {u v : World} (h : Upd S u v) (o : Obj) : Upd S u (allocW v o) :=
  ⟨by show _ ≤ (v.heap.push o).size; rw [Array.size_push]; exact Nat.le_succ_of_le h.size, fun k hk hn => by
    rw [heap_alloc, if_neg (by have := h.size; omega)]
    exact h.old k hk hn, h.os, h.output, h.tape⟩

theorem Upd.drew {S : Nat → Prop} {u v : World} (h : Upd S u v) : Upd S u (drewW v) := ⟨h.size, h.old, h.os, h.output, h.tape⟩

theorem put_os {b : Nat} : ∀ (cs : List Value) (o : Nat) (u : World), (putCells u b o cs).os = u.os ∧ (putCells u b o cs).output = u.output ∧ (putCells u b o cs).tape = u.tape
  | [], _, _ => ⟨rfl, rfl, rfl⟩
  | c :: cs, o, u => put_os cs (o + 1) (u.setCell ⟨b, o, none⟩ c)

theorem Upd.put {S : Nat → Prop} {u v : World} (h : Upd S u v) {b : Nat} (hb : b < u.heap.size → S b) (o : Nat) (cs : List Value) : Upd S u (putCells v b o cs) :=
  ⟨by rw [put_size]; exact h.size, fun k hk hn => by
    rw [put_heap_other _ _ _ _ fun e => hn (by subst e; exact hb hk)]
    exact h.old k hk hn, by rw [(put_os cs o v).1, h.os], by rw [(put_os cs o v).2.1, h.output], by rw [(put_os cs o v).2.2, h.tape]⟩

theorem size_alloc (u : World) (o : Obj) : (allocW u o).heap.size = u.heap.size + 1 := by show (u.heap.push o).size = _; simp
theorem size_drew (u : World) : (drewW u).heap.size = u.heap.size := rfl
/-! ### What is read stays -/

theorem rd_lt {u : World} {b o : Nat} {c : Value} {cs : List Value} (h : Rd u b o (c :: cs)) : b < u.heap.size := by
  obtain ⟨_, _, _, hb, _⟩ := cell_block h.1
  exact (Array.getElem?_eq_some_iff.1 hb).1

theorem cell_congr {u u' : World} {a : Addr} (h : u'.heap[a.block]? = u.heap[a.block]?) : u'.cell? a = u.cell? a := by
  unfold World.cell?
  rw [h]

theorem rd_congr {u u' : World} {b : Nat} (h : u'.heap[b]? = u.heap[b]?) : ∀ (cs : List Value) (o : Nat), Rd u b o cs → Rd u' b o cs
  | [], _, _ => trivial
  | _ :: cs, o, hr => ⟨by rw [cell_congr h]; exact hr.1, rd_congr h cs (o + 1) hr.2⟩

theorem Upd.rd {S : Nat → Prop} {u u' : World} (h : Upd S u u') {b o : Nat} {cs : List Value} (hr : Rd u b o cs) (hn : ¬ S b) : Rd u' b o cs := by
  cases cs with
  | nil => trivial
  | cons c cs => exact rd_congr (h.old b (rd_lt hr) hn) _ _ hr

theorem Upd.gets {S : Nat → Prop} {u u' : World} (h : Upd S u u') {p : Option Addr} {cs : List Value} (hr : Gets u p cs) (hn : ∀ k, At p k → ¬ S k) : Gets u' p cs := by
  cases p with
  | none => exact hr
  | some a => exact ⟨hr.1, h.rd hr.2 (hn _ ⟨a, rfl, rfl⟩)⟩

theorem rd_take {u : World} {b : Nat} : ∀ (xs ys : List Value) (o : Nat), Rd u b o (xs ++ ys) → Rd u b o xs ∧ Rd u b (o + xs.length) ys
  | [], _, _, h => ⟨trivial, h⟩
  | x :: xs, ys, o, h => by
    have := rd_take xs ys (o + 1) h.2
    refine ⟨⟨h.1, this.1⟩, ?_⟩
    rw [List.length_cons, show o + (xs.length + 1) = o + 1 + xs.length by omega]
    exact this.2

theorem rd_append {u : World} {b : Nat} : ∀ (xs ys : List Value) (o : Nat), Rd u b o xs → Rd u b (o + xs.length) ys → Rd u b o (xs ++ ys)
  | [], _, _, _, h => h
  | x :: xs, ys, o, hx, h => ⟨hx.1, rd_append xs ys (o + 1) hx.2 (by rwa [List.length_cons, show o + (xs.length + 1) = o + 1 + xs.length by omega] at h)⟩

theorem rd_unique {u : World} {b : Nat} : ∀ (xs ys : List Value) (o : Nat), Rd u b o xs → Rd u b o ys → xs.length = ys.length → xs = ys
  | [], [], _, _, _, _ => rfl
  | x :: xs, y :: ys, o, hx, hy, hl => by
    have e : x = y := by have h1 := hx.1; rw [hy.1] at h1; exact (Option.some.inj h1).symm
    subst e
    rw [rd_unique xs ys (o + 1) hx.2 hy.2 (by simpa using hl)]
  | [], _ :: _, _, _, _, hl => by simp at hl
  | _ :: _, [], _, _, _, hl => by simp at hl

theorem gets_unique {u : World} {p : Option Addr} {xs ys : List Value} (hx : Gets u p xs) (hy : Gets u p ys) (hl : xs.length = ys.length) : xs = ys := by
  cases p with
  | none => rw [hx, hy]
  | some a => exact rd_unique _ _ _ hx.2 hy.2 hl

theorem gets_nil (u : World) (a : Addr) : Gets u (some a) [] := ⟨fun h => absurd rfl h, trivial⟩

/-- An element of several cells. -/
theorem rd_elem {u : World} {b es : Nat} : ∀ (ls : List (List Value)) (o i : Nat) (x : List Value), (∀ y ∈ ls, y.length = es) → Rd u b o ls.flatten → ls[i]? = some x → Rd u b (o + i * es) x
  | [], _, _, _, _, _, h => by simp at h
  | y :: ls, o, 0, x, _, hr, h => by
    simp only [List.getElem?_cons_zero, Option.some.injEq] at h
    subst h
    have := (rd_take y ls.flatten o (by simpa using hr)).1
    simpa using this
  | y :: ls, o, i + 1, x, hl, hr, h => by
    have := rd_elem ls (o + es) i x (fun z hz => hl z (List.mem_cons_of_mem _ hz)) (by
      have := (rd_take y ls.flatten o (by simpa using hr)).2
      rwa [hl y List.mem_cons_self] at this) (by simpa using h)
    rwa [show o + (i + 1) * es = o + es + i * es by rw [Nat.add_mul]; omega]

theorem flatten_len {es : Nat} : ∀ (ls : List (List Value)), (∀ y ∈ ls, y.length = es) → ls.flatten.length = ls.length * es
  | [], _ => by simp
  | y :: ls, h => by
    have := flatten_len ls fun z hz => h z (List.mem_cons_of_mem _ hz)
    simp only [List.flatten_cons, List.length_append, List.length_cons, this, h y List.mem_cons_self, Nat.add_mul]
    omega

/-- A slice of n elements, each of those cells. -/
structure Arr (u : World) (es : Nat) (p : Option Addr) (n : Nat) (ls : List (List Value)) : Prop where
  gets : Gets u p ls.flatten
  len : ls.length = n
  each : ∀ y ∈ ls, y.length = es

theorem Arr.flat {u : World} {es : Nat} {p : Option Addr} {n : Nat} {ls : List (List Value)} (h : Arr u es p n ls) : ls.flatten.length = n * es := by rw [flatten_len ls h.each, h.len]

theorem Arr.at {u : World} {es : Nat} {p : Option Addr} {n : Nat} {ls : List (List Value)} (h : Arr u es p n ls) {i : Nat} (hi : i < n) (h0 : 0 < es) : ∃ b o, p = some ⟨b, o, none⟩ ∧ Rd u b (o + i * es) (ls.getD i []) := by
  have hx : ls[i]? = some (ls.getD i []) := by
    rw [List.getD_eq_getElem?_getD, List.getElem?_eq_getElem (by rw [h.len]; exact hi)]
    rfl
  cases p with
  | none =>
    have hf := h.flat
    rw [show ls.flatten = [] from h.gets] at hf
    simp only [List.length_nil] at hf
    have : 0 < n * es := Nat.mul_pos (by omega) h0
    omega
  | some a =>
    obtain ⟨b, o, s⟩ := a
    obtain ⟨hs, hr⟩ := h.gets
    have hne : ls.flatten ≠ [] := fun e => by
      have hf := h.flat
      rw [e] at hf
      simp only [List.length_nil] at hf
      have : 0 < n * es := Nat.mul_pos (by omega) h0
      omega
    have hs := hs hne
    simp only at hs
    subst hs
    exact ⟨b, o, rfl, rd_elem ls o i _ h.each hr hx⟩

theorem Arr.upd {S : Nat → Prop} {u u' : World} {es : Nat} {p : Option Addr} {n : Nat} {ls : List (List Value)} (h : Arr u es p n ls) (hu : Upd S u u') (hn : ∀ k, At p k → ¬ S k) : Arr u' es p n ls := ⟨hu.gets h.gets hn, h.len, h.each⟩

theorem Arr.ext {u u' : World} {es : Nat} {p : Option Addr} {n : Nat} {ls : List (List Value)} (h : Arr u es p n ls) (hu : Ext u u') : Arr u' es p n ls := h.upd hu fun _ _ h => h

/-! ### A slice of one's own -/

/-- It lies at its block's start, is filled so far, and may grow there. -/
def Own (u : World) (es : Nat) (p : Option Addr) (n c : Nat) (cs : List Value) : Prop :=
  (p = none ∧ n = 0 ∧ c = 0 ∧ cs = []) ∨ ∃ b t r, p = some ⟨b, 0, none⟩ ∧ u.heap[b]? = some (.cells (cs ++ r).toArray t (0, 0)) ∧ cs.length = n * es ∧ n ≤ c ∧ r.length = (c - n) * es

theorem Own.nil (u : World) (es : Nat) : Own u es none 0 0 [] := .inl ⟨rfl, rfl, rfl, rfl⟩

theorem Own.len {u : World} {es : Nat} {p : Option Addr} {n c : Nat} {cs : List Value} (h : Own u es p n c cs) : cs.length = n * es := by
  rcases h with ⟨_, rfl, _, rfl⟩ | ⟨_, _, _, _, _, h, _⟩
  · simp
  · exact h

theorem Own.le {u : World} {es : Nat} {p : Option Addr} {n c : Nat} {cs : List Value} (h : Own u es p n c cs) : n ≤ c := by
  rcases h with ⟨_, rfl, rfl, _⟩ | ⟨_, _, _, _, _, _, h, _⟩
  · exact Nat.le_refl _
  · exact h

theorem rd_heap {u : World} {b : Nat} {t : TypeId} {f : Nat × Nat} : ∀ (xs pre post : List Value), u.heap[b]? = some (.cells (pre ++ xs ++ post).toArray t f) → Rd u b pre.length xs
  | [], _, _, _ => trivial
  | x :: xs, pre, post, h => by
    refine ⟨?_, ?_⟩
    · simp only [World.cell?, h]
      simp
    · have := rd_heap (t := t) (f := f) xs (pre ++ [x]) post (by rw [h]; simp)
      simpa using this

theorem Own.gets {u : World} {es : Nat} {p : Option Addr} {n c : Nat} {cs : List Value} (h : Own u es p n c cs) : Gets u p cs := by
  rcases h with ⟨rfl, _, _, rfl⟩ | ⟨b, t, r, rfl, hb, _⟩
  · rfl
  · exact ⟨fun _ => rfl, by have := rd_heap cs [] r (by simpa using hb); simpa using this⟩

theorem Own.at {u : World} {es : Nat} {p : Option Addr} {n c : Nat} {cs : List Value} (h : Own u es p n c cs) {k : Nat} (hk : At p k) : k < u.heap.size ∧ ∃ r t, u.heap[k]? = some (.cells (cs ++ r).toArray t (0, 0)) := by
  obtain ⟨a, ha, rfl⟩ := hk
  rcases h with ⟨rfl, _⟩ | ⟨b, t, r, rfl, hb, _⟩
  · cases ha
  · cases ha
    exact ⟨(Array.getElem?_eq_some_iff.1 hb).1, r, t, hb⟩

theorem Own.upd {S : Nat → Prop} {u u' : World} {es : Nat} {p : Option Addr} {n c : Nat} {cs : List Value} (h : Own u es p n c cs) (hu : Upd S u u') (hn : ∀ k, At p k → ¬ S k) : Own u' es p n c cs := by
  rcases h with h | ⟨b, t, r, rfl, hb, h⟩
  · exact .inl h
  · exact .inr ⟨b, t, r, rfl, by rw [hu.old b (Array.getElem?_eq_some_iff.1 hb).1 (hn _ ⟨_, rfl, rfl⟩)]; exact hb, h⟩

theorem Own.ext {u u' : World} {es : Nat} {p : Option Addr} {n c : Nat} {cs : List Value} (h : Own u es p n c cs) (hu : Ext u u') : Own u' es p n c cs := h.upd hu fun _ _ h => h

/-- A block just made. -/
theorem Own.fresh (u : World) {es n : Nat} {cs : List Value} {t : TypeId} (hl : cs.length = n * es) : Own (allocW u (.cells cs.toArray t)) es (some ⟨u.heap.size, 0, none⟩) n n cs :=
  .inr ⟨u.heap.size, t, [], rfl, by rw [heap_alloc, if_pos rfl]; simp, hl, Nat.le_refl _, by simp⟩

theorem wr_heap {u : World} {b : Nat} {t : TypeId} {cs : List Value} (h : u.heap[b]? = some (.cells cs.toArray t (0, 0))) {o n : Nat} (hn : o + n ≤ cs.length) : Wr u b o n := fun j hj => by
  refine ⟨⟨cs[o + j]'(by omega), ?_⟩, ?_⟩
  · simp only [World.cell?, h]
    simp only [Option.isSome_none, Bool.false_eq_true, if_false, List.getElem?_toArray]
    exact List.getElem?_eq_getElem (by omega)
  · simp only [World.frozen?, h]
    simp

theorem Own.wrs {u : World} {es : Nat} {p : Option Addr} {n c : Nat} {cs : List Value} (h : Own u es p n c cs) {o m : Nat} (hm : o + m ≤ c * es) : WrS u p o m := by
  rcases h with ⟨rfl, _⟩ | ⟨b, t, r, rfl, hb, hl, hc, hr⟩
  · trivial
  · refine ⟨fun _ => rfl, ?_⟩
    rw [Nat.zero_add]
    refine wr_heap hb ?_
    rw [List.length_append, hl, hr, ← Nat.add_mul, show n + (c - n) = c by omega]
    exact hm

theorem setCell_heap {u : World} {b : Nat} {t : TypeId} {cs : List Value} (h : u.heap[b]? = some (.cells cs.toArray t (0, 0))) (o : Nat) (v : Value) : (u.setCell ⟨b, o, none⟩ v).heap[b]? = some (.cells (cs.set o v).toArray t (0, 0)) := by
  rw [heap_set, if_pos rfl, h]
  simp

theorem putCells_heap {b : Nat} {t : TypeId} : ∀ (ys pre mid post : List Value) (u : World), u.heap[b]? = some (.cells (pre ++ mid ++ post).toArray t (0, 0)) → mid.length = ys.length → (putCells u b pre.length ys).heap[b]? = some (.cells (pre ++ ys ++ post).toArray t (0, 0))
  | [], pre, mid, post, u, h, hl => by
    have : mid = [] := List.length_eq_zero_iff.1 (by simpa using hl)
    subst this
    exact h
  | y :: ys, pre, [], post, u, h, hl => by simp at hl
  | y :: ys, pre, x :: mid, post, u, h, hl => by
    have h1 := setCell_heap (v := y) (o := pre.length) h
    have h2 : (pre ++ x :: mid ++ post).set pre.length y = pre ++ [y] ++ mid ++ post := by simp
    rw [h2] at h1
    have := putCells_heap ys (pre ++ [y]) mid post _ h1 (by simpa using hl)
    simpa [putCells] using this

/-- What it holds, of others from a place on. -/
theorem Own.put {u : World} {es b : Nat} {n c : Nat} {pre mid post : List Value} (h : Own u es (some ⟨b, 0, none⟩) n c (pre ++ mid ++ post)) {ys : List Value} (hl : mid.length = ys.length) {o : Nat} (ho : o = pre.length) : Own (putCells u b o ys) es (some ⟨b, 0, none⟩) n c (pre ++ ys ++ post) := by
  subst ho
  rcases h with ⟨h, _⟩ | ⟨b', t, r, hp, hb, hlen, hc, hr⟩
  · cases h
  · cases hp
    refine .inr ⟨b, t, r, rfl, ?_, ?_, hc, hr⟩
    · have := putCells_heap (t := t) ys pre mid (post ++ r) u (by rw [hb]; simp) hl
      rw [this]
      simp
    · simp only [List.length_append] at hlen ⊢
      omega

theorem repl_len (n : Nat) (z : List Value) : (repl n z).length = n * z.length := by
  induction n with
  | zero => simp [repl]
  | succ n ih =>
    rw [repl, List.replicate_succ, List.flatten_cons, List.length_append, Nat.add_mul, Nat.one_mul, Nat.add_comm]
    congr 1

/-- Growing, in place or elsewhere. -/
theorem Own.app {u u' : World} {e : TypeId} {es : Nat} {z : List Value} {p p' : Option Addr} {n c m c' : Nat} {cs old new : List Value} (h : Own u es p n c cs) (hr : AppR u e es z p n c m old new p' c' u') (ho : old.length = n * es) (hold : Gets u p old) (hn : new.length = m * es) (hz : z.length = es) :
    Own u' es p' (n + m) c' (cs ++ new) ∧ Upd (At p) u u' ∧ ((p' = p ∧ n + m ≤ c) ∨ (p' = some ⟨u.heap.size, 0, none⟩ ∧ Ext u u')) := by
  have e : old = cs := gets_unique hold h.gets (by rw [ho, h.len])
  subst e
  rcases hr with ⟨hc, rfl, rfl, rfl⟩ | ⟨hc, hc', rfl, rfl⟩
  · rcases h with ⟨rfl, rfl, rfl, rfl⟩ | ⟨b, t, r, rfl, hb, hl, hc2, hr⟩
    · have : m = 0 := by omega
      subst this
      have : new = [] := List.length_eq_zero_iff.1 (by simpa using hn)
      subst this
      exact ⟨.inl ⟨rfl, rfl, rfl, rfl⟩, Upd.refl _, .inl ⟨rfl, hc⟩⟩
    · refine ⟨.inr ⟨b, t, r.drop (m * es), rfl, ?_, ?_, hc, ?_⟩, ?_, .inl ⟨rfl, hc⟩⟩
      · have hmr : m * es ≤ r.length := by rw [hr]; exact Nat.mul_le_mul_right _ (by omega)
        have := putCells_heap (b := b) (t := t) new old (r.take (m * es)) (r.drop (m * es)) u (by rw [hb]; simp) (by rw [List.length_take, hn]; omega)
        simp only [putSl, Nat.zero_add]
        rw [← hl, this]
      · rw [List.length_append, hl, hn, Nat.add_mul]
      · rw [List.length_drop, hr, ← Nat.sub_mul]
        congr 1
        omega
      · exact (Upd.refl u).put (fun _ => ⟨_, rfl, rfl⟩) _ _
  · refine ⟨.inr ⟨u.heap.size, e, repl (c' - (n + m)) z, rfl, ?_, ?_, hc', ?_⟩, ((Upd.refl u).drew).alloc _, .inr ⟨rfl, ((Upd.refl u).drew).alloc _⟩⟩
    · rw [heap_alloc, if_pos (size_drew u).symm]
    · rw [List.length_append, h.len, hn, Nat.add_mul]
    · rw [repl_len, hz]

/-- A slice that grows out of nothing. -/
theorem AppR.none {u u' : World} {e : TypeId} {es : Nat} {z : List Value} {p' : Option Addr} {m c' : Nat} {old new : List Value} (hr : AppR u e es z none 0 0 m old new p' c' u') (ho : old = []) (hn : new.length = m * es) (hz : z.length = es) :
    Own u' es p' (0 + m) c' new ∧ Ext u u' ∧ (m = 0 ∧ p' = .none ∨ p' = some ⟨u.heap.size, 0, .none⟩) := by
  have := (Own.nil u es).app hr (by simp [ho]) (by rw [ho]; rfl) hn hz
  simp only [List.nil_append] at this
  refine ⟨this.1, this.2.1.mono fun k _ h => ?_, ?_⟩
  · obtain ⟨_, h, _⟩ := h
    cases h
  · rcases this.2.2 with ⟨h, hm⟩ | ⟨h, _⟩
    · exact .inl ⟨by omega, h⟩
    · exact .inr h

end Go.Proofs.YtkmmphkjmamckabDoor

/-
  A function that answers a bool.
-/
namespace Go.Proofs.YtkmmphkjmamckabDoor
open Go
set_option linter.all false

/-- A function that answers a bool, and leaves all as it was. -/
structure Told (u : World) (x : Bool) (e : Ending) (u' : World) : Prop where
  e : e = .returned (.bool x)
  ext : Ext u u'

theorem Own.some' {u : World} {es : Nat} {p : Option Addr} {n c : Nat} {cs : List Value} (h : Own u es p n c cs) (hn : 0 < n) : ∃ b, p = some ⟨b, 0, none⟩ := by
  rcases h with ⟨_, h, _⟩ | ⟨b, _, _, h, _⟩
  · omega
  · exact ⟨b, h⟩

end Go.Proofs.YtkmmphkjmamckabDoor

/-
  The table of types and the functions of a context, shown one by one.
-/
namespace Go.Proofs.YtkmmphkjmamckabDoor
open Go
set_option linter.all false

def TabOk (P : Program) : Nat → List TI → Prop
  | _, [] => True
  | i, ti :: r => (match ti.k with | .other => True | _ => TIok P i ti) ∧ TabOk P (i + 1) r

def FnsOk (P : Program) : List Nat → Prop
  | [] => True
  | id :: r => (∃ fn, P.funcs[id]? = some fn ∧ (fn.name == "runtime.NumGoroutine") = false ∧ fn.body.isNone = false) ∧ FnsOk P r

def EqsOk (P : Program) : List Nat → Prop
  | [] => True
  | t :: r => (P.stoodInHeld t = false ∧ P.eqGuardType P.depth t = false) ∧ EqsOk P r

theorem tabOk_at {P : Program} : ∀ {T : List TI} {i t : Nat} {ti : TI}, TabOk P i T → T[t]? = some ti → (∀ h : ti.k = .other, False) → TIok P (i + t) ti
  | [], _, _, _, _, h, _ => by simp at h
  | x :: r, i, 0, ti, hT, h, hn => by
    simp only [List.getElem?_cons_zero, Option.some.injEq] at h
    subst h
    have := hT.1
    split at this
    · rename_i h; exact (hn h).elim
    · exact this
  | x :: r, i, t + 1, ti, hT, h, hn => by
    simp only [List.getElem?_cons_succ] at h
    have := tabOk_at hT.2 h hn
    rwa [show i + (t + 1) = i + 1 + t by omega]

theorem fnsOk_at {P : Program} : ∀ {l : List Nat} {id : Nat}, FnsOk P l → memN l id = true → ∃ fn, P.funcs[id]? = some fn ∧ (fn.name == "runtime.NumGoroutine") = false ∧ fn.body.isNone = false
  | [], _, _, h => by simp [memN] at h
  | k :: r, id, hl, h => by
    unfold memN at h
    split at h
    · rename_i e
      rw [← Nat.eq_of_beq_eq_true e]
      exact hl.1
    · exact fnsOk_at hl.2 h

theorem eqsOk_at {P : Program} : ∀ {l : List Nat} {t : Nat}, EqsOk P l → memN l t = true → P.stoodInHeld t = false ∧ P.eqGuardType P.depth t = false
  | [], _, _, h => by simp [memN] at h
  | k :: r, id, hl, h => by
    unfold memN at h
    split at h
    · rename_i e
      rw [← Nat.eq_of_beq_eq_true e]
      exact hl.1
    · exact eqsOk_at hl.2 h

def tiStruct (T : List TI) : Nat → List TI → List Nat → Bool
  | _, [], _ => true
  | i, ti :: r, eqs => (match ti.k with | .struct (f :: fs) => !scalars T 0 (f :: fs) || memN eqs i | _ => true) && tiStruct T (i + 1) r eqs

theorem tiStruct_at {T : List TI} {eqs : List Nat} : ∀ {l : List TI} {i t : Nat} {ti : TI}, tiStruct T i l eqs = true → l[t]? = some ti → ∀ {f fs}, ti.k = .struct (f :: fs) → scalars T 0 (f :: fs) = true → memN eqs (i + t) = true
  | [], _, _, _, _, h, _, _, _, _ => by simp at h
  | x :: r, i, 0, ti, hT, h, f, fs, hk, hs => by
    simp only [List.getElem?_cons_zero, Option.some.injEq] at h
    subst h
    simp only [tiStruct, Bool.and_eq_true, hk, hs, Bool.not_true, Bool.false_or] at hT
    exact hT.1
  | x :: r, i, t + 1, ti, hT, h, f, fs, hk, hs => by
    simp only [List.getElem?_cons_succ] at h
    simp only [tiStruct, Bool.and_eq_true] at hT
    have := tiStruct_at hT.2 h hk hs
    rwa [show i + (t + 1) = i + 1 + t by omega]

theorem ctxOk_of {P : Program} {T : List TI} {fns eqs : List Nat} (hT : TabOk P 0 T) (hm : P.follows .mixedOrders = true) (hf : FnsOk P fns) (he : EqsOk P eqs) (hc : tiStruct T 0 T eqs = true) {real wraps opqs : List Nat} {loops cuts : List (Nat × LShape)} : CtxOk ⟨P, T, real, wraps, opqs, fns, loops, cuts⟩ where
  ti := fun t ti h => by
    unfold Ctx.ti tiOf at h
    split at h
    · rename_i x hx
      split at h
      · cases h
      · rename_i hn
        simp only [Option.some.injEq] at h
        subst h
        have := tabOk_at hT hx hn
        rwa [Nat.zero_add] at this
    · cases h
  mixed := hm
  fn := fun id h => fnsOk_at hf h
  eq := fun t h => by
    unfold eqTy Ctx.ti tiOf at h
    refine eqsOk_at he ?_
    split at h
    · rename_i f fs s b z hx
      split at hx
      · rename_i x hx'
        split at hx
        · cases hx
        · simp only [Option.some.injEq] at hx
          have := tiStruct_at hc hx' (f := f) (fs := fs) (by rw [hx]) h
          rwa [Nat.zero_add] at this
      · cases hx
    · cases h

end Go.Proofs.YtkmmphkjmamckabDoor

