/-
  An operation that writes, makes memory or calls.
-/
import Derived.Test.YtkmmphkjmamckaaVcOp4
namespace Go.Proofs.Ytkmmphkjmamckaa
open Go
set_option linter.all false

def EffOk (e : Eff) (ρ : List Nat) (ls ls' : List Loc) (w w' : World) : Prop :=
  match e with
  | .wrLoc l => (∀ m, m ≠ l → ls'[m]? = ls[m]?) ∧ ∀ k : Nat, (∀ b, ρ[l]? = some b → k ≠ b) → w'.heap[k]? = w.heap[k]?
  | .wr => ∀ m, m < ls.length → ls'[m]? = ls[m]?
  | _ => w' = w ∧ ls' = ls

def Post (u0 w0 : World) (ρ : List Nat) (ls : List Loc) (u w : World) (a : Act) (o : Oper) (k : KO) (a' : Act) (w' : World) : Prop :=
  ∃ s ls' u' e v ρ', k s ls' u' e ∧ a' = a.put o.dst v ∧ (∃ r, ρ' = ρ ++ r ∧ ∀ b ∈ r, u.heap.size ≤ b) ∧ s.holds ρ' v ∧ MS u0 w0 ρ' ls' u' w' ∧ u.heap.size ≤ u'.heap.size ∧ EffOk e ρ ls ls' w w'

section ms
variable {u0 w0 u w : World} {ρ : List Nat} {ls : List Loc}

theorem MS.alloc (h : MS u0 w0 ρ ls u w) (o : Obj) : MS u0 w0 ρ ls (allocW u o) (allocW w o) := by
  refine ⟨h.le.alloc o, ⟨?_, fun k hk => ?_⟩, ?_, h.len, h.nodup, fun i l b hl hb => ?_, h.new⟩
  · have : (allocW u o).heap.size = u.heap.size + 1 := by simp [allocW]
    have := h.kept.size; omega
  · obtain ⟨h1, h2⟩ := h.kept.hole k hk
    have hlt : k < u.heap.size := (Array.getElem?_eq_some_iff.1 h1).1
    rw [heap_alloc, heap_alloc, if_neg (by omega), if_neg (by rw [h.le.size]; omega)]
    exact ⟨h1, h2⟩
  · have : (allocW u o).heap.size = u.heap.size + 1 := by simp [allocW]
    have := h.sz; omega
  · obtain ⟨h1, h2⟩ := h.own i l b hl hb
    have hlt : b < u.heap.size := (Array.getElem?_eq_some_iff.1 h1).1
    rw [heap_alloc, heap_alloc, if_neg (by omega), if_neg (by rw [h.le.size]; omega)]
    exact ⟨h1, h2⟩

theorem MS.allocLoc (h : MS u0 w0 ρ ls u w) (t : TypeId) (q : Bool) (cells : List Value) : MS u0 w0 (ρ ++ [u.heap.size]) (ls ++ [⟨t, q, cells⟩]) (allocW u hole) (allocW w (.cells cells.toArray t)) := by
  refine ⟨h.le.hole _, ⟨?_, fun k hk => ?_⟩, ?_, by simp [h.len], ?_, fun i l b hl hb => ?_, fun b hb => ?_⟩
  · have : (allocW u hole).heap.size = u.heap.size + 1 := by simp [allocW]
    have := h.kept.size; omega
  · obtain ⟨h1, h2⟩ := h.kept.hole k hk
    have hlt : k < u.heap.size := (Array.getElem?_eq_some_iff.1 h1).1
    rw [heap_alloc, heap_alloc, if_neg (by omega), if_neg (by rw [h.le.size]; omega)]
    exact ⟨h1, h2⟩
  · have : (allocW u hole).heap.size = u.heap.size + 1 := by simp [allocW]
    have := h.sz; omega
  · rw [List.nodup_append]
    refine ⟨h.nodup, by simp, fun b hb c hc => ?_⟩
    simp only [List.mem_singleton] at hc
    subst hc
    intro e
    subst e
    obtain ⟨i, hi⟩ := List.mem_iff_getElem?.1 hb
    have hlt : i < ls.length := by rw [← h.len]; exact (List.getElem?_eq_some_iff.1 hi).1
    obtain ⟨h1, _⟩ := h.own i _ _ (List.getElem?_eq_getElem hlt) hi
    have := (Array.getElem?_eq_some_iff.1 h1).1
    omega
  · rcases Nat.lt_or_ge i ls.length with hi | hi
    · rw [List.getElem?_append_left hi] at hl
      rw [List.getElem?_append_left (by rw [h.len]; exact hi)] at hb
      obtain ⟨h1, h2⟩ := h.own i l b hl hb
      have hlt : b < u.heap.size := (Array.getElem?_eq_some_iff.1 h1).1
      rw [heap_alloc, heap_alloc, if_neg (by omega), if_neg (by rw [h.le.size]; omega)]
      exact ⟨h1, h2⟩
    · rw [List.getElem?_append_right hi] at hl
      rw [List.getElem?_append_right (by rw [h.len]; exact hi), h.len] at hb
      cases hj : i - ls.length with
      | zero =>
        rw [hj] at hl hb
        simp only [List.getElem?_cons_zero, Option.some.injEq] at hl hb
        subst hl hb
        rw [heap_alloc, heap_alloc, if_pos rfl, if_pos h.le.size.symm]
        exact ⟨rfl, rfl⟩
      | succ j => rw [hj] at hl; simp at hl
  · simp only [List.mem_append, List.mem_singleton] at hb
    rcases hb with hb | hb
    · exact h.new b hb
    · subst hb; exact h.sz

theorem MS.drew (h : MS u0 w0 ρ ls u w) : MS u0 w0 ρ ls (drewW u) (drewW w) := ⟨h.le.drew, ⟨h.kept.size, h.kept.hole⟩, h.sz, h.len, h.nodup, h.own, h.new⟩

theorem MS.put (h : MS u0 w0 ρ ls u w) {b o : Nat} {cs : List Value} (hw : Wr u b o cs.length) : MS u0 w0 ρ ls (putCells u b o cs) (putCells w b o cs) := by
  by_cases hne : cs = []
  · subst hne; exact h
  have hbk : ∀ k : Nat, u.heap[k]? = some hole → k ≠ b := by
    intro k hk e
    subst e
    obtain ⟨⟨x, hx⟩, _⟩ := hw 0 (by cases cs with | nil => exact absurd rfl hne | cons => simp)
    obtain ⟨c', t, f, hb, _, _⟩ := cell_block hx
    rw [hk] at hb
    simp [hole] at hb
  refine ⟨h.le.put cs o hw, ⟨by rw [put_size]; exact h.kept.size, fun k hk => ?_⟩, by rw [put_size]; exact h.sz, h.len, h.nodup, fun i l c hl hc => ?_, h.new⟩
  · obtain ⟨h1, h2⟩ := h.kept.hole k hk
    have := hbk k h1
    rw [put_heap_other _ _ _ _ this, put_heap_other _ _ _ _ this]
    exact ⟨h1, h2⟩
  · obtain ⟨h1, h2⟩ := h.own i l c hl hc
    have := hbk c h1
    rw [put_heap_other _ _ _ _ this, put_heap_other _ _ _ _ this]
    exact ⟨h1, h2⟩

theorem MS.putSl (h : MS u0 w0 ρ ls u w) {p : Option Addr} {off : Nat} {cs : List Value} (hw : WrS u p off cs.length) : MS u0 w0 ρ ls (putSl u p off cs) (putSl w p off cs) := by
  cases p with
  | none => exact h
  | some a => exact h.put hw.2

theorem MS.local (h : MS u0 w0 ρ ls u w) {i b off : Nat} {l : Loc} {cs cs' : List Value} (hl : ls[i]? = some l) (hb : ρ[i]? = some b) (hp : putN l.cells off cs = some cs') :
    MS u0 w0 ρ (ls.set i { l with cells := cs' }) u (putCells w b off cs) := by
  obtain ⟨hub, hwb⟩ := h.own i l b hl hb
  have hil : i < ls.length := (List.getElem?_eq_some_iff.1 hl).1
  have hput := put_block cs off l.cells cs' w hwb hp
  refine ⟨⟨by rw [put_size]; exact h.le.size, ?_, ?_, ?_, ?_, fun k o hk => ?_⟩, ⟨h.kept.size, fun k hk => ?_⟩, h.sz, by simp [h.len], h.nodup, fun j l' c hl' hc => ?_, h.new⟩
  · have : ∀ (cs : List Value) (o : Nat) (w : World), (putCells w b o cs).tape = w.tape := by intro cs; induction cs with | nil => intros; rfl | cons c cs ih => intro o w; rw [putCells, ih]; rfl
    rw [this]; exact h.le.tape
  · have : ∀ (cs : List Value) (o : Nat) (w : World), (putCells w b o cs).drawn = w.drawn := by intro cs; induction cs with | nil => intros; rfl | cons c cs ih => intro o w; rw [putCells, ih]; rfl
    rw [this]; exact h.le.drawn
  · have : ∀ (cs : List Value) (o : Nat) (w : World), (putCells w b o cs).os = w.os := by intro cs; induction cs with | nil => intros; rfl | cons c cs ih => intro o w; rw [putCells, ih]; rfl
    rw [this]; exact h.le.os
  · have : ∀ (cs : List Value) (o : Nat) (w : World), (putCells w b o cs).output = w.output := by intro cs; induction cs with | nil => intros; rfl | cons c cs ih => intro o w; rw [putCells, ih]; rfl
    rw [this]; exact h.le.output
  · by_cases hkb : k = b
    · subst hkb; rw [hub] at hk; simp only [Option.some.injEq] at hk; exact .inl hk.symm
    · rw [put_heap_other _ _ _ _ hkb]; exact h.le.block k o hk
  · obtain ⟨h1, h2⟩ := h.kept.hole k hk
    have hne : k ≠ b := by
      have h3 := h.new b (List.mem_of_getElem? hb)
      have h4 := (Array.getElem?_eq_some_iff.1 hk).1
      omega
    rw [put_heap_other _ _ _ _ hne]
    exact ⟨h1, h2⟩
  · by_cases hj : j = i
    · subst hj
      rw [List.getElem?_set_self hil] at hl'
      simp only [Option.some.injEq] at hl'
      subst hl'
      rw [hb] at hc
      simp only [Option.some.injEq] at hc
      subst hc
      exact ⟨hub, hput⟩
    · rw [List.getElem?_set_ne (by omega)] at hl'
      obtain ⟨h1, h2⟩ := h.own j l' c hl' hc
      have hne : c ≠ b := by
        intro e
        subst e
        have hjl : j < ρ.length := (List.getElem?_eq_some_iff.1 hc).1
        have := (List.getElem?_inj hjl h.nodup).1 (hc.trans hb.symm)
        exact hj this
      rw [put_heap_other _ _ _ _ hne]
      exact ⟨h1, h2⟩

theorem MS.call (h : MS u0 w0 ρ ls u w) {u' w' : World} (hl : Le u' w') (hk : Kept u w u' w') : MS u0 w0 ρ ls u' w' := by
  refine ⟨hl, ⟨Nat.le_trans h.kept.size hk.size, fun k h0 => ?_⟩, Nat.le_trans h.sz hk.size, h.len, h.nodup, fun i l b hl' hb => ?_, h.new⟩
  · obtain ⟨h1, h2⟩ := h.kept.hole k h0
    obtain ⟨h3, h4⟩ := hk.hole k h1
    exact ⟨h3, h4.trans h2⟩
  · obtain ⟨h1, h2⟩ := h.own i l b hl' hb
    obtain ⟨h3, h4⟩ := hk.hole b h1
    exact ⟨h3, h4.trans h2⟩

end ms

theorem alloc_le (u : World) (o : Obj) : u.heap.size ≤ (allocW u o).heap.size := by simp [allocW]
theorem putSl_le (u : World) (p : Option Addr) (off : Nat) (cs : List Value) : u.heap.size ≤ (putSl u p off cs).heap.size := by cases p <;> simp [putSl, put_size]

theorem Post.wr {u0 w0 u w w' : World} {ρ : List Nat} {ls : List Loc} {a : Act} {o : Oper} {k : KO} {y : Value} {u' : World} (h : k (.v y) ls u' .wr) (hm : MS u0 w0 ρ ls u' w') (hsz : u.heap.size ≤ u'.heap.size) : Post u0 w0 ρ ls u w a o k (a.put o.dst y) w' :=
  ⟨.v y, ls, u', .wr, y, ρ, h, rfl, ⟨[], by simp, by simp⟩, rfl, hm, hsz, fun _ _ => rfl⟩

theorem Post.read {P : Program} {u0 w0 u w : World} {ρ : List Nat} {ls : List Loc} {a : Act} {o : Oper} {k : KO} {Q : Exit → Act → World → Prop} (hm : MS u0 w0 ρ ls u w) (h : ReadOk P ρ ls u w a o k) : o.wp P a w (Post u0 w0 ρ ls u w a o k) Q := by
  obtain ⟨s, v, e, hk, hs, hc, _, hr⟩ := h
  unfold Oper.wp
  rw [hr w hc]
  refine ⟨s, ls, u, e, v, ρ, hk, rfl, ⟨[], by simp, by simp⟩, hs, hm, Nat.le_refl _, ?_⟩
  cases e <;> first | exact ⟨rfl, rfl⟩ | exact hc.elim

/-! ### Zeros -/

theorem repl_get {z : List Value} : ∀ (n j : Nat), j < n * z.length → (repl n z)[j]? = z[j % z.length]?
  | 0, j, h => by simp at h
  | n + 1, j, h => by
    have e : repl (n + 1) z = z ++ repl n z := by simp [repl, List.replicate_succ]
    rw [e]
    rcases Nat.lt_or_ge j z.length with hj | hj
    · rw [List.getElem?_append_left hj, Nat.mod_eq_of_lt hj]
    · rw [List.getElem?_append_right hj, repl_get n (j - z.length) (by rw [Nat.add_mul, Nat.one_mul] at h; omega), Nat.mod_eq_sub_mod hj]

theorem repl_length (n : Nat) (z : List Value) : (repl n z).length = n * z.length := by
  induction n with
  | zero => simp [repl]
  | succ n ih => rw [show repl (n + 1) z = z ++ repl n z by simp [repl, List.replicate_succ], List.length_append, ih, Nat.add_mul, Nat.one_mul, Nat.add_comm]

theorem zeros_eq (n : Nat) (z : List Value) (hz : z ≠ []) : ((Array.range (n * z.length)).map fun i => z.toArray[i % z.toArray.size]!) = (repl n z).toArray := by
  have hpos : 0 < z.length := List.length_pos_iff.2 hz
  apply Array.ext'
  apply List.ext_getElem?
  intro j
  rw [Array.getElem?_toList, Array.getElem?_map]
  rcases Nat.lt_or_ge j (n * z.length) with h | h
  · have hm : j % z.length < z.length := Nat.mod_lt _ hpos
    rw [show (Array.range (n * z.length))[j]? = some j by simp [h]]
    simp only [Option.map_some, List.size_toArray]
    rw [repl_get n j h, List.getElem?_eq_getElem hm]
    simp [hm]
  · rw [Array.getElem?_eq_none (by simpa using h)]
    simp only [Option.map_none]
    rw [List.getElem?_eq_none (by rw [repl_length]; exact h)]

theorem zero_spec {P : Program} {t : TypeId} {ti : TI} (h : TIok P t ti) (hk : ∀ ts, ti.k ≠ .tuple ts) : ∃ i z, P.info? t = some i ∧ i.zero = some z ∧ z.cells = ti.zero.toArray := by
  have hz := h.zero
  cases hki : ti.k <;> rw [hki] at hz <;> first | exact hz | exact absurd hki (hk _)

end Go.Proofs.Ytkmmphkjmamckaa
