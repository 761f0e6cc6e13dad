/-
  Regions, code, functions.
-/
import Derived.Test.YtkmmphkjmamckaaVcSound
import Derived.Test.YtkmmphkjmamckaaVcLoop
namespace Go.Proofs.Ytkmmphkjmamckaa
open Go
set_option linter.all false

def Out (D : List Nat) (a a' : Act) : Prop := ∀ t, memN D t = false → a'.tmps[t]? = a.tmps[t]?

theorem Out.refl (D : List Nat) (a : Act) : Out D a a := fun _ _ => rfl

theorem memN_append (l r : List Nat) (t : Nat) : memN (l ++ r) t = (memN l t || memN r t) := by
  induction l with
  | nil => rfl
  | cons k l ih => simp only [List.cons_append, memN]; split <;> simp [ih]

theorem Out.left {D E : List Nat} {a a' : Act} (h : Out D a a') : Out (D ++ E) a a' := fun t ht => h t (by rw [memN_append, Bool.or_eq_false_iff] at ht; exact ht.1)
theorem Out.right {D E : List Nat} {a a' : Act} (h : Out E a a') : Out (D ++ E) a a' := fun t ht => h t (by rw [memN_append, Bool.or_eq_false_iff] at ht; exact ht.2)
theorem Out.trans {D : List Nat} {a b c : Act} (h : Out D a b) (k : Out D b c) : Out D a c := fun t ht => (k t ht).trans (h t ht)

def St (u0 w0 : World) (ρ0 : List Nat) (D : List Nat) (a0 : Act) (K : KN) (a : Act) (w : World) : Prop :=
  ∃ ρ fr ls u, (∃ r, ρ = ρ0 ++ r) ∧ MS u0 w0 ρ ls u w ∧ FrOk ρ fr a ∧ K fr ls u ∧ Out D a0 a

def Qof (u0 w0 : World) (ρ0 : List Nat) (D : List Nat) (a0 : Act) (Kn : KN) (Kx : Nat → KN) (Kr : KN) : Exit → Act → World → Prop
  | .normal, a, w => St u0 w0 ρ0 D a0 Kn a w
  | .exit id, a, w => St u0 w0 ρ0 D a0 (Kx id) a w
  | .ret, a, w => St u0 w0 ρ0 D a0 Kr a w
  | _, _, _ => False

theorem St.mono {u0 w0 : World} {ρ0 : List Nat} {D : List Nat} {a0 : Act} {K K' : KN} {a : Act} {w : World} (h : St u0 w0 ρ0 D a0 K a w) (hK : ∀ fr ls u, K fr ls u → K' fr ls u) : St u0 w0 ρ0 D a0 K' a w := by
  obtain ⟨ρ, fr, ls, u, h1, h2, h3, h4, h5⟩ := h
  exact ⟨ρ, fr, ls, u, h1, h2, h3, hK _ _ _ h4, h5⟩

theorem SV.holds_mono {ρ r : List Nat} {s : SV} {y : Value} (h : s.holds ρ y) : s.holds (ρ ++ r) y := by
  cases s with
  | lp i off =>
    obtain ⟨b, hb, hy⟩ := h
    refine ⟨b, ?_, hy⟩
    rw [List.getElem?_append_left (List.getElem?_eq_some_iff.1 hb).1]
    exact hb
  | _ => exact h

theorem FrOk.mono {ρ r : List Nat} {fr : List SV} {a : Act} (h : FrOk ρ fr a) : FrOk (ρ ++ r) fr a := ⟨h.defers, h.size, fun t s y hs hy => SV.holds_mono (h.slot t s y hs hy)⟩

theorem FrOk.put {ρ : List Nat} {fr : List SV} {a : Act} (h : FrOk ρ fr a) {d : Option Tmp} {s : SV} {v : Value} (hs : s.holds ρ v) : FrOk ρ (putS fr d s) (a.put d v) := by
  cases d with
  | none => exact h
  | some d =>
    refine ⟨h.defers, by simp [Act.put, putS, h.size], fun t s' y hs' hy => ?_⟩
    simp only [Act.put, putS] at hs' hy
    by_cases htd : t = d
    · subst htd
      have hlt : t < fr.length := by have := (List.getElem?_eq_some_iff.1 hs').1; simpa using this
      rw [List.getElem?_set_self hlt] at hs'
      rw [Array.getElem?_setIfInBounds_self_of_lt (by rw [h.size]; exact hlt)] at hy
      simp only [Option.some.injEq] at hs' hy
      subst hs' hy
      exact hs
    · rw [List.getElem?_set_ne (by omega)] at hs'
      rw [Array.getElem?_setIfInBounds_ne (by omega)] at hy
      exact h.slot t s' y hs' hy

theorem FrOk.lit {ρ : List Nat} {fr : List SV} {a : Act} (h : FrOk ρ fr a) {d : Nat} {b : Bool} (hd : fr.getD d .junk = .v (.bool b)) : FrOk ρ (fr.set d (.lit b)) a := by
  refine ⟨h.defers, by simp [h.size], fun t s y hs hy => ?_⟩
  by_cases htd : t = d
  · subst htd
    have hlt : t < fr.length := by have := (List.getElem?_eq_some_iff.1 hs).1; simpa using this
    rw [List.getElem?_set_self hlt] at hs
    simp only [Option.some.injEq] at hs
    subst hs
    have hf : fr[t]? = some (.v (.bool b)) := by
      rw [List.getD_eq_getElem?_getD] at hd
      rw [List.getElem?_eq_getElem hlt] at hd ⊢
      simpa using hd
    exact h.slot t (.v (.bool b)) y hf hy
  · rw [List.getElem?_set_ne (by omega)] at hs
    exact h.slot t s y hs hy

theorem Act.out_put {D : List Nat} {a : Act} {d : Option Tmp} {v : Value} (h : ∀ t, d = some t → memN D t = true) : Out D a (a.put d v) := by
  intro t ht
  cases d with
  | none => rfl
  | some d =>
    have : t ≠ d := fun e => by subst e; rw [h t rfl] at ht; cases ht
    simp only [Act.put]
    rw [Array.getElem?_setIfInBounds_ne (by omega)]

theorem memN_of_mem {l : List Nat} {t : Nat} (h : t ∈ l) : memN l t = true := by
  induction l with
  | nil => cases h
  | cons k l ih =>
    simp only [memN]
    split
    · rfl
    · rename_i hne
      rcases List.mem_cons.1 h with rfl | h
      · exact absurd (by simp) hne
      · exact ih h

theorem mem_dstsL {l : List Oper} {o : Oper} {d : Nat} (ho : o ∈ l) (hd : o.dst = some d) : d ∈ dstsL l := by
  induction l with
  | nil => cases ho
  | cons x l ih =>
    rcases List.mem_cons.1 ho with rfl | h
    · simp [dstsL, hd]
    · simp only [dstsL]
      split
      · exact List.mem_cons_of_mem _ (ih h)
      · exact ih h

section
variable {C : Ctx} {u0 w0 : World}

/-- A guard is decided as the frame has it. -/
theorem guard_sound {ρ : List Nat} {fr : List SV} {a : Act} (hf : FrOk ρ fr a) {ops : List Oper} {o : Oper} {run skip : List SV → Prop} (h : wGuard ops o fr run skip) :
    (∃ fr', FrOk ρ fr' a ∧ run fr' ∧ Region.wanted o (yielded ops.toArray a.tmps) = true) ∨ (∃ fr', FrOk ρ fr' a ∧ skip fr' ∧ Region.wanted o (yielded ops.toArray a.tmps) = false) := by
  unfold wGuard at h
  unfold Region.wanted
  split at h
  · rename_i hg
    rw [hg]
    exact .inl ⟨fr, hf, h, rfl⟩
  · rename_i j want hg
    rw [hg]
    simp only
    split at h
    · exact h.elim
    · rename_i d hd
      have hy : ∀ y, a.tmps[d]? = some y → yielded ops.toArray a.tmps j = (match y with | .bool b => some b | _ => none) := by
        intro y hy
        unfold yielded
        unfold guardSlot at hd
        simp only [List.getElem?_toArray, hd, Option.bind_some, hy]
        cases y <;> rfl
      have look : ∀ s, fr.getD d .junk = s → s ≠ .junk → ∃ y, a.tmps[d]? = some y ∧ s.holds ρ y := by
        intro s hs hne
        rw [List.getD_eq_getElem?_getD] at hs
        cases hfr : fr[d]? with
        | none => rw [hfr] at hs; exact absurd hs.symm hne
        | some s' =>
          rw [hfr] at hs
          simp only [Option.getD_some] at hs
          subst hs
          have hlt : d < a.tmps.size := by rw [hf.size]; exact (List.getElem?_eq_some_iff.1 hfr).1
          exact ⟨_, Array.getElem?_eq_getElem hlt, hf.slot d _ _ hfr (Array.getElem?_eq_getElem hlt)⟩
      split at h
      · rename_i b hs
        obtain ⟨y, hty, hyv⟩ := look _ hs (by simp)
        have hyv : y = .bool b := hyv
        subst hyv
        rw [hy _ hty]
        split at h
        · rename_i hb
          refine .inl ⟨fr, hf, h, ?_⟩
          have : b = want := by simpa using hb
          simp [this]
        · rename_i hb
          refine .inr ⟨fr, hf, h, ?_⟩
          have : ¬ b = want := by simpa using hb
          simp [this]
      · rename_i b hs
        obtain ⟨y, hty, hyv⟩ := look _ hs (by simp)
        have hyv : y = .bool b := hyv
        subst hyv
        rw [hy _ hty]
        have hfl := hf.lit hs
        cases b
        · have h := h.2 rfl
          cases want
          · exact .inl ⟨_, hfl, h, rfl⟩
          · exact .inr ⟨_, hfl, h, rfl⟩
        · have h := h.1 rfl
          cases want
          · exact .inr ⟨_, hfl, h, rfl⟩
          · exact .inl ⟨_, hfl, h, rfl⟩
      · rename_i vs hs
        obtain ⟨y, hty, hyv⟩ := look _ hs (by simp)
        have hyv : y = .tuple vs := hyv
        subst hyv
        rw [hy _ hty]
        exact .inr ⟨fr, hf, h, rfl⟩
      · exact h.elim

theorem ops_sound (hC : CtxOk C) {all : List Oper} {Kn : KN} {ρ0 : List Nat} {a0 : Act} : ∀ (l : List Oper), (∀ o ∈ l, o ∈ all) → ∀ {ρ : List Nat} {fr : List SV} {ls : List Loc} {u w : World} {a : Act}, (∃ r, ρ = ρ0 ++ r) → MS u0 w0 ρ ls u w → FrOk ρ fr a → Out (dstsL all) a0 a →
    wOps C all Kn l fr ls u → wpList C.P all.toArray (NQ (St u0 w0 ρ0 (dstsL all) a0 Kn)) l a w
  | [], _, ρ, fr, ls, u, w, a, hρ, hm, hf, ho, h => ⟨ρ, fr, ls, u, hρ, hm, hf, h, ho⟩
  | o :: l, hsub, ρ, fr, ls, u, w, a, hρ, hm, hf, ho, h => by
    have hin := hsub o (by simp)
    have hdst : ∀ t, o.dst = some t → memN (dstsL all) t = true := fun t ht => memN_of_mem (mem_dstsL hin ht)
    unfold wpList
    simp only [wOps] at h
    rcases guard_sound hf h with ⟨fr', hf', hrun, hw⟩ | ⟨fr', hf', hskip, hw⟩
    · rw [if_pos hw]
      refine .inl (Oper.wp_mono (fun a' w' hp => ?_) (step_op hC (Q := NQ (St u0 w0 ρ0 (dstsL all) a0 Kn)) hm hf' hrun))
      obtain ⟨s, ls', u', e, v, ρ', hk, rfl, ⟨r, rfl, _⟩, hs, hm', _⟩ := hp
      obtain ⟨r0, rfl⟩ := hρ
      exact ops_sound hC l (fun o ho => hsub o (by simp [ho])) ⟨r0 ++ r, by simp⟩ hm' (hf'.mono.put hs) (ho.trans (Act.out_put hdst)) hk
    · rw [if_neg (by rw [hw]; simp)]
      exact ops_sound hC l (fun o ho => hsub o (by simp [ho])) hρ hm (hf'.put (s := .v (.tuple #[])) rfl) (ho.trans (Act.out_put hdst)) hskip

/-! ### Drawn regions -/

def PendOk (ρ : List Nat) (u : World) : Pend → APend → Prop
  | .loc i l, q => q.i = i ∧ ∃ b x, ρ[l]? = some b ∧ q.C = fun w' => w'.heap[b]? = x
  | .mem i b o cs, q => q.i = i ∧ (cs = [] ∨ b < u.heap.size ∧ b ∉ ρ) ∧ q.C = fun w' => Rd w' b o cs

theorem PendOk.mono {ρ r : List Nat} {u u' : World} (hr : ∀ b ∈ r, u.heap.size ≤ b) (hsz : u.heap.size ≤ u'.heap.size) : ∀ {p : Pend} {q : APend}, PendOk ρ u p q → PendOk (ρ ++ r) u' p q
  | .loc i l, q, h => by
    obtain ⟨h1, b, x, h2, h3⟩ := h
    exact ⟨h1, b, x, by rw [List.getElem?_append_left (List.getElem?_eq_some_iff.1 h2).1]; exact h2, h3⟩
  | .mem i b o cs, q, h => by
    obtain ⟨h1, h2, h3⟩ := h
    refine ⟨h1, h2.imp id fun ⟨h4, h5⟩ => ⟨by omega, fun hm => ?_⟩, h3⟩
    rcases List.mem_append.1 hm with hm | hm
    · exact h5 hm
    · have := hr b hm; omega

def PdOk (ρ : List Nat) (u : World) (pd : List Pend) (ps : List APend) : Prop := ∀ q ∈ ps, (∀ w, q.C w) ∨ ∃ p ∈ pd, PendOk ρ u p q

theorem PdOk.mono {ρ r : List Nat} {u u' : World} {pd : List Pend} {ps : List APend} (h : PdOk ρ u pd ps) (hr : ∀ b ∈ r, u.heap.size ≤ b) (hsz : u.heap.size ≤ u'.heap.size) : PdOk (ρ ++ r) u' pd ps := fun q hq => (h q hq).imp id fun ⟨p, hp, hpq⟩ => ⟨p, hp, PendOk.mono hr hsz hpq⟩

theorem allN_spec {α : Type} {p : α → Prop} : ∀ {l : List α}, allN p l → ∀ x ∈ l, p x
  | [], _, x, hx => by cases hx
  | [y], h, x, hx => by simp at hx; subst hx; exact h
  | y :: z :: l, h, x, hx => by
    rcases List.mem_cons.1 hx with rfl | hx
    · exact h.1
    · exact allN_spec h.2 x hx

theorem recheck_spec {ms : List Nat} {j : Nat} {e : Eff} {u : World} {R : Prop} : ∀ {pd : List Pend}, recheck ms j e u pd R → R ∧ ∀ p ∈ pd, match p with
    | .loc i l => (match e with | .wrLoc l' => unord ms i j = true → l ≠ l' | _ => True)
    | .mem i b o cs => (match e with | .wr => unord ms i j = true → Rd u b o cs | _ => True)
  | [], h => ⟨h, by simp⟩
  | .loc i l :: pd, h => by
    cases e with
    | wrLoc l' =>
      have h : (if (unord ms i j && Nat.beq l l') = true then False else recheck ms j (.wrLoc l') u pd R) := h
      split at h
      · exact h.elim
      · rename_i hc
        obtain ⟨h1, h2⟩ := recheck_spec h
        refine ⟨h1, fun p hp => ?_⟩
        rcases List.mem_cons.1 hp with rfl | hp
        · intro hu e
          subst e
          exact hc (by simp [hu])
        · exact h2 p hp
    | _ =>
      obtain ⟨h1, h2⟩ := recheck_spec (pd := pd) h
      refine ⟨h1, fun p hp => ?_⟩
      rcases List.mem_cons.1 hp with rfl | hp
      · trivial
      · exact h2 p hp
  | .mem i b o cs :: pd, h => by
    cases e with
    | wr =>
      have h : (if unord ms i j = true then Rd u b o cs ∧ recheck ms j .wr u pd R else recheck ms j .wr u pd R) := h
      split at h
      · rename_i hu
        obtain ⟨h1, h2⟩ := recheck_spec h.2
        refine ⟨h1, fun p hp => ?_⟩
        rcases List.mem_cons.1 hp with rfl | hp
        · exact fun _ => h.1
        · exact h2 p hp
      · rename_i hu
        obtain ⟨h1, h2⟩ := recheck_spec h
        refine ⟨h1, fun p hp => ?_⟩
        rcases List.mem_cons.1 hp with rfl | hp
        · exact fun hu' => absurd hu' hu
        · exact h2 p hp
    | _ =>
      obtain ⟨h1, h2⟩ := recheck_spec (pd := pd) h
      refine ⟨h1, fun p hp => ?_⟩
      rcases List.mem_cons.1 hp with rfl | hp
      · trivial
      · exact h2 p hp

/-- What was read stays as it is behind a step that rechecked it. -/
theorem keeps_step {ρ r : List Nat} {ls ls' : List Loc} {u u' w w' : World} {e : Eff} {ms : List Nat} {j : Nat} {pd : List Pend} {ps : List APend} {R : Prop} (hm : MS u0 w0 ρ ls u w) (hm' : MS u0 w0 (ρ ++ r) ls' u' w') (he : EffOk e ρ ls ls' w w')
    (hp : PdOk ρ u pd ps) (hr : recheck ms j e u' pd R) : keepsA ms ps j w w' := by
  obtain ⟨_, hre⟩ := recheck_spec hr
  intro q hq hu hC
  rcases hp q hq with hall | ⟨p, hpp, hpq⟩
  · exact hall w'
  have hpre := hre p hpp
  cases p with
  | loc i l =>
    obtain ⟨hi, b, x, hb, hC'⟩ := hpq
    rw [hC'] at hC ⊢
    rw [hi] at hu
    simp only at hpre
    have hlt : l < ls.length := by rw [← hm.len]; exact (List.getElem?_eq_some_iff.1 hb).1
    have hb' : (ρ ++ r)[l]? = some b := by rw [List.getElem?_append_left (List.getElem?_eq_some_iff.1 hb).1]; exact hb
    have hl := List.getElem?_eq_getElem hlt
    have same : ls'[l]? = ls[l]? → w'.heap[b]? = w.heap[b]? := fun hs => by
      rw [hl] at hs
      rw [(hm.own l _ b hl hb).2, (hm'.own l _ b hs hb').2]
    show w'.heap[b]? = x
    rw [← hC]
    cases e with
    | wrLoc l' => exact same (he.1 l (hpre hu))
    | wr => exact same (he l hlt)
    | pure => rw [he.1]
    | rdLoc _ => rw [he.1]
    | rdMem _ _ _ => rw [he.1]
  | mem i b o cs =>
    obtain ⟨hi, hb, hC'⟩ := hpq
    rw [hC'] at hC ⊢
    rw [hi] at hu
    simp only at hpre
    show Rd w' b o cs
    cases e with
    | wr => exact hm'.le.rd (hpre hu)
    | wrLoc l' =>
      rcases hb with rfl | ⟨_, hbr⟩
      · trivial
      · have hk := he.2 b (fun c hc e => by subst e; exact hbr (List.mem_of_getElem? hc))
        have hC : Rd w b o cs := hC
        rw [Rd_iff] at hC ⊢
        intro t v hv
        rw [← hC t v hv]
        exact World.cell?_of_block hk
    | pure => rw [he.1]; exact hC
    | rdLoc _ => rw [he.1]; exact hC
    | rdMem _ _ _ => rw [he.1]; exact hC

theorem MS.size_le {ρ : List Nat} {ls : List Loc} {u w : World} (hm : MS u0 w0 ρ ls u w) : w.heap.size = u.heap.size := hm.le.size

theorem any_sound (hC : CtxOk C) {ops : Array Oper} {Kn : KN} {ρ0 : List Nat} {a0 : Act} (hsel : Region.noSelect ops = true) : ∀ (n : Nat) (listed : Array Bool) (pd : List Pend) (ps : List APend) {ρ : List Nat} {fr : List SV} {ls : List Loc} {u w : World} {a : Act},
    (∃ r, ρ = ρ0 ++ r) → MS u0 w0 ρ ls u w → FrOk ρ fr a → Out (dstsL ops.toList) a0 a → Closed ops listed → PdOk ρ u pd ps →
    wAny C ops (masks ops.toList []) Kn n listed pd fr ls u → wpAnyP C.P ops (St u0 w0 ρ0 (dstsL ops.toList) a0 Kn) (masks ops.toList []) ps n listed a w
  | 0, listed, pd, ps, ρ, fr, ls, u, w, a, hρ, hm, hf, ho, hc, hp, h => by
    simp only [wAny] at h
    split at h
    · rename_i he
      exact ⟨by simpa using he, ρ, fr, ls, u, hρ, hm, hf, h, ho⟩
    · exact h.elim
  | n + 1, listed, pd, ps, ρ, fr, ls, u, w, a, hρ, hm, hf, ho, hc, hp, h => by
    simp only [wAny] at h
    split at h
    · rename_i hr
      refine ⟨fun _ => ⟨ρ, fr, ls, u, hρ, hm, hf, h, ho⟩, fun i hi => ?_⟩
      rw [hr] at hi
      cases hi
    · rename_i r rs hr
      have hdst : ∀ (i : Nat) (o : Oper), ops[i]? = some o → ∀ t, o.dst = some t → memN (dstsL ops.toList) t = true := fun i o hio t ht => memN_of_mem (mem_dstsL (by have := Array.mem_of_getElem? hio; simpa using this) ht)
      split at h
      · -- a reader is taken first
        rename_i i hfind
        have hmem := List.mem_of_find?_eq_some hfind
        have hprop := List.find?_some hfind
        rw [← hr] at hmem
        cases hio : ops[i]? with
        | none => rw [hio] at h; exact h.elim
        | some o =>
          rw [hio] at h hprop
          simp only [Option.map_some, Option.getD_some, Bool.and_eq_true] at hprop h
          obtain ⟨hread, hfree⟩ := hprop
          have hfree' := Region.free_spec (md := .any) hio hfree
          rcases guard_sound hf h with ⟨fr', hf', hrun, hw⟩ | ⟨fr', hf', hskip, hw⟩
          · obtain ⟨s, v, e, hk, hs, hcl, hmemr, hre⟩ := read_op hC hm hf' hread hrun
            refine wpAnyP_first (C := cls ρ w e) (v := v) hio (Region.noSelect_spec hsel) rfl n listed a w hfree' hc hmem (.inl ⟨by simpa using hw, hre⟩) hcl ?_
            refine any_sound hC hsel n _ (pend i e pd) _ hρ hm (hf'.put hs) (ho.trans (Act.out_put (hdst i o hio))) (hc.set hmem) (fun q hq => ?_) hk
            have old : ∀ q ∈ ps, (∀ w, q.C w) ∨ ∃ p ∈ pend i e pd, PendOk ρ u p q := fun q hq => (hp q hq).imp id fun ⟨p, hp, hpq⟩ => ⟨p, by cases e <;> simp [pend, hp], hpq⟩
            rcases List.mem_cons.1 hq with rfl | hq
            · cases e with
              | pure => exact .inl fun _ => trivial
              | rdLoc l =>
                rcases Nat.lt_or_ge l ρ.length with hl | hl
                · refine .inr ⟨.loc i l, by simp [pend], rfl, ?_⟩
                  have hb := List.getElem?_eq_getElem hl
                  refine ⟨ρ[l], w.heap[ρ[l]]?, hb, ?_⟩
                  funext w'
                  apply propext
                  constructor
                  · intro h'; exact h' _ hb
                  · intro h' b hb'; rw [hb] at hb'; simp only [Option.some.injEq] at hb'; subst hb'; exact h'
                · exact .inl fun w' b hb => by rw [List.getElem?_eq_none hl] at hb; cases hb
              | rdMem b q cs =>
                have hrd := hmemr b q cs rfl
                refine .inr ⟨.mem i b q cs, by simp [pend], rfl, ?_, rfl⟩
                cases cs with
                | nil => exact .inl rfl
                | cons c cs =>
                  obtain ⟨c', t, f, hb, _, _⟩ := cell_block hrd.1
                  refine .inr ⟨(Array.getElem?_eq_some_iff.1 hb).1, fun hmem => ?_⟩
                  obtain ⟨j, hj⟩ := List.mem_iff_getElem?.1 hmem
                  have hlt : j < ls.length := by rw [← hm.len]; exact (List.getElem?_eq_some_iff.1 hj).1
                  have := (hm.own j _ b (List.getElem?_eq_getElem hlt) hj).1
                  rw [hb] at this
                  simp [hole] at this
              | wrLoc l => exact hcl.elim
              | wr => exact hcl.elim
            · exact old q hq
          · refine wpAnyP_first (C := fun _ => True) (v := undef) hio (Region.noSelect_spec hsel) rfl n listed a w hfree' hc hmem (.inr ⟨by simpa using hw, rfl⟩) trivial ?_
            refine any_sound hC hsel n _ pd _ hρ hm (hf'.put (s := .v (.tuple #[])) rfl) (ho.trans (Act.out_put (hdst i o hio))) (hc.set hmem) (fun q hq => ?_) hskip
            rcases List.mem_cons.1 hq with rfl | hq
            · exact .inl fun _ => trivial
            · exact hp q hq
      · rename_i hfind
        refine ⟨fun h0 => (by rw [h0] at hr; cases hr), fun i hi => ?_⟩
        have h := allN_spec h i (by rw [← hr]; exact hi)
        cases hio : ops[i]? with
        | none => rw [hio] at h; exact h.elim
        | some o =>
          rw [hio] at h
          simp only at h
          unfold wpOp
          rw [hio]
          simp only
          rcases guard_sound hf h with ⟨fr', hf', hrun, hw⟩ | ⟨fr', hf', hskip, hw⟩
          · rw [if_pos (by simpa using hw)]
            refine .inl (Oper.wp_mono (fun a' w' hpo => ?_) (step_op hC (Q := NQ (St u0 w0 ρ0 (dstsL ops.toList) a0 Kn)) hm hf' hrun))
            obtain ⟨s, ls', u', e, v, ρ', hk, rfl, ⟨r, rfl, hrn⟩, hs, hm', hsz, heff⟩ := hpo
            have hrk := (recheck_spec hk).1
            obtain ⟨r0, rfl⟩ := hρ
            exact ⟨keeps_step hm hm' heff hp hk, any_sound hC hsel n _ pd ps ⟨r0 ++ r, by simp⟩ hm' (hf'.mono.put hs) (ho.trans (Act.out_put (hdst i o hio))) (hc.set hi) (hp.mono hrn hsz) hrk⟩
          · rw [if_neg (by rw [Array.toArray_toList] at hw; rw [hw]; simp)]
            exact ⟨fun q _ _ hq => hq, any_sound hC hsel n _ pd ps hρ hm (hf'.put (s := .v (.tuple #[])) rfl) (ho.trans (Act.out_put (hdst i o hio))) (hc.set hi) hp hskip⟩

end
end Go.Proofs.Ytkmmphkjmamckaa
