/-
  Regions that draw their order: an operation that leaves the world alone may be taken first, if whatever may come ahead of it leaves what it reads as it is.
-/
import Derived.Test.YtkmmphkjmamckaaVcDefs
namespace Go.Proofs.Ytkmmphkjmamckaa
open Go
set_option linter.all false

structure APend where
  i : Nat
  C : World → Prop

def keepsA (ms : List Nat) (ps : List APend) (j : Nat) (w w' : World) : Prop := ∀ q ∈ ps, unord ms q.i j = true → q.C w → q.C w'

def NQ (Q : Act → World → Prop) : Exit → Act → World → Prop
  | .normal, a, w => Q a w
  | _, _, _ => False

section
variable {P : Program} {ops : Array Oper} {Q : Act → World → Prop} {ms : List Nat}

def wpAnyP (P : Program) (ops : Array Oper) (Q : Act → World → Prop) (ms : List Nat) (ps : List APend) : Nat → Array Bool → Act → World → Prop
  | 0, listed, a, w => Region.ready .any ops listed = [] ∧ Q a w
  | n + 1, listed, a, w => (Region.ready .any ops listed = [] → Q a w) ∧ ∀ i ∈ Region.ready .any ops listed,
      wpOp P ops (NQ Q) i (fun a' w' => keepsA ms ps i w w' ∧ wpAnyP P ops Q ms ps n (listed.setIfInBounds i true) a' w') a w

theorem wpAny_of_P {ps : List APend} : ∀ (n : Nat) (listed : Array Bool) (a : Act) (w : World), wpAnyP P ops Q ms ps n listed a w → wpAny P .any ops (NQ Q) n listed a w
  | 0, _, _, _, h => h
  | n + 1, _, _, _, h => ⟨h.1, fun i hi => wpOp_mono (fun _ _ h' => wpAny_of_P n _ _ _ h'.2) (h.2 i hi)⟩

def Closed (ops : Array Oper) (listed : Array Bool) : Prop := ∀ j oj, ops[j]? = some oj → listed.getD j false = true → ∀ e ∈ oj.after, Region.binds .any e = true → listed.getD e.on false = true

theorem Closed.set {listed : Array Bool} (h : Closed ops listed) {i : Nat} (hi : i ∈ Region.ready .any ops listed) : Closed ops (listed.setIfInBounds i true) := by
  intro j oj hj hl e he hb
  obtain ⟨_, oi, hoi, hall⟩ := mem_ready.1 hi
  by_cases hij : i = j
  · subst hij
    rw [hoi] at hj
    cases hj
    exact getD_set_true (hall e he hb)
  · rw [getD_set_ne false hij] at hl
    exact getD_set_true (h j oj hj hl e he hb)

theorem Closed.start : Closed ops (Array.replicate ops.size false) := by
  intro j oj _ hl
  have : (Array.replicate ops.size false).getD j false = false := by
    rcases Nat.lt_or_ge j ops.size with h | h <;> simp [h]
  rw [this] at hl
  cases hl

/-! ### Masks -/

def maskOf (o : Oper) (acc : List Nat) : Nat := o.after.toList.foldl (fun s e => if Region.binds .any e then s ||| 2 ^ e.on ||| acc.getD e.on 0 else s) 0

theorem masks_prefix : ∀ (l : List Oper) (acc : List Nat), ∃ r, masks l acc = acc ++ r
  | [], acc => ⟨[], by simp [masks]⟩
  | o :: l, acc => by
    obtain ⟨r, hr⟩ := masks_prefix l (acc ++ [maskOf o acc])
    exact ⟨maskOf o acc :: r, by rw [masks]; show masks l (acc ++ [maskOf o acc]) = _; rw [hr]; simp⟩

theorem masks_at : ∀ (l : List Oper) (acc : List Nat) (t : Nat) (o : Oper), l[t]? = some o →
    ∃ acc', acc'.length = acc.length + t ∧ (∃ r, masks l acc = acc' ++ r) ∧ (masks l acc).getD (acc.length + t) 0 = maskOf o acc'
  | [], _, _, _, h => by simp at h
  | o :: l, acc, 0, o', h => by
    simp only [List.getElem?_cons_zero, Option.some.injEq] at h
    subst h
    refine ⟨acc, rfl, masks_prefix _ _, ?_⟩
    obtain ⟨r, hr⟩ := masks_prefix l (acc ++ [maskOf o acc])
    show (masks l (acc ++ [maskOf o acc])).getD (acc.length + 0) 0 = _
    rw [hr]
    simp
  | o :: l, acc, t + 1, o', h => by
    simp only [List.getElem?_cons_succ] at h
    obtain ⟨acc', h1, h2, h3⟩ := masks_at l (acc ++ [maskOf o acc]) t o' h
    refine ⟨acc', by rw [h1]; simp; omega, h2, ?_⟩
    show (masks l (acc ++ [maskOf o acc])).getD (acc.length + (t + 1)) 0 = _
    rw [show acc.length + (t + 1) = (acc ++ [maskOf o acc]).length + t by simp; omega]
    exact h3

theorem fold_bit (acc : List Nat) (i : Nat) : ∀ (l : List Edge) (s : Nat), (l.foldl (fun s e => if Region.binds .any e then s ||| 2 ^ e.on ||| acc.getD e.on 0 else s) s).testBit i = true →
    s.testBit i = true ∨ ∃ e ∈ l, Region.binds .any e = true ∧ (e.on = i ∨ (acc.getD e.on 0).testBit i = true)
  | [], s, h => .inl h
  | e :: l, s, h => by
    rw [List.foldl_cons] at h
    rcases fold_bit acc i l _ h with h1 | ⟨e', he', h2⟩
    · by_cases hb : Region.binds .any e = true
      · simp only [hb, if_true, Nat.testBit_or, Bool.or_eq_true, Nat.testBit_two_pow, decide_eq_true_eq] at h1
        rcases h1 with (h1 | h1) | h1
        · exact .inl h1
        · exact .inr ⟨e, by simp, hb, .inl h1⟩
        · exact .inr ⟨e, by simp, hb, .inr h1⟩
      · rw [if_neg hb] at h1
        exact .inl h1
    · exact .inr ⟨e', by simp [he'], h2⟩

theorem mask_spec {j i : Nat} {oj : Oper} (hj : ops[j]? = some oj) (hb : ((masks ops.toList []).getD j 0).testBit i = true) :
    ∃ e ∈ oj.after, Region.binds .any e = true ∧ (e.on = i ∨ (e.on < j ∧ ((masks ops.toList []).getD e.on 0).testBit i = true)) := by
  obtain ⟨acc, h1, ⟨r, h2⟩, h3⟩ := masks_at ops.toList [] j oj (by simpa using hj)
  simp only [List.length_nil, Nat.zero_add] at h1 h3
  rw [h3] at hb
  rcases fold_bit acc i _ _ hb with h | ⟨e, he, hbd, h⟩
  · simp at h
  · refine ⟨e, by simpa using he, hbd, ?_⟩
    rcases h with h | h
    · exact .inl h
    · refine .inr ?_
      have hlt : e.on < acc.length := by
        rcases Nat.lt_or_ge e.on acc.length with h' | h'
        · exact h'
        · rw [List.getD_eq_getElem?_getD, List.getElem?_eq_none h'] at h; simp at h
      refine ⟨by omega, ?_⟩
      rw [h2, List.getD_eq_getElem?_getD, List.getElem?_append_left hlt, ← List.getD_eq_getElem?_getD]
      exact h

theorem listed_of_mask {listed : Array Bool} (hc : Closed ops listed) {i : Nat} : ∀ j oj, ops[j]? = some oj → (∀ e ∈ oj.after, Region.binds .any e = true → listed.getD e.on false = true) →
    ((masks ops.toList []).getD j 0).testBit i = true → listed.getD i false = true := by
  intro j
  induction j using Nat.strongRecOn with
  | _ j ih =>
    intro oj hj hall hb
    obtain ⟨e, he, hbd, h⟩ := mask_spec hj hb
    have hl := hall e he hbd
    rcases h with h | ⟨hlt, h⟩
    · rw [← h]; exact hl
    · obtain ⟨oe, hoe⟩ : ∃ oe, ops[e.on]? = some oe := by
        have : j < ops.size := (Array.getElem?_eq_some_iff.1 hj).1
        exact ⟨_, Array.getElem?_eq_getElem (by omega)⟩
      exact ih e.on hlt oe hoe (fun e' he' hb' => hc e.on oe hoe hl e' he' hb') h

theorem unord_of_ready {listed : Array Bool} (hc : Closed ops listed) {i j : Nat} (hi : listed.getD i true = false) (hj : j ∈ Region.ready .any ops listed) (hms : ms = masks ops.toList []) : unord ms i j = true := by
  obtain ⟨_, oj, hoj, hall⟩ := mem_ready.1 hj
  unfold unord
  cases hb : (ms.getD j 0).testBit i with
  | false => rfl
  | true =>
    rw [hms] at hb
    have h := listed_of_mask hc j oj hoj hall hb
    exfalso
    rcases Nat.lt_or_ge i listed.size with h' | h'
    · simp [h'] at h hi; rw [hi] at h; cases h
    · simp [Array.getElem?_eq_none h'] at h

/-! ### Taken first -/

def YieldsC (P : Program) (ops : Array Oper) (C : World → Prop) (o : Oper) (v : Value) (a : Act) : Prop :=
  (Region.wanted o (yielded ops a.tmps) = true ∧ ∀ w, C w → (execOp a.eval o).run P w = .ok (.value v) w) ∨ (Region.wanted o (yielded ops a.tmps) = false ∧ v = undef)

theorem YieldsC.wpOp {C : World → Prop} {i : Nat} {o : Oper} {v : Value} {a : Act} (hi : ops[i]? = some o) (hy : YieldsC P ops C o v a) {w : World} (hC : C w)
    {K : Act → World → Prop} {Q : Exit → Act → World → Prop} (h : K (a.put o.dst v) w) : wpOp P ops Q i K a w := by
  unfold Go.wpOp
  simp only [hi]
  rcases hy with ⟨hw, hv⟩ | ⟨hw, rfl⟩
  · simp only [hw, if_true, Oper.wp, hv w hC, Oper.upon]; exact .inl h
  · simp only [hw, Bool.false_eq_true, if_false]; exact h

theorem YieldsC.of_same {C : World → Prop} {o : Oper} {v : Value} {a a' : Act} (hy : YieldsC P ops C o v a) (he : execOp a'.eval o = execOp a.eval o)
    (hw : Region.wanted o (yielded ops a'.tmps) = Region.wanted o (yielded ops a.tmps)) : YieldsC P ops C o v a' := by
  unfold YieldsC at *
  rw [he, hw]
  exact hy

theorem wpOp_putC {C : World → Prop} {j : Nat} {oi oj : Oper} {v : Value} (hj : ops[j]? = some oj) (hap : oi.apart ops oj = true)
    (hsi : ∀ cs b, oi.op ≠ .select cs b) (hsj : ∀ cs b, oj.op ≠ .select cs b) {K : Act → World → Prop} {a : Act} {w : World}
    (hy : YieldsC P ops C oi v a) (h : wpOp P ops (NQ Q) j K (a.put oi.dst v) w) :
    wpOp P ops (NQ Q) j (fun a' w' => YieldsC P ops C oi v a' ∧ K (a'.put oi.dst v) w') a w := by
  obtain ⟨h1, h2, h3⟩ := Oper.apart_spec hap
  have keep : ∀ (a : Act), YieldsC P ops C oi v a → ∀ u, YieldsC P ops C oi v (a.put oj.dst u) := fun a hy u =>
    hy.of_same (execOp_put oi hsi a oj.dst u h3) (wanted_put oi a oj.dst u h3)
  have keepD : ∀ d, YieldsC P ops C oi v { a with defers := d :: a.defers } := fun d => hy.of_same rfl rfl
  unfold wpOp at *
  simp only [hj] at *
  rw [wanted_put oj a oi.dst v h1] at h
  split
  · rename_i hw
    simp only [hw, if_true] at h
    rcases h with h | ⟨_, ⟨_, _, hlets⟩⟩
    case inr => exact hlets.elim
    refine .inl ?_
    unfold Oper.wp at *
    rw [execOp_put oj hsj a oi.dst v h1] at h
    generalize (execOp a.eval oj).run P w = r at *
    cases r with
    | ok n w' =>
      cases n <;> simp only [Oper.upon] at h ⊢
      case value u => exact ⟨keep a hy u, by rw [← Act.put_comm a v u h2]; exact h⟩
      case skip => exact ⟨keep a hy _, by rw [← Act.put_comm a v undef h2]; exact h⟩
      case defer d =>
        refine ⟨keep _ (keepD d) _, ?_⟩
        rw [← Act.put_comm _ v undef h2, ← Act.put_defers]
        exact h
      case enter f args =>
        refine Calls.mono h fun e w'' he => ?_
        cases e with
        | returned u => exact ⟨keep a hy u, by rw [← Act.put_comm a v u h2]; exact he⟩
        | panicked c => exact he
        | outgrown => obtain ⟨_, _, he⟩ := he; exact he.elim
      case row row args => exact Rows.mono h fun u w'' he => ⟨keep a hy u, by rw [← Act.put_comm a v u h2]; exact he⟩
    | halt x w' =>
      cases x <;> simp only [Oper.upon] at h ⊢
      case panic u => exact h
  · rename_i hw
    simp only [hw] at h
    exact ⟨keep a hy _, by rw [← Act.put_comm a v undef h2]; exact h⟩

theorem wpAnyP_first {C : World → Prop} {i : Nat} {oi : Oper} {v : Value} {ps : List APend} (hi : ops[i]? = some oi) (hsel : ∀ (j : Nat) (o : Oper) cs b, ops[j]? = some o → o.op ≠ .select cs b) (hms : ms = masks ops.toList []) :
    ∀ (n : Nat) (listed : Array Bool) (a : Act) (w : World),
      (∀ j oj, ops[j]? = some oj → j ≠ i → listed.getD j true = false → (∀ e ∈ oj.after, Region.binds .any e = true → e.on ≠ i) → oi.apart ops oj = true) →
      Closed ops listed → i ∈ Region.ready .any ops listed → YieldsC P ops C oi v a → C w →
      wpAnyP P ops Q ms (⟨i, C⟩ :: ps) n (listed.setIfInBounds i true) (a.put oi.dst v) w → wpAnyP P ops Q ms ps (n + 1) listed a w := by
  have drop : ∀ (n : Nat) (listed : Array Bool) (a : Act) (w : World), wpAnyP P ops Q ms (⟨i, C⟩ :: ps) n listed a w → wpAnyP P ops Q ms ps n listed a w := by
    intro n
    induction n with
    | zero => intro listed a w h; exact h
    | succ n ih => intro listed a w h; exact ⟨h.1, fun j hj => wpOp_mono (fun a' w' h' => ⟨fun q hq => h'.1 q (by simp [hq]), ih _ _ _ h'.2⟩) (h.2 j hj)⟩
  intro n
  induction n with
  | zero =>
    intro listed a w _ hc hr hy hC H
    refine ⟨fun h => (by rw [h] at hr; cases hr), fun j hj => ?_⟩
    by_cases hji : j = i
    · subst hji; exact hy.wpOp hi hC ⟨fun _ _ _ h => h, drop _ _ _ _ H⟩
    · have := ready_mono hj hji
      rw [H.1] at this
      cases this
  | succ n ih =>
    intro listed a w hfree hc hr hy hC H
    refine ⟨fun h => (by rw [h] at hr; cases hr), fun j hj => ?_⟩
    by_cases hji : j = i
    · subst hji; exact hy.wpOp hi hC ⟨fun _ _ _ h => h, drop _ _ _ _ H⟩
    · have h1 := H.2 j (ready_mono hj hji)
      obtain ⟨hjun, oj, hoj, hall⟩ := mem_ready.1 hj
      have hiun := (mem_ready.1 hr).1
      have hnot : ∀ e ∈ oj.after, Region.binds .any e = true → e.on ≠ i := fun e he hb heq => by
        have h1 := hall e he hb
        rw [heq] at h1
        rcases Nat.lt_or_ge i listed.size with h' | h'
        · simp [h'] at hiun h1; rw [hiun] at h1; cases h1
        · simp [Array.getElem?_eq_none h'] at h1
      have hun : unord ms i j = true := unord_of_ready hc hiun hj hms
      have h2 := wpOp_putC hoj (hfree j oj hoj hji hjun hnot) (fun cs b => hsel i oi cs b hi) (fun cs b => hsel j oj cs b hoj) hy h1
      have hfree' : ∀ k ok, ops[k]? = some ok → k ≠ i → (listed.setIfInBounds j true).getD k true = false →
          (∀ e ∈ ok.after, Region.binds .any e = true → e.on ≠ i) → oi.apart ops ok = true := fun k ok hk hki hun hno => by
        refine hfree k ok hk hki ?_ hno
        by_cases hjk : j = k
        · subst hjk; exact hjun
        · rw [getD_set_ne true hjk] at hun; exact hun
      refine wpOp_mono (fun a' w' h3 => ?_) h2
      obtain ⟨hy', hk, H'⟩ := h3
      refine ⟨fun q hq => hk q (by simp [hq]), ?_⟩
      refine ih (listed.setIfInBounds j true) a' w' hfree' (hc.set hj) (ready_mono hr (Ne.symm hji)) hy' (hk ⟨i, C⟩ (by simp) hun hC) ?_
      rw [Array.setIfInBounds_comm _ _ hji]
      exact H'

end
end Go.Proofs.Ytkmmphkjmamckaa
