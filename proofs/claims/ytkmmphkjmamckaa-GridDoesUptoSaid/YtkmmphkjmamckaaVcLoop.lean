/-
  The relation of a loop or a cut, opened and shut.
-/
import Derived.Test.YtkmmphkjmamckaaVcOp
namespace Go.Proofs.Ytkmmphkjmamckaa
open Go
set_option linter.all false

theorem apCK_op {c : CK} {x : Value} {α : Type} {f : ckTy c α} {R : α → Prop} (h : apCK c x f R) {p : Value → α → Prop} (hp : opCK c f p) : ∃ g, p x g ∧ R g := by
  cases c <;> cases x <;> try (exact h.elim)
  case int.int k k' n =>
    simp only [apCK] at h
    split at h
    · rename_i e; subst e; exact ⟨_, hp n, h⟩
    · exact h.elim
  case bool.bool b => exact ⟨_, hp b, h⟩
  case str.string s => exact ⟨_, hp s, h⟩
  case slice.slice a n m => exact ⟨_, hp a n m, h⟩
  case ptr.pointer a =>
    rcases a with _ | ⟨b, o, s⟩
    · exact h.elim
    · cases s
      · exact ⟨_, hp b o, h⟩
      · exact h.elim
  case func.func g a b => exact ⟨_, hp g a b, h⟩

theorem apCK_and {c : CK} {x : Value} {α : Type} {f : ckTy c α} {A B : α → Prop} (h : apCK c x f A) (h' : apCK c x f B) : ∃ g, A g ∧ B g := by
  cases c <;> cases x <;> try (exact h.elim)
  case int.int k k' n =>
    simp only [apCK] at h h'
    split at h
    · rename_i e; rw [if_pos e] at h'; exact ⟨_, h, h'⟩
    · exact h.elim
  case bool.bool b => exact ⟨_, h, h'⟩
  case str.string s => exact ⟨_, h, h'⟩
  case slice.slice a n m => exact ⟨_, h, h'⟩
  case ptr.pointer a =>
    rcases a with _ | ⟨b, o, s⟩
    · exact h.elim
    · cases s
      · exact ⟨_, h, h'⟩
      · exact h.elim
  case func.func g a b => exact ⟨_, h, h'⟩

theorem apCKs_op {α : Type} : ∀ {l : List CK} {xs : List Value} {f : cksTy l α} {R : α → Prop}, apCKs l xs f R → ∀ {p : List Value → α → Prop}, opCKs l f p → ∃ g, p xs g ∧ R g
  | [], [], f, R, h, p, hp => ⟨f, hp, h⟩
  | [], _ :: _, _, _, h, _, _ => h.elim
  | _ :: _, [], _, _, h, _, _ => h.elim
  | c :: l, x :: xs, f, R, h, p, hp => by
    obtain ⟨g, h1, h2⟩ := apCK_op (c := c) h hp
    exact apCKs_op h2 h1

theorem apCKs_and {α : Type} : ∀ {l : List CK} {xs : List Value} {f : cksTy l α} {A B : α → Prop}, apCKs l xs f A → apCKs l xs f B → ∃ g, A g ∧ B g
  | [], [], f, _, _, h, h' => ⟨f, h, h'⟩
  | [], _ :: _, _, _, _, h, _ => h.elim
  | _ :: _, [], _, _, _, h, _ => h.elim
  | c :: l, x :: xs, f, A, B, h, h' => by
    obtain ⟨g, h1, h2⟩ := apCK_and (c := c) h h'
    exact apCKs_and h1 h2

/-- What a slot's entry is behind the opening. -/
def normS (s : SS) (old x : SV) : SV :=
  match s with
  | .keep => old
  | .junk => .junk
  | _ =>
    match x with
    | .lit b => .v (.bool b)
    | x => x

theorem apSS_op {s : SS} {old x : SV} {α : Type} {f : ssTy s α} {R : α → Prop} (h : apSS s x f R) {p : SV → α → Prop} (hp : opSS s old f p) : ∃ g, p (normS s old x) g ∧ R g := by
  cases s with
  | keep => exact ⟨f, hp, h⟩
  | junk => exact ⟨f, hp, h⟩
  | cell c =>
    cases x <;> try (exact h.elim)
    case v x => exact apCK_op (c := c) (p := fun x g => p (.v x) g) h hp
    case lit b => exact apCK_op (c := c) (p := fun x g => p (.v x) g) h hp
  | agg l =>
    cases x <;> try (exact h.elim)
    case v x =>
      cases x <;> try (exact h.elim)
      rename_i cs
      obtain ⟨g, h1, h2⟩ := apCKs_op (p := fun xs g => p (.v (.agg xs.toArray)) g) h hp
      exact ⟨g, by simpa [normS] using h1, h2⟩
  | opq =>
    cases x <;> try (exact h.elim)
    case v x =>
      cases x <;> try (exact h.elim)
      rename_i cs
      exact ⟨_, by simpa [normS] using hp cs.toList, h⟩

theorem apSS_norm {s : SS} {old x : SV} {α : Type} {f : ssTy s α} {R : α → Prop} (h : apSS s x f R) : apSS s (normS s old x) f R := by
  cases s with
  | keep => exact h
  | junk => exact h
  | cell c => cases x <;> first | exact h | exact h.elim
  | agg l => cases x <;> first | exact h | exact h.elim
  | opq => cases x <;> first | exact h | exact h.elim

theorem apSS_and {s : SS} {x : SV} {α : Type} {f : ssTy s α} {A B : α → Prop} (h : apSS s x f A) (h' : apSS s x f B) : ∃ g, A g ∧ B g := by
  cases s with
  | keep => exact ⟨_, h, h'⟩
  | junk => exact ⟨_, h, h'⟩
  | cell c =>
    cases x <;> try (exact h.elim)
    case v x => exact apCK_and (c := c) h h'
    case lit b => exact apCK_and (c := c) h h'
  | agg l =>
    cases x <;> try (exact h.elim)
    case v x =>
      cases x <;> try (exact h.elim)
      exact apCKs_and h h'
  | opq =>
    cases x <;> try (exact h.elim)
    case v x =>
      cases x <;> try (exact h.elim)
      exact ⟨_, h, h'⟩

def normSl : List SS → List SV → List SV → List SV
  | s :: l, o :: os, x :: xs => normS s o x :: normSl l os xs
  | _, _, _ => []

theorem apSl_op {α : Type} : ∀ {l : List SS} {olds xs : List SV} {f : slTy l α} {R : α → Prop}, apSl l xs f R → ∀ {p : List SV → α → Prop}, opSl l olds f p → (∃ g, p (normSl l olds xs) g ∧ R g) ∧ xs.length = l.length ∧ olds.length = l.length
  | [], [], [], f, R, h, p, hp => ⟨⟨f, hp, h⟩, rfl, rfl⟩
  | [], _, _ :: _, _, _, h, _, _ => h.elim
  | [], _ :: _, [], _, _, _, _, hp => hp.elim
  | _ :: _, _, [], _, _, h, _, _ => h.elim
  | _ :: _, [], _ :: _, _, _, _, _, hp => hp.elim
  | s :: l, o :: os, x :: xs, f, R, h, p, hp => by
    obtain ⟨g, h1, h2⟩ := apSS_op (s := s) h hp
    obtain ⟨h3, h4, h5⟩ := apSl_op h2 h1
    exact ⟨h3, by simp [h4], by simp [h5]⟩

theorem apCK_mono {c : CK} {x : Value} {α : Type} {f : ckTy c α} {A B : α → Prop} (h : apCK c x f A) (hAB : ∀ g, A g → B g) : apCK c x f B := by
  cases c <;> cases x <;> try (exact h.elim)
  case int.int k k' n =>
    simp only [apCK] at h ⊢
    split at h
    · rename_i e; rw [if_pos e]; exact hAB _ h
    · exact h.elim
  case bool.bool b => exact hAB _ h
  case str.string s => exact hAB _ h
  case slice.slice a n m => exact hAB _ h
  case ptr.pointer a =>
    rcases a with _ | ⟨b, o, s⟩
    · exact h.elim
    · cases s
      · exact hAB _ h
      · exact h.elim
  case func.func g a b => exact hAB _ h

theorem apCKs_mono {α : Type} : ∀ {l : List CK} {xs : List Value} {f : cksTy l α} {A B : α → Prop}, apCKs l xs f A → (∀ g, A g → B g) → apCKs l xs f B
  | [], [], _, _, _, h, hAB => hAB _ h
  | [], _ :: _, _, _, _, h, _ => h.elim
  | _ :: _, [], _, _, _, h, _ => h.elim
  | c :: l, x :: _, _, _, _, h, hAB => apCK_mono (c := c) (x := x) h fun _ hg => apCKs_mono (l := l) hg hAB

theorem apSS_mono {s : SS} {x : SV} {α : Type} {f : ssTy s α} {A B : α → Prop} (h : apSS s x f A) (hAB : ∀ g, A g → B g) : apSS s x f B := by
  cases s with
  | keep => exact hAB _ h
  | junk => exact hAB _ h
  | cell c =>
    cases x <;> try (exact h.elim)
    case v x => exact apCK_mono (c := c) (x := x) h hAB
    case lit b => exact apCK_mono (c := c) (x := .bool b) h hAB
  | agg l =>
    cases x <;> try (exact h.elim)
    case v x =>
      cases x <;> try (exact h.elim)
      exact apCKs_mono h hAB
  | opq =>
    cases x <;> try (exact h.elim)
    case v x =>
      cases x <;> try (exact h.elim)
      exact hAB _ h

theorem apSl_norm {α : Type} : ∀ {l : List SS} {olds xs : List SV} {f : slTy l α} {R : α → Prop}, olds.length = l.length → apSl l xs f R → apSl l (normSl l olds xs) f R
  | [], _, [], _, _, _, h => h
  | [], _, _ :: _, _, _, _, h => h.elim
  | _ :: _, _, [], _, _, _, h => h.elim
  | _ :: _, [], _ :: _, _, _, hl, _ => by simp at hl
  | s :: l, o :: os, x :: xs, f, R, hl, h => by
    have h1 : apSS s (normS s o x) f (fun g => apSl l xs g R) := apSS_norm (s := s) h
    exact apSS_mono h1 fun g hg => apSl_norm (by simpa using hl) hg

theorem apSl_and {α : Type} : ∀ {l : List SS} {xs : List SV} {f : slTy l α} {A B : α → Prop}, apSl l xs f A → apSl l xs f B → ∃ g, A g ∧ B g
  | [], [], f, _, _, h, h' => ⟨f, h, h'⟩
  | [], _ :: _, _, _, _, h, _ => h.elim
  | _ :: _, [], _, _, _, h, _ => h.elim
  | s :: l, x :: xs, f, A, B, h, h' => by
    obtain ⟨g, h1, h2⟩ := apSS_and (s := s) h h'
    exact apSl_and h1 h2

/-- Locals that are as the shape's old ones where they are kept, and of their make. -/
def LRel : List LSS → List Loc → List Loc → Prop
  | [], _, _ => True
  | s :: l, o :: os, x :: xs => x.ty = o.ty ∧ x.opq = o.opq ∧ (match s with | .keep => x = o | _ => True) ∧ LRel l os xs
  | _, _, _ => False

theorem LRel.refl : ∀ (l : List LSS) (os : List Loc), l.length ≤ os.length → LRel l os os
  | [], _, _ => trivial
  | s :: l, [], h => by simp at h
  | s :: l, o :: os, h => ⟨rfl, rfl, by cases s <;> simp, LRel.refl l os (by simpa using h)⟩

theorem apLl_op {α : Type} : ∀ {l : List LSS} {os rs xs : List Loc} {f : llTy l α} {R : α → Prop}, LRel l os rs → apLl l rs xs f R → ∀ {p : List Loc → α → Prop}, opLl l os f p →
    (∃ g, p (xs.take l.length) g ∧ R g) ∧ l.length ≤ xs.length ∧ LRel l os (xs.take l.length)
  | [], [], _, _, f, R, _, h, p, hp => ⟨⟨f, hp, h⟩, by simp, trivial⟩
  | [], _ :: _, _, _, _, _, _, _, _, hp => hp.elim
  | _ :: _, [], _, _, _, _, hl, _, _, _ => hl.elim
  | _ :: _, _ :: _, [], _, _, _, hl, _, _, _ => hl.elim
  | _ :: _, _ :: _, _ :: _, [], _, _, _, h, _, _ => h.elim
  | s :: l, o :: os, r :: rs, x :: xs, f, R, hl, h, p, hp => by
    obtain ⟨h1, h2, h3, h4⟩ := hl
    cases s with
    | keep =>
      obtain ⟨rfl, h⟩ := h
      have h3 : x = o := h3
      subst h3
      obtain ⟨h5, h6, h7⟩ := apLl_op h4 h (p := fun ls h => p (x :: ls) h) hp
      exact ⟨h5, by simpa using h6, rfl, rfl, rfl, h7⟩
    | cells ck =>
      have h : (if (Nat.beq x.ty r.ty && x.opq == r.opq) = true then apCKs ck x.cells f (fun g => apLl l rs xs g R) else False) := h
      split at h
      · rename_i hc
        simp only [Bool.and_eq_true, beq_iff_eq] at hc
        have hty := Nat.eq_of_beq_eq_true hc.1
        obtain ⟨g, h8, h9⟩ := apCKs_op h hp
        have e : ({ o with cells := x.cells } : Loc) = x := by
          obtain ⟨ty, q, cs⟩ := x
          obtain ⟨ty', q', cs'⟩ := o
          simp only at h1 h2 hty hc ⊢
          rw [← h1, ← h2, ← hty, ← hc.2]
        rw [e] at h8
        obtain ⟨h5, h6, h7⟩ := apLl_op h4 h9 (p := fun ls h => p (x :: ls) h) h8
        exact ⟨h5, by simpa using h6, hty.trans h1, hc.2.trans h2, trivial, h7⟩
      · exact h.elim
    | opq =>
      have h : (if (Nat.beq x.ty r.ty && x.opq == r.opq) = true then apLl l rs xs (f x.cells) R else False) := h
      split at h
      · rename_i hc
        simp only [Bool.and_eq_true, beq_iff_eq] at hc
        have hty := Nat.eq_of_beq_eq_true hc.1
        have h8 := hp x.cells
        have e : ({ o with cells := x.cells } : Loc) = x := by
          obtain ⟨ty, q, cs⟩ := x
          obtain ⟨ty', q', cs'⟩ := o
          simp only at h1 h2 hty hc ⊢
          rw [← h1, ← h2, ← hty, ← hc.2]
        rw [e] at h8
        obtain ⟨h5, h6, h7⟩ := apLl_op h4 h (p := fun ls h => p (x :: ls) h) h8
        exact ⟨h5, by simpa using h6, hty.trans h1, hc.2.trans h2, trivial, h7⟩
      · exact h.elim

/-- The same, seen from the locals themselves. -/
theorem apLl_self {α : Type} : ∀ {l : List LSS} {rs xs : List Loc} {f : llTy l α} {R : α → Prop}, apLl l rs xs f R → apLl l (xs.take l.length) (xs.take l.length) f R
  | [], _, _, _, _, h => h
  | _ :: _, [], _, _, _, h => h.elim
  | _ :: _, _ :: _, [], _, _, h => h.elim
  | s :: l, r :: rs, x :: xs, f, R, h => by
    cases s with
    | keep => obtain ⟨_, h⟩ := h; exact ⟨rfl, apLl_self h⟩
    | cells ck =>
      have h : (if (Nat.beq x.ty r.ty && x.opq == r.opq) = true then apCKs ck x.cells f (fun g => apLl l rs xs g R) else False) := h
      show (if (Nat.beq x.ty x.ty && x.opq == x.opq) = true then apCKs ck x.cells f (fun g => apLl l (xs.take l.length) (xs.take l.length) g R) else False)
      split at h
      · rw [if_pos (by simp)]
        exact apSS_mono (s := .agg ck) (x := .v (.agg x.cells.toArray)) h fun g hg => apLl_self hg
      · exact h.elim
    | opq =>
      have h : (if (Nat.beq x.ty r.ty && x.opq == r.opq) = true then apLl l rs xs (f x.cells) R else False) := h
      show (if (Nat.beq x.ty x.ty && x.opq == x.opq) = true then apLl l (xs.take l.length) (xs.take l.length) (f x.cells) R else False)
      split at h
      · rw [if_pos (by simp)]
        exact apLl_self h
      · exact h.elim

theorem apLl_and {α : Type} : ∀ {l : List LSS} {rs xs : List Loc} {f : llTy l α} {A B : α → Prop}, apLl l rs xs f A → apLl l rs xs f B → ∃ g, A g ∧ B g
  | [], _, _, f, _, _, h, h' => ⟨f, h, h'⟩
  | _ :: _, [], _, _, _, _, h, _ => h.elim
  | _ :: _, _ :: _, [], _, _, _, h, _ => h.elim
  | s :: l, r :: rs, x :: xs, f, A, B, h, h' => by
    cases s with
    | keep => exact apLl_and h.2 h'.2
    | cells ck =>
      have h : (if (Nat.beq x.ty r.ty && x.opq == r.opq) = true then apCKs ck x.cells f (fun g => apLl l rs xs g A) else False) := h
      have h' : (if (Nat.beq x.ty r.ty && x.opq == r.opq) = true then apCKs ck x.cells f (fun g => apLl l rs xs g B) else False) := h'
      split at h
      · rename_i hc
        rw [if_pos hc] at h'
        obtain ⟨g, h1, h2⟩ := apCKs_and h h'
        exact apLl_and h1 h2
      · exact h.elim
    | opq =>
      have h : (if (Nat.beq x.ty r.ty && x.opq == r.opq) = true then apLl l rs xs (f x.cells) A else False) := h
      have h' : (if (Nat.beq x.ty r.ty && x.opq == r.opq) = true then apLl l rs xs (f x.cells) B else False) := h'
      split at h
      · rename_i hc
        rw [if_pos hc] at h'
        exact apLl_and h h'
      · exact h.elim

theorem apSl_mono {α : Type} : ∀ {l : List SS} {xs : List SV} {f : slTy l α} {A B : α → Prop}, apSl l xs f A → (∀ g, A g → B g) → apSl l xs f B
  | [], [], _, _, _, h, hAB => hAB _ h
  | [], _ :: _, _, _, _, h, _ => h.elim
  | _ :: _, [], _, _, _, h, _ => h.elim
  | s :: l, x :: _, _, _, _, h, hAB => apSS_mono (s := s) (x := x) h fun _ hg => apSl_mono (l := l) hg hAB

theorem apSh_and {α : Type} {s : LShape} {old : List Loc} {fr : List SV} {ls : List Loc} {f : shTy s α} {A B : α → Prop} (h : apSh s old fr ls f A) (h' : apSh s old fr ls f B) : ∃ g, A g ∧ B g := by
  obtain ⟨g, h1, h2⟩ := apSl_and h h'
  exact apLl_and h1 h2

theorem apLl_mono {α : Type} : ∀ {l : List LSS} {rs xs : List Loc} {f : llTy l α} {A B : α → Prop}, apLl l rs xs f A → (∀ g, A g → B g) → apLl l rs xs f B
  | [], _, _, _, _, _, h, hAB => hAB _ h
  | _ :: _, [], _, _, _, _, h, _ => h.elim
  | _ :: _, _ :: _, [], _, _, _, h, _ => h.elim
  | s :: l, r :: rs, x :: xs, f, A, B, h, hAB => by
    cases s with
    | keep => exact ⟨h.1, apLl_mono h.2 hAB⟩
    | cells ck =>
      have h : (if (Nat.beq x.ty r.ty && x.opq == r.opq) = true then apCKs ck x.cells f (fun g => apLl l rs xs g A) else False) := h
      show (if (Nat.beq x.ty r.ty && x.opq == r.opq) = true then apCKs ck x.cells f (fun g => apLl l rs xs g B) else False)
      split at h
      · rename_i hc
        rw [if_pos hc]
        exact apCKs_mono h fun g hg => apLl_mono hg hAB
      · exact h.elim
    | opq =>
      have h : (if (Nat.beq x.ty r.ty && x.opq == r.opq) = true then apLl l rs xs (f x.cells) A else False) := h
      show (if (Nat.beq x.ty r.ty && x.opq == r.opq) = true then apLl l rs xs (f x.cells) B else False)
      split at h
      · rename_i hc
        rw [if_pos hc]
        exact apLl_mono h hAB
      · exact h.elim

theorem apSh_mono {α : Type} {s : LShape} {old : List Loc} {fr : List SV} {ls : List Loc} {f : shTy s α} {A B : α → Prop} (h : apSh s old fr ls f A) (hAB : ∀ g, A g → B g) : apSh s old fr ls f B := apSl_mono h fun _ hg => apLl_mono hg hAB

theorem apSh_op {α : Type} {s : LShape} {old : List Loc} {fr0 fr : List SV} {ls0 ls : List Loc} {f : shTy s α} {R : α → Prop} (hl : LRel s.locs ls0 old) (h : apSh s old fr ls f R) {p : List SV → List Loc → α → Prop} (hp : opSh s fr0 ls0 f p) :
    (∃ g, p (normSl s.slots fr0 fr) (ls.take s.locs.length) g ∧ R g) ∧ fr.length = s.slots.length ∧ fr0.length = s.slots.length ∧ s.locs.length ≤ ls.length ∧ LRel s.locs ls0 (ls.take s.locs.length) := by
  obtain ⟨⟨g, h1, h2⟩, h3, h4⟩ := apSl_op h hp
  obtain ⟨h5, h6, h7⟩ := apLl_op hl h2 h1
  exact ⟨h5, h3, h4, h6, h7⟩

theorem apSh_self {α : Type} {s : LShape} {old : List Loc} {fr0 fr : List SV} {ls : List Loc} {f : shTy s α} {R : α → Prop} (hlen : fr0.length = s.slots.length) (h : apSh s old fr ls f R) : apSh s (ls.take s.locs.length) (normSl s.slots fr0 fr) (ls.take s.locs.length) f R :=
  apSl_norm hlen (apSl_mono h fun _ hg => apLl_self hg)

/-- An opening is only there if it has the locals' number. -/
theorem opCK_ex {c : CK} {α : Type} {f : ckTy c α} {p : Value → α → Prop} (h : opCK c f p) : ∃ y g, p y g := by
  cases c
  · exact ⟨_, _, h 0⟩
  · exact ⟨_, _, h true⟩
  · exact ⟨_, _, h ByteArray.empty⟩
  · exact ⟨_, _, h none 0 0⟩
  · exact ⟨_, _, h 0 0⟩
  · exact ⟨_, _, h (.func 0) #[] #[]⟩

theorem opCKs_ex {α : Type} : ∀ {l : List CK} {f : cksTy l α} {p : List Value → α → Prop}, opCKs l f p → ∃ y g, p y g
  | [], f, _, h => ⟨[], f, h⟩
  | c :: l, f, p, h => by
    obtain ⟨y, g, h⟩ := opCK_ex (c := c) h
    obtain ⟨ys, g', h⟩ := opCKs_ex h
    exact ⟨_, _, h⟩

theorem opSS_ex {s : SS} {old : SV} {α : Type} {f : ssTy s α} {p : SV → α → Prop} (h : opSS s old f p) : ∃ y g, p y g := by
  cases s with
  | keep => exact ⟨_, _, h⟩
  | junk => exact ⟨_, _, h⟩
  | cell c => obtain ⟨y, g, h⟩ := opCK_ex (c := c) (p := fun x g => p (.v x) g) h; exact ⟨_, _, h⟩
  | agg l => obtain ⟨y, g, h⟩ := opCKs_ex (p := fun xs g => p (.v (.agg xs.toArray)) g) h; exact ⟨_, _, h⟩
  | opq => exact ⟨_, _, h []⟩

theorem opSl_ex {α : Type} : ∀ {l : List SS} {os : List SV} {f : slTy l α} {p : List SV → α → Prop}, opSl l os f p → ∃ y g, p y g
  | [], [], f, _, h => ⟨[], f, h⟩
  | [], _ :: _, _, _, h => h.elim
  | _ :: _, [], _, _, h => h.elim
  | s :: l, o :: os, f, p, h => by
    obtain ⟨y, g, h⟩ := opSS_ex (s := s) h
    obtain ⟨ys, g', h⟩ := opSl_ex h
    exact ⟨_, _, h⟩

theorem opLl_len {α : Type} : ∀ {l : List LSS} {os : List Loc} {f : llTy l α} {p : List Loc → α → Prop}, opLl l os f p → os.length = l.length
  | [], [], _, _, _ => rfl
  | [], _ :: _, _, _, h => h.elim
  | _ :: _, [], _, _, h => h.elim
  | s :: l, o :: os, f, p, h => by
    cases s with
    | keep => have := opLl_len (l := l) (os := os) h; simp [this]
    | cells ck => obtain ⟨y, g, h⟩ := opCKs_ex h; have := opLl_len (l := l) (os := os) h; simp [this]
    | opq => have := opLl_len (l := l) (os := os) (h []); simp [this]

theorem opSh_len_eq {α : Type} {s : LShape} {fr : List SV} {ls : List Loc} {f : shTy s α} {p : List SV → List Loc → α → Prop} (h : opSh s fr ls f p) : ls.length = s.locs.length := by
  obtain ⟨y, g, h⟩ := opSl_ex h
  exact opLl_len h

theorem opSh_len {α : Type} {s : LShape} {fr : List SV} {ls : List Loc} {f : shTy s α} {p : List SV → List Loc → α → Prop} (h : opSh s fr ls f p) : s.locs.length ≤ ls.length := Nat.le_of_eq (opSh_len_eq h).symm

end Go.Proofs.Ytkmmphkjmamckaa
