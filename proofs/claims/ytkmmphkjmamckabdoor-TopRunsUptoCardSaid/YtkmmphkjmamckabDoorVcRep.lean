/-
  What an argument reads, by its type: the cells that lie there.
-/
import Derived.Test.YtkmmphkjmamckabDoorZL
import Derived.Test.YtkmmphkjmamckabDoorCtx
namespace Go.Proofs.YtkmmphkjmamckabDoor
open Go Go.RowKit Go.ChangeShapes Go.WideShapes Go.ChangeAt
set_option linter.all false

def RepF (T : List TI) (rep : TypeId → List Value → Prop) : List (Nat × TypeId) → List Value → Prop
  | [], cs => cs = []
  | f :: fs, cs =>
    match tiOf T f.2 with
    | some te => ∃ a b, cs = a ++ b ∧ a.length = te.size ∧ rep f.2 a ∧ RepF T rep fs b
    | none => True

/-- The cells of a type, every slice readable, nothing of more than B. -/
def Rep (T : List TI) (u : World) (B : Nat) : Nat → TypeId → List Value → Prop
  | 0, _, _ => True
  | n + 1, t, cs =>
    match tiOf T t with
    | some ti =>
      match ti.k with
      | .cell (.int .i64) => ∃ z : Int, cs = [.int .i64 z] ∧ -9223372036854775808 ≤ z ∧ z ≤ 9223372036854775807
      | .cell .bool => ∃ b : Bool, cs = [.bool b]
      | .cell .str => ∃ s : ByteArray, cs = [.string s] ∧ s.size ≤ B
      | .slice e =>
        match tiOf T e with
        | some te => 0 < te.size → ∃ p m c ls, cs = [.slice p m c] ∧ Arr u te.size p m ls ∧ m ≤ B ∧ m ≤ c ∧ ∀ i, i < m → Rep T u B n e (ls.getD i [])
        | none => True
      | .struct fs => RepF T (Rep T u B n) fs cs
      | .array m e =>
        match tiOf T e with
        | some te => cs.length = m * te.size ∧ ∀ i, i < m → Rep T u B n e ((cs.drop (i * te.size)).take te.size)
        | none => True
      | _ => True
    | none => True

def seqF (T : List TI) : Nat → List (Nat × TypeId) → Nat → Bool
  | o, [], z => Nat.beq o z
  | o, f :: fs, z =>
    match tiOf T f.2 with
    | some te => Nat.beq f.1 o && seqF T (o + te.size) fs z
    | none => false

def seqT (T : List TI) : Bool := T.all fun ti =>
  match ti.k with
  | .struct fs => seqF T 0 fs ti.size
  | .array m e => match tiOf T e with | some te => Nat.beq ti.size (m * te.size) | none => true
  | _ => true

section
variable {H : Type} {enc : TypeId × Value → H} {P : Program} {W W' : World} {T : List TI}

theorem ti_ok (hT : TabOk P 0 T) {t : TypeId} {ti : TI} (h : tiOf T t = some ti) : T[t]? = some ti ∧ TIok P t ti := by
  unfold tiOf at h
  split at h
  · next ti' hti =>
    have key : ∀ x : Option TI, (match ti'.k with | .other => none | _ => some ti') = x → x = some ti → ti' = ti ∧ (ti'.k = .other → False) := fun x h1 h2 => by
      cases hk : ti'.k <;> rw [hk] at h1 <;> simp only at h1 <;> subst h1 <;> first | exact ⟨Option.some.inj h2, fun h => by cases h⟩ | cases h2
    obtain ⟨rfl, hn⟩ := key _ rfl h
    have := tabOk_at hT hti hn
    rw [Nat.zero_add] at this
    exact ⟨hti, this⟩
  · cases h

theorem ti_size (hT : TabOk P 0 T) {t : TypeId} {ti : TI} (h : tiOf T t = some ti) : P.cellsOf t = ti.size := by
  obtain ⟨i, h1, h2, _⟩ := (ti_ok hT h).2.info
  unfold Program.cellsOf
  rw [h1]
  exact h2

theorem seqF_le : ∀ (fs : List (Nat × TypeId)) (o z : Nat), seqF T o fs z = true → o ≤ z
  | [], o, z, h => by have := Nat.eq_of_beq_eq_true (show Nat.beq o z = true from h); omega
  | f :: fs, o, z, h => by
    unfold seqF at h
    cases hf : tiOf T f.2 with
    | none => rw [hf] at h; cases h
    | some te =>
      rw [hf] at h
      simp only [Bool.and_eq_true] at h
      have := seqF_le fs _ _ h.2
      omega

theorem repF_of (hT : TabOk P 0 T) {rep : TypeId → List Value → Prop} {full : List Value} : ∀ (fs : List (Nat × TypeId)) (o : Nat), seqF T o fs full.length = true → (∀ f ∈ fs, rep f.2 ((full.drop f.1).take (P.cellsOf f.2))) → RepF T rep fs (full.drop o)
  | [], o, hs, _ => by
    have := Nat.eq_of_beq_eq_true (show Nat.beq o full.length = true from hs)
    exact List.drop_eq_nil_of_le (by omega)
  | f :: fs, o, hs, hr => by
    unfold seqF at hs
    unfold RepF
    cases ht : tiOf T f.2 with
    | none => trivial
    | some te =>
      rw [ht] at hs
      rw [Bool.and_eq_true] at hs
      obtain ⟨hs1, hs⟩ := hs
      have hs1 := Nat.eq_of_beq_eq_true hs1
      have h0 := hr f List.mem_cons_self
      rw [ti_size hT ht, hs1] at h0
      have hle := seqF_le fs _ _ hs
      refine ⟨(full.drop o).take te.size, full.drop (o + te.size), by rw [← List.drop_drop, List.take_append_drop], by rw [List.length_take, List.length_drop]; omega, h0, ?_⟩
      exact repF_of hT fs _ hs fun g hg => hr g (List.mem_cons_of_mem _ hg)

theorem seqT_at (hs : seqT T = true) {t : TypeId} {ti : TI} (h : T[t]? = some ti) : (match ti.k with
  | .struct fs => seqF T 0 fs ti.size
  | .array m e => match tiOf T e with | some te => Nat.beq ti.size (m * te.size) | none => true
  | _ => true) = true := by
  unfold seqT at hs
  rw [List.all_eq_true] at hs
  exact hs ti (List.mem_of_getElem? h)

/-- What a reading says of the cells. -/
theorem rep_of (hT : TabOk P 0 T) (hs : seqT T = true) {B : Nat} : ∀ (n : Nat) {t : TypeId} {fuel : Nat} {cs : List Value} {x : DataW H × List MemPlace}, DataW.trod enc P W 0 (fun _ => true) true fuel t cs = some x → Rows.uptoBulk x.1 ≤ B → Rep T W B n t cs
  | 0, _, _, _, _, _, _ => trivial
  | n + 1, t, fuel, cs, x, h, hB => by
    unfold Rep
    cases ht : tiOf T t with
    | none => trivial
    | some ti =>
      obtain ⟨hti, hok⟩ := ti_ok hT ht
      obtain ⟨d, hd, hk⟩ := hok.under
      have hseq := seqT_at hs hti
      have hsz := ti_size hT ht
      dsimp only
      cases hkk : ti.k with
      | cell c =>
        rw [hkk] at hk
        cases c with
        | int k =>
          simp only [TKok] at hk
          subst hk
          cases k
          case i64 => exact open_int' hd h
          all_goals trivial
        | bool =>
          simp only [TKok] at hk
          subst hk
          obtain ⟨b, hb, _⟩ := DataW.trod_bool hd h
          exact ⟨b, hb⟩
        | str =>
          simp only [TKok] at hk
          subst hk
          obtain ⟨s, h1, h2⟩ := open_str' hd h
          exact ⟨s, h1, Nat.le_trans h2 hB⟩
        | slice => trivial
        | ptr => trivial
        | func => trivial
      | slice e =>
        rw [hkk] at hk
        simp only [TKok] at hk
        subst hk
        dsimp only
        cases hte : tiOf T e with
        | none => trivial
        | some te =>
          dsimp only
          intro h0
          obtain ⟨p, m, c, ls, h1, h2, h3, h3', h4⟩ := open_slice hd (ti_size hT hte) h0 h
          refine ⟨p, m, c, ls, h1, h2, Nat.le_trans h3 hB, h3', fun i hi => ?_⟩
          obtain ⟨f', y, hy, hb⟩ := h4 i hi
          exact rep_of hT hs n hy (Nat.le_trans hb hB)
      | struct fs =>
        rw [hkk] at hk hseq
        obtain ⟨F, rfl, hF, _⟩ := hk
        obtain ⟨hl, hf⟩ := open_field hd h
        dsimp only at hseq ⊢
        rw [← hsz, ← hl] at hseq
        have := repF_of (rep := Rep T W B n) hT fs 0 hseq fun f hf' => by
          rw [← hF] at hf'
          obtain ⟨g, hg, rfl⟩ := List.mem_map.1 hf'
          obtain ⟨i, hi, hgi⟩ := List.getElem_of_mem hg
          obtain ⟨f', y, hy, hb⟩ := hf i g (by rw [← hgi]; simp at hi ⊢)
          exact rep_of hT hs n hy (Nat.le_trans hb hB)
        rwa [List.drop_zero] at this
      | array m e =>
        rw [hkk] at hk hseq
        simp only [TKok] at hk
        subst hk
        dsimp only at hseq ⊢
        cases hte : tiOf T e with
        | none => trivial
        | some te =>
          rw [hte] at hseq
          have hseq := Nat.eq_of_beq_eq_true hseq
          obtain ⟨hl, hf⟩ := open_elem hd h
          dsimp only
          refine ⟨by rw [hl, hsz, hseq], fun i hi => ?_⟩
          obtain ⟨f', y, hy, hb⟩ := hf i hi
          rw [ti_size hT hte] at hy
          exact rep_of hT hs n hy (Nat.le_trans hb hB)
      | ptr e => trivial
      | tuple ts => trivial
      | other => trivial

/-- An argument of any other type. -/
theorem arg_one (hT : TabOk P 0 T) {r : Reach} {b0 t : TypeId} {ti : TI} {v : Value} (ht : tiOf T t = some ti) (hk : (match ti.k with | .cell .func => false | .cell _ | .slice _ => true | _ => false) = true) (hval : Value.okWide P W r b0 t v) : v.cells.toList = [v] := by
  obtain ⟨d, hd, hk'⟩ := (ti_ok hT ht).2.under
  cases v with
  | agg cs =>
    exfalso
    unfold Value.okWide at hval
    rw [hd] at hval
    cases hkk : ti.k with
    | cell c =>
      rw [hkk] at hk' hk
      cases c with
      | int k => simp only [TKok] at hk'; subst hk'; simp [Cell.okWide, Cell.ok, hd] at hval
      | bool => simp only [TKok] at hk'; subst hk'; simp [Cell.okWide, Cell.ok, hd] at hval
      | str => simp only [TKok] at hk'; subst hk'; simp [Cell.okWide, Cell.ok, hd] at hval
      | slice => simp only [TKok] at hk'
      | ptr => simp only [TKok] at hk'
      | func => cases hk
    | slice e => rw [hkk] at hk'; simp only [TKok] at hk'; subst hk'; simp [Cell.okWide, Cell.ok, hd] at hval
    | _ => rw [hkk] at hk; cases hk
  | _ => rfl

end

theorem seq_tab : seqT tab = true := by kernel_rfl

end Go.Proofs.YtkmmphkjmamckabDoor
