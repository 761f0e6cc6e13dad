/-
  Memory as parsers and events lie in it.
-/
import Derived.Test.YtkmmphkjmamckaaVcLib
import Derived.Test.YtkmmphkjmamckaaPSpec
namespace Go.Proofs.Ytkmmphkjmamckaa
open Go
set_option linter.all false

def numV (l : List Int) : List Value := l.map (Value.int .i64)

/-- Numbers in a slice. -/
def Nums (u : World) (p : Option Addr) (n : Nat) (l : List Int) : Prop := Gets u p (numV l) ∧ l.length = n

theorem numV_len (l : List Int) : (numV l).length = l.length := by simp [numV]

theorem rd_num {u : World} {b : Nat} : ∀ (l : List Int) (o i : Nat), Rd u b o (numV l) → i < l.length → Rd u b (o + i * 1) [.int .i64 (l.getD i 0)]
  | [], _, _, _, h => by simp at h
  | x :: l, o, 0, h, _ => ⟨by simpa using h.1, trivial⟩
  | x :: l, o, i + 1, h, hi => by
    have := rd_num l (o + 1) i h.2 (by simpa using hi)
    rw [show o + (i + 1) * 1 = o + 1 + i * 1 by omega]
    simpa using this

theorem Nums.at {u : World} {p : Option Addr} {n : Nat} {l : List Int} (h : Nums u p n l) {i : Nat} (hi : i < n) : ∃ b o, p = some ⟨b, o, none⟩ ∧ Rd u b (o + i * 1) [.int .i64 (l.getD i 0)] := by
  obtain ⟨h, hl⟩ := h
  cases p with
  | none =>
    have : (numV l).length = 0 := by rw [show numV l = [] from h]; rfl
    rw [numV_len] at this
    omega
  | some a =>
    obtain ⟨b, o, s⟩ := a
    obtain ⟨hs, hr⟩ := h
    have hs := hs fun e => by have := congrArg List.length e; rw [numV_len] at this; simp only [List.length_nil] at this; omega
    simp only at hs
    subst hs
    exact ⟨b, o, rfl, rd_num l o i hr (by omega)⟩

theorem Nums.upd {S : Nat → Prop} {u u' : World} {p : Option Addr} {n : Nat} {l : List Int} (h : Nums u p n l) (hu : Upd S u u') (hn : ∀ k, At p k → ¬ S k) : Nums u' p n l := ⟨hu.gets h.1 hn, h.2⟩
theorem Nums.ext {u u' : World} {p : Option Addr} {n : Nat} {l : List Int} (h : Nums u p n l) (hu : Ext u u') : Nums u' p n l := h.upd hu fun _ _ h => h

theorem numV_ok (l : List Int) : okCells (numV l) True := by
  rw [okCells_iff]
  refine ⟨fun c hc => ?_, trivial⟩
  simp only [numV, List.mem_map] at hc
  obtain ⟨_, _, rfl⟩ := hc
  rfl

theorem Own.nums {u : World} {p : Option Addr} {n c : Nat} {l : List Int} (h : Own u 1 p n c (numV l)) : Nums u p n l := ⟨h.gets, by have := h.len; rw [numV_len] at this; omega⟩

def PrV (p : Pr) (pp : Option Addr) (n c : Nat) : Value := .agg #[.int .i64 p.at_, .slice pp n c, .string p.pl, .bool p.long]
def EvV (e : Ev) (pp : Option Addr) (n c : Nat) : Value := .agg #[.int .i64 e.kind, .int .i64 e.b, .slice pp n c, .string e.pl]

theorem bytes_ext {a b : ByteArray} (h : a.data.toList = b.data.toList) : a = b := by
  cases a; cases b; simp only [ByteArray.mk.injEq]; exact Array.ext' h

theorem noBytes_iff {a : ByteArray} : a.data.toList = [] ↔ a = noBytes := ⟨fun h => bytes_ext h, fun h => by rw [h]⟩

theorem nums_eq_iff {l m : List Int} (hl : l.length = m.length) : l = m ↔ ∀ i, i < l.length → l.getD i 0 = m.getD i 0 := by
  constructor
  · rintro rfl _ _; rfl
  · intro h
    refine List.ext_getElem hl fun i h1 h2 => ?_
    have := h i h1
    simpa [List.getD_eq_getElem?_getD, List.getElem?_eq_getElem h1, List.getElem?_eq_getElem h2] using this

def Evs (u : World) (ok : Nat → Prop) : List (List Value) → List Ev → Prop
  | [], [] => True
  | x :: xs, e :: es => (∃ p n c, x = [.int .i64 e.kind, .int .i64 e.b, .slice p n c, .string e.pl] ∧ Nums u p n e.ps ∧ ∀ k, At p k → ok k) ∧ Evs u ok xs es
  | _, _ => False

theorem Evs.len {u : World} {ok : Nat → Prop} : ∀ {xs : List (List Value)} {es : List Ev}, Evs u ok xs es → xs.length = es.length
  | [], [], _ => rfl
  | _ :: _, _ :: _, h => by simp only [List.length_cons, Evs.len h.2]

theorem Evs.at {u : World} {ok : Nat → Prop} : ∀ {xs : List (List Value)} {es : List Ev} {i : Nat}, Evs u ok xs es → i < es.length → ∃ p n c, xs.getD i [] = [.int .i64 (es.getD i .none).kind, .int .i64 (es.getD i .none).b, .slice p n c, .string (es.getD i .none).pl] ∧ Nums u p n (es.getD i .none).ps ∧ ∀ k, At p k → ok k
  | x :: xs, e :: es, 0, h, _ => by simpa using h.1
  | x :: xs, e :: es, i + 1, h, hi => by simpa using Evs.at (i := i) h.2 (by simpa using hi)
  | [], [], _, _, hi => by simp at hi

theorem Evs.each {u : World} {ok : Nat → Prop} : ∀ {xs : List (List Value)} {es : List Ev}, Evs u ok xs es → ∀ y ∈ xs, y.length = 4
  | x :: xs, e :: es, h, y, hy => by
    rcases List.mem_cons.1 hy with rfl | hy
    · obtain ⟨_, _, _, rfl, _⟩ := h.1
      rfl
    · exact Evs.each h.2 y hy
  | [], [], _, _, hy => by simp at hy

theorem Evs.upd {S ok ok' : Nat → Prop} {u u' : World} (hu : Upd S u u') (hok : ∀ k, ok k → ¬ S k ∧ ok' k) : ∀ {xs : List (List Value)} {es : List Ev}, Evs u ok xs es → Evs u' ok' xs es
  | [], [], _ => trivial
  | x :: xs, e :: es, h => ⟨by
    obtain ⟨p, n, c, h1, h2, h3⟩ := h.1
    exact ⟨p, n, c, h1, h2.upd hu fun k hk => (hok k (h3 k hk)).1, fun k hk => (hok k (h3 k hk)).2⟩, Evs.upd hu hok h.2⟩

theorem Evs.snoc {u : World} {ok : Nat → Prop} {x : List Value} {e : Ev} (hx : ∃ p n c, x = [.int .i64 e.kind, .int .i64 e.b, .slice p n c, .string e.pl] ∧ Nums u p n e.ps ∧ ∀ k, At p k → ok k) : ∀ {xs : List (List Value)} {es : List Ev}, Evs u ok xs es → Evs u ok (xs ++ [x]) (es ++ [e])
  | [], [], _ => ⟨hx, trivial⟩
  | _ :: _, _ :: _, h => ⟨h.1, Evs.snoc hx h.2⟩

theorem Evs.okc {u : World} {ok : Nat → Prop} : ∀ {xs : List (List Value)} {es : List Ev}, Evs u ok xs es → okCells xs.flatten True
  | [], [], _ => trivial
  | x :: xs, e :: es, h => by
    obtain ⟨p, n, c, rfl, _⟩ := h.1
    have := Evs.okc h.2
    simpa [okCells] using this

theorem Evs.append {u : World} {ok : Nat → Prop} {ys : List (List Value)} {fs : List Ev} (h' : Evs u ok ys fs) : ∀ {xs : List (List Value)} {es : List Ev}, Evs u ok xs es → Evs u ok (xs ++ ys) (es ++ fs)
  | [], [], _ => h'
  | _ :: _, _ :: _, h => ⟨h.1, Evs.append h' h.2⟩

theorem Evs.ext {u u' : World} {ok : Nat → Prop} (hu : Ext u u') {xs : List (List Value)} {es : List Ev} (h : Evs u ok xs es) : Evs u' ok xs es := h.upd hu fun k hk => ⟨fun h => h, hk⟩

/-- Events in a slice, their numbers in blocks that are ok. -/
def EvL (u : World) (ok : Nat → Prop) (p : Option Addr) (n : Nat) (es : List Ev) : Prop := ∃ xs, Arr u 4 p n xs ∧ Evs u ok xs es

theorem ev_ext {a b : Ev} : a = b ↔ a.kind = b.kind ∧ a.b = b.b ∧ a.pl = b.pl ∧ a.ps = b.ps := by
  cases a; cases b; simp only [Ev.mk.injEq]
  constructor
  · rintro ⟨rfl, rfl, rfl, rfl⟩; exact ⟨rfl, rfl, rfl, rfl⟩
  · rintro ⟨rfl, rfl, rfl, rfl⟩; exact ⟨rfl, rfl, rfl, rfl⟩

theorem list_eq_iff {α : Type} {l m : List α} (d : α) (hl : l.length = m.length) : l = m ↔ ∀ i, i < l.length → l.getD i d = m.getD i d := by
  constructor
  · rintro rfl _ _; rfl
  · intro h
    refine List.ext_getElem hl fun i h1 h2 => ?_
    have := h i h1
    simpa [List.getD_eq_getElem?_getD, List.getElem?_eq_getElem h1, List.getElem?_eq_getElem h2] using this

theorem mem_getD {α : Type} {l : List α} (d : α) {i : Nat} (h : i < l.length) : l.getD i d ∈ l := by
  rw [List.getD_eq_getElem?_getD, List.getElem?_eq_getElem h]
  exact List.getElem_mem _

theorem EvL.len {u : World} {ok : Nat → Prop} {p : Option Addr} {n : Nat} {es : List Ev} (h : EvL u ok p n es) : es.length = n := by
  obtain ⟨xs, ha, he⟩ := h
  rw [← he.len, ha.len]

theorem EvL.upd {S ok ok' : Nat → Prop} {u u' : World} {p : Option Addr} {n : Nat} {es : List Ev} (h : EvL u ok p n es) (hu : Upd S u u') (hp : ∀ k, At p k → ¬ S k) (hok : ∀ k, ok k → ¬ S k ∧ ok' k) : EvL u' ok' p n es := by
  obtain ⟨xs, ha, he⟩ := h
  exact ⟨xs, ha.upd hu hp, he.upd hu hok⟩

theorem EvL.ext {ok : Nat → Prop} {u u' : World} {p : Option Addr} {n : Nat} {es : List Ev} (h : EvL u ok p n es) (hu : Ext u u') : EvL u' ok p n es := h.upd hu (fun _ _ h => h) fun _ h => ⟨fun h => h, h⟩

theorem EvL.at {u : World} {ok : Nat → Prop} {p : Option Addr} {n : Nat} {es : List Ev} (h : EvL u ok p n es) {i : Nat} (hi : i < n) : ∃ b o q m c, p = some ⟨b, o, none⟩ ∧ Rd u b (o + i * 4) [.int .i64 (es.getD i .none).kind, .int .i64 (es.getD i .none).b, .slice q m c, .string (es.getD i .none).pl] ∧ Nums u q m (es.getD i .none).ps := by
  have hl := h.len
  obtain ⟨xs, ha, he⟩ := h
  obtain ⟨b, o, hp, hr⟩ := ha.at hi (by decide)
  obtain ⟨q, m, c, h1, h2, _⟩ := he.at (i := i) (by omega)
  rw [h1] at hr
  exact ⟨b, o, q, m, c, hp, hr, h2⟩

/-- What a step of the parser answers, and where. -/
def StepPost (u : World) (pp : Option Addr) (r : Pr × Ev) (e : Ending) (u' : World) : Prop :=
  ∃ (q : Option Addr) (n c : Nat) (ep : Option Addr) (en ec : Nat), e = .returned (.tuple #[PrV r.1 q n c, EvV r.2 ep en ec]) ∧ Own u' 1 q n c (numV r.1.ps) ∧ Nums u' ep en r.2.ps ∧ Upd (At pp) u u' ∧
    (∀ k, At q k → At pp k ∨ u.heap.size ≤ k) ∧ ∀ k, At ep k → At pp k ∧ ¬ At q k

theorem at_none {k : Nat} : ¬ At none k := fun ⟨_, h, _⟩ => by cases h
theorem at_some {a : Addr} {k : Nat} (h : At (some a) k) : k = a.block := by obtain ⟨_, h, rfl⟩ := h; cases h; rfl

theorem StepPost.plain {u u' : World} {pp : Option Addr} {p : Pr} {e : Ev} {q : Option Addr} {n c : Nat} (hps : e.ps = []) (ho : Own u' 1 q n c (numV p.ps)) (hu : Upd (At pp) u u') (hq : ∀ k, At q k → At pp k ∨ u.heap.size ≤ k) :
    StepPost u pp (p, e) (.returned (.tuple #[PrV p q n c, EvV e none 0 0])) u' := ⟨q, n, c, none, 0, 0, rfl, ho, ⟨by rw [hps]; rfl, by rw [hps]; rfl⟩, hu, hq, fun _ h => (at_none h).elim⟩

theorem Own.len' {u : World} {p : Option Addr} {n c : Nat} {l : List Int} (h : Own u 1 p n c (numV l)) : l.length = n := by have := h.len; rw [numV_len] at this; omega

theorem lastNum_take (ps : List Int) (c : Int) (h : 0 < ps.length) : numV (lastNum ps c) = numV (ps.take (ps.length - 1)) ++ [.int .i64 (min (10 * (ps.getD (ps.length - 1) 0) + c - 48) 999)] ++ [] := by
  unfold lastNum numV
  rw [List.append_nil, List.map_set]
  apply List.ext_getElem
  · simp; omega
  · intro i h1 h2
    simp only [List.length_set, List.length_map] at h1
    by_cases hi : i = ps.length - 1
    · subst hi
      simp
    · rw [List.getElem_set_ne (by omega), List.getElem_append_left (by simp; omega)]
      simp

end Go.Proofs.Ytkmmphkjmamckaa
