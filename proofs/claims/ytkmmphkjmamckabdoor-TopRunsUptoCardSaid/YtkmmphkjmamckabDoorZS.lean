/-
  Texts that belong together, joined: SMem, SMem2.
-/
import Derived.Test.YtkmmphkjmamckabDoorZP
import Derived.Test.YtkmmphkjmamckabDoorDNum
import Derived.Test.YtkmmphkjmamckabDoorZM
import Derived.Test.YtkmmphkjmamckabDoorTSplit
/-
  The server's memory: its block, and what hangs on it.
-/
namespace Go.Proofs.YtkmmphkjmamckabDoor
open Go
set_option linter.all false

section
variable {α : Type}

theorem takeN_mk : ∀ (l : List α) (k n : Nat) (x : List α), x.length = n → (∀ j, j < n → l[k + j]? = x[j]?) → takeN l k n = some x
  | _, _, 0, [], _, _ => by simp [takeN]
  | [], k, n + 1, y :: x, _, h => by have := h 0 (by omega); simp at this
  | a :: r, 0, n + 1, y :: x, hx, h => by
    have h0 := h 0 (by omega)
    simp only [Nat.add_zero, List.getElem?_cons_zero, Option.some.injEq] at h0
    subst h0
    have ih := takeN_mk r 0 n x (by simpa using hx) fun j hj => by
      have := h (j + 1) (by omega)
      simpa using this
    simp [takeN, ih]
  | a :: r, k + 1, n + 1, x, hx, h => by
    have ih := takeN_mk r k (n + 1) x hx fun j hj => by
      have := h j hj
      rw [show k + 1 + j = (k + j) + 1 by omega] at this
      simpa using this
    simp [takeN, ih]

theorem takeN_get : ∀ (l : List α) (k n : Nat) (x : List α), takeN l k n = some x → x.length = n ∧ ∀ j, j < n → l[k + j]? = x[j]?
  | _, _, 0, x, h => by
    simp only [takeN, Option.some.injEq] at h
    subst h
    exact ⟨rfl, fun j hj => by omega⟩
  | [], k, n + 1, x, h => by simp [takeN] at h
  | a :: r, 0, n + 1, x, h => by
    simp only [takeN] at h
    cases hr : takeN r 0 n with
    | none => rw [hr] at h; cases h
    | some y =>
      rw [hr] at h
      simp only [Option.some.injEq] at h
      subst h
      have ih := takeN_get r 0 n y hr
      refine ⟨by simp [ih.1], fun j hj => ?_⟩
      cases j with
      | zero => simp
      | succ j =>
        have := ih.2 j (by omega)
        simpa using this
  | a :: r, k + 1, n + 1, x, h => by
    simp only [takeN] at h
    have ih := takeN_get r k (n + 1) x h
    refine ⟨ih.1, fun j hj => ?_⟩
    have := ih.2 j hj
    rw [show k + 1 + j = (k + j) + 1 by omega]
    simpa using this

theorem putN_get : ∀ (l : List α) (o : Nat) (ys r : List α), putN l o ys = some r → r.length = l.length ∧ o + ys.length ≤ max l.length o ∧ ∀ i, r[i]? = if o ≤ i ∧ i < o + ys.length then ys[i - o]? else l[i]?
  | l, o, [], r, h => by
    have : putN l o [] = some l := by cases l <;> simp [putN]
    rw [this] at h
    simp only [Option.some.injEq] at h
    subst h
    refine ⟨rfl, by simp only [List.length_nil]; omega, fun i => ?_⟩
    rw [if_neg (by simp only [List.length_nil]; omega)]
  | [], o, y :: ys, r, h => by simp [putN] at h
  | a :: l, 0, y :: ys, r, h => by
    simp only [putN] at h
    cases hr : putN l 0 ys with
    | none => rw [hr] at h; cases h
    | some z =>
      rw [hr] at h
      simp only [Option.some.injEq] at h
      subst h
      have ih := putN_get l 0 ys z hr
      refine ⟨by simp [ih.1], by have := ih.2.1; simp; omega, fun i => ?_⟩
      cases i with
      | zero => simp
      | succ i =>
        have := ih.2.2 i
        simp only [Nat.zero_le, true_and, Nat.zero_add, Nat.sub_zero, List.getElem?_cons_succ, List.length_cons, Nat.add_lt_add_iff_right] at this ⊢
        exact this
  | a :: l, o + 1, y :: ys, r, h => by
    simp only [putN] at h
    cases hr : putN l o (y :: ys) with
    | none => rw [hr] at h; cases h
    | some z =>
      rw [hr] at h
      simp only [Option.some.injEq] at h
      subst h
      have ih := putN_get l o (y :: ys) z hr
      refine ⟨by simp [ih.1], by have := ih.2.1; simp at this ⊢; omega, fun i => ?_⟩
      cases i with
      | zero => rw [if_neg (by omega)]; simp
      | succ i =>
        have := ih.2.2 i
        simp only [List.getElem?_cons_succ] at this ⊢
        rw [this]
        by_cases hi : o ≤ i ∧ i < o + (y :: ys).length
        · rw [if_pos hi, if_pos (by omega), show i + 1 - (o + 1) = i - o by omega]
        · rw [if_neg hi, if_neg (by omega)]

theorem putN_some : ∀ (l : List α) (o : Nat) (ys : List α), o + ys.length ≤ l.length → ∃ r, putN l o ys = some r
  | l, o, [], _ => ⟨l, by cases l <;> simp [putN]⟩
  | [], o, y :: ys, h => by simp at h
  | a :: l, 0, y :: ys, h => by
    obtain ⟨r, hr⟩ := putN_some l 0 ys (by simp at h ⊢; omega)
    exact ⟨y :: r, by simp only [putN, hr]⟩
  | a :: l, o + 1, y :: ys, h => by
    obtain ⟨r, hr⟩ := putN_some l o (y :: ys) (by simp at h ⊢; omega)
    exact ⟨a :: r, by simp only [putN, hr]⟩

theorem putN_all {x ys : List α} (h : x.length = ys.length) : putN x 0 ys = some ys := by
  obtain ⟨r, hr⟩ := putN_some x 0 ys (by omega)
  rw [hr]
  obtain ⟨h1, _, h2⟩ := putN_get x 0 ys r hr
  congr 1
  refine List.ext_getElem? fun i => ?_
  rw [h2 i]
  split
  · rfl
  · next hn => rw [List.getElem?_eq_none (by omega), List.getElem?_eq_none (by omega)]

/-- Some cells are other than they were. -/
structure PutTo (cs : List α) (o : Nat) (ys cs' : List α) : Prop where
  put : putN cs o ys = some cs'
  len : cs'.length = cs.length
  off : ∀ {a n x}, a + n ≤ o ∨ o + ys.length ≤ a → takeN cs a n = some x → takeN cs' a n = some x
  on : ∀ {A n x x'}, takeN cs A n = some x → A ≤ o → o + ys.length ≤ A + n → putN x (o - A) ys = some x' → takeN cs' A n = some x'

theorem put_to {cs ys : List α} {o : Nat} (h : o + ys.length ≤ cs.length) : ∃ cs', PutTo cs o ys cs' := by
  obtain ⟨cs', hp⟩ := putN_some cs o ys h
  obtain ⟨h1, _, h2⟩ := putN_get cs o ys cs' hp
  refine ⟨cs', hp, h1, fun {a n x} hd hx => ?_, fun {A n x x'} hx hA hn hp' => ?_⟩
  · obtain ⟨k1, k2⟩ := takeN_get _ _ _ _ hx
    refine takeN_mk _ _ _ _ k1 fun j hj => ?_
    rw [h2, if_neg (by omega)]
    exact k2 j hj
  · obtain ⟨k1, k2⟩ := takeN_get _ _ _ _ hx
    obtain ⟨m1, _, m2⟩ := putN_get _ _ _ _ hp'
    refine takeN_mk _ _ _ _ (by omega) fun j hj => ?_
    rw [h2, m2]
    by_cases hj2 : o ≤ A + j ∧ A + j < o + ys.length
    · rw [if_pos hj2, if_pos (by omega), show A + j - o = j - (o - A) by omega]
    · rw [if_neg hj2, if_neg (by omega)]
      exact k2 j hj

theorem takeN_sub {cs x y : List α} {A n j m : Nat} (h : takeN cs A n = some x) (hy : takeN x j m = some y) (hjm : j + m ≤ n) : takeN cs (A + j) m = some y := by
  obtain ⟨k1, k2⟩ := takeN_get _ _ _ _ h
  obtain ⟨m1, m2⟩ := takeN_get _ _ _ _ hy
  refine takeN_mk _ _ _ _ m1 fun i hi => ?_
  rw [← m2 i hi, Nat.add_assoc, k2 (j + i) (by omega)]

end

/-! ### What hangs on the server -/

structure GrAt (u : World) (ok : Nat → Prop) (g : Gr) (x : List Value) : Prop where
  ex : ∃ p c, x = grV g p g.cells.length c ∧ Cells u p g.cells ∧ (0 < g.cells.length → ∀ k, At p k → ok k) ∧ g.cells.length ≤ c
  few : g.cells.length ≤ 1000

structure PrAt (u : World) (ok : Nat → Prop) (r : Pr) (x : List Value) : Prop where
  ex : ∃ p n c, x = [.int .i64 r.at_, .slice p n c, .string r.pl, .bool r.long] ∧ Nums u p n r.ps ∧ (0 < r.ps.length → ∀ k, At p k → ok k)

structure CtAt (u : World) (ok : Nat → Prop) (c : Ct) (x : List Value) : Prop where
  ex : ∃ p d, x = [.bool c.here] ++ grV c.shown p c.shown.cells.length d ++ [.string (bstr c.queue), .bool c.lost] ∧ Cells u p c.shown.cells ∧ (0 < c.shown.cells.length → ∀ k, At p k → ok k)
  few : c.shown.cells.length ≤ 1000

structure SvC (u : World) (ok : Nat → Prop) (s : Sv) (cs : List Value) : Prop where
  len : cs.length = 119
  tiles : ∃ p c, takeN cs 0 1 = some [.slice p s.v.cols.length c] ∧ TlF u ok p s.v.cols
  grid : ∀ i, i < 6 → ∃ x, takeN cs (1 + i * 9) 9 = some x ∧ GrAt u ok (gridOf s.v i) x
  wide : takeN cs 55 1 = some [.int .i64 s.v.wide]
  high : takeN cs 56 1 = some [.int .i64 s.v.high]
  focus : takeN cs 57 1 = some [.int .i64 s.v.focus]
  parser : ∀ i, i < 6 → ∃ x, takeN cs (58 + i * 4) 4 = some x ∧ PrAt u ok (parserOf s i) x
  client : ∀ i, i < 3 → ∃ x, takeN cs (82 + i * 12) 12 = some x ∧ CtAt u ok (clientOf s i) x
  acts : takeN cs 118 1 = some [.int .i64 s.acts]

/-- The server's block holds it; nothing that hangs on it lies in a block of B, the blocks that are written. -/
structure SvM (u : World) (sb : Nat) (B : Nat → Prop) (s : Sv) : Prop where
  ex : ∃ cs, Blk u sb cs ∧ SvC u (fun k => ¬ B k) s cs
  own : B sb
  old : ∀ k, B k → k < u.heap.size

theorem GoodG.pos {g : Gr} (h : GoodG g) : 0 < g.cells.length := by
  have h1 := h.w1
  have h2 := h.h1
  have h3 := h.len
  have : 0 < g.wide * g.high := Int.mul_pos (by omega) (by omega)
  omega

theorem gets_nil0 {u u' : World} {p : Option Addr} (h : Gets u p []) : Gets u' p [] := by
  cases p with
  | none => exact h
  | some a => exact ⟨fun h => (h rfl).elim, trivial⟩

theorem Cells.upd0 {S : Nat → Prop} {u u' : World} {p : Option Addr} {l : List Cl} (h : Cells u p l) (hu : Upd S u u') (hn : 0 < l.length → ∀ k, At p k → ¬ S k) : Cells u' p l := by
  by_cases h0 : 0 < l.length
  · exact h.upd hu (hn h0)
  · have : l = [] := List.length_eq_zero_iff.1 (by omega)
    subst this
    exact ⟨gets_nil0 h.gets⟩

theorem Nums.upd0 {S : Nat → Prop} {u u' : World} {p : Option Addr} {n : Nat} {l : List Int} (h : Nums u p n l) (hu : Upd S u u') (hn : 0 < l.length → ∀ k, At p k → ¬ S k) : Nums u' p n l := by
  by_cases h0 : 0 < l.length
  · exact h.upd hu (hn h0)
  · have : l = [] := List.length_eq_zero_iff.1 (by omega)
    subst this
    exact ⟨gets_nil0 h.1, h.2⟩

theorem Nums.lt0 {u : World} {p : Option Addr} {n : Nat} {l : List Int} (h : Nums u p n l) (h0 : 0 < l.length) {k : Nat} (hk : At p k) : k < u.heap.size := by
  obtain ⟨b, o, rfl, hr⟩ := h.at (i := 0) (by have := h.2; omega)
  have := at_some hk
  simp only at this
  subst this
  exact rd_lt hr

theorem colsV_mono {u : World} {ok ok' : Nat → Prop} (hk : ∀ k, ok k → k < u.heap.size → ok' k) : ∀ {ls : Cols} {xs : List (List Value)}, (∀ l ∈ ls, 0 < l.length) → ColsV u ok xs ls → ColsV u ok' xs ls
  | [], [], _, _ => trivial
  | l :: ls, x :: xs, h0, h => ⟨by
    obtain ⟨q, c, h1, h2, h3⟩ := h.1
    exact ⟨q, c, h1, h2, fun k hk1 => hk k (h3 k hk1) (h2.lt0 (h0 l List.mem_cons_self) hk1)⟩, colsV_mono hk (fun l hl => h0 l (List.mem_cons_of_mem _ hl)) h.2⟩

theorem TlF.upd {S : Nat → Prop} {u u' : World} {ok : Nat → Prop} {p : Option Addr} {t : Cols} (h : TlF u ok p t) (hu : Upd S u u') (hk : ∀ k, ok k → ¬ S k) : TlF u' ok p t := by
  obtain ⟨ls, h1, h2, h3⟩ := h
  exact ⟨ls, h1.upd hu fun k hk1 => hk k (h3 k hk1), ColsV.upd hu (fun k hk1 => ⟨hk k hk1, hk1⟩) h2, h3⟩

theorem SvC.upd {S : Nat → Prop} {u u' : World} {ok : Nat → Prop} {s : Sv} {cs : List Value} (h : SvC u ok s cs) (hu : Upd S u u') (hk : ∀ k, ok k → ¬ S k) : SvC u' ok s cs := by
  obtain ⟨h1, ⟨p, c, h2, h3⟩, h4, h5, h6, h7, h8, h9, h10⟩ := h
  refine ⟨h1, ⟨p, c, h2, h3.upd hu hk⟩, fun i hi => ?_, h5, h6, h7, fun i hi => ?_, fun i hi => ?_, h10⟩
  · obtain ⟨x, k1, ⟨p, c, k2, k3, k4, k5⟩, k6⟩ := h4 i hi
    exact ⟨x, k1, ⟨p, c, k2, k3.upd0 hu fun h0 k hk1 => hk k (k4 h0 k hk1), k4, k5⟩, k6⟩
  · obtain ⟨x, k1, ⟨p, n, c, k2, k3, k4⟩⟩ := h8 i hi
    exact ⟨x, k1, ⟨p, n, c, k2, k3.upd0 hu fun h0 k hk1 => hk k (k4 h0 k hk1), k4⟩⟩
  · obtain ⟨x, k1, ⟨p, c, k2, k3, k4⟩, k6⟩ := h9 i hi
    exact ⟨x, k1, ⟨p, c, k2, k3.upd0 hu fun h0 k hk1 => hk k (k4 h0 k hk1), k4⟩, k6⟩

theorem SvC.mono {u : World} {ok ok' : Nat → Prop} {s : Sv} {cs : List Value} (h : SvC u ok s cs) (hc : GoodT s.v.cols) (hk : ∀ k, ok k → k < u.heap.size → ok' k) : SvC u ok' s cs := by
  obtain ⟨h1, ⟨p, c, h2, ls, t1, t2, t3⟩, h4, h5, h6, h7, h8, h9, h10⟩ := h
  refine ⟨h1, ⟨p, c, h2, ls, t1, ?_, fun k hk1 => hk k (t3 k hk1) ?_⟩, fun i hi => ?_, h5, h6, h7, fun i hi => ?_, fun i hi => ?_, h10⟩
  · exact colsV_mono hk (fun l hl => (hc.each l hl).1) t2
  · obtain ⟨b, o, rfl, hr⟩ := t1.at (i := 0) (List.length_pos_iff.2 hc.some) (by decide)
    have := at_some hk1
    simp only at this
    subst this
    obtain ⟨q, c, hx, _⟩ := ColsV.at t2 (i := 0) (List.length_pos_iff.2 hc.some)
    rw [hx] at hr
    exact rd_lt hr
  · obtain ⟨x, k1, ⟨p, c, k2, k3, k4, k5⟩, k6⟩ := h4 i hi
    exact ⟨x, k1, ⟨p, c, k2, k3, fun h0 k hk1 => hk k (k4 h0 k hk1) (k3.lt h0 hk1), k5⟩, k6⟩
  · obtain ⟨x, k1, ⟨p, n, c, k2, k3, k4⟩⟩ := h8 i hi
    exact ⟨x, k1, ⟨p, n, c, k2, k3, fun h0 k hk1 => hk k (k4 h0 k hk1) (k3.lt0 h0 hk1)⟩⟩
  · obtain ⟨x, k1, ⟨p, c, k2, k3, k4⟩, k6⟩ := h9 i hi
    exact ⟨x, k1, ⟨p, c, k2, k3, fun h0 k hk1 => hk k (k4 h0 k hk1) (k3.lt h0 hk1)⟩, k6⟩

theorem SvM.lt {u : World} {sb : Nat} {B : Nat → Prop} {s : Sv} (h : SvM u sb B s) : sb < u.heap.size := h.old sb h.own

/-- What is newer than the server is in no block that is written. -/
theorem SvM.new {u : World} {sb : Nat} {B : Nat → Prop} {s : Sv} (h : SvM u sb B s) {k : Nat} (hk : u.heap.size ≤ k) : ¬ B k := fun hb => by have := h.old k hb; omega

/-- Other blocks are written. -/
theorem SvM.upd {S : Nat → Prop} {u u' : World} {sb : Nat} {B : Nat → Prop} {s : Sv} (h : SvM u sb B s) (hu : Upd S u u') (hS : ∀ k, k < u.heap.size → S k → B k ∧ k ≠ sb) : SvM u' sb B s := by
  have hlt := h.lt
  obtain ⟨⟨cs, h1, h2⟩, h3, h4⟩ := h
  have hu' : Upd (fun k => B k ∧ k ≠ sb) u u' := hu.mono hS
  exact ⟨⟨cs, h1.upd hu' fun h => h.2 rfl, h2.upd hu' fun k hk h => hk h.1⟩, h3, fun k hk => by have := h4 k hk; have := hu.size; omega⟩

theorem SvM.ext {u u' : World} {sb : Nat} {B : Nat → Prop} {s : Sv} (h : SvM u sb B s) (hu : Ext u u') : SvM u' sb B s := h.upd hu fun _ _ h => h.elim

/-- More blocks are written, and these are new; or fewer. -/
theorem SvM.more {u u' : World} {sb : Nat} {B B' : Nat → Prop} {s : Sv} (h : SvM u sb B s) (hc : GoodT s.v.cols) (hu : Ext u u') (h1 : B' sb) (h2 : ∀ k, B' k → (B k ∨ u.heap.size ≤ k) ∧ k < u'.heap.size) : SvM u' sb B' s := by
  obtain ⟨⟨cs, k1, k2⟩, k3, k4⟩ := h
  refine ⟨⟨cs, k1.ext hu, (k2.mono hc fun k hk hl hb => ?_).upd hu fun _ _ h => h⟩, h1, fun k hk => (h2 k hk).2⟩
  rcases (h2 k hb).1 with h | h
  · exact hk h
  · omega

/-- What is newer than the server is written over. -/
theorem SvM.over {S : Nat → Prop} {u u1 u' : World} {sb : Nat} {B : Nat → Prop} {s : Sv} (h : SvM u sb B s) (hc : GoodT s.v.cols) (hu : Ext u u1) (hw : Upd S u1 u') (hS : ∀ k, S k → u.heap.size ≤ k) : SvM u' sb B s := by
  have hlt := h.lt
  have hs := hu.size
  have hs' := hw.size
  obtain ⟨⟨cs, k1, k2⟩, k3, k4⟩ := h
  refine ⟨⟨cs, (k1.ext hu).upd hw fun h => by have := hS _ h; omega, ?_⟩, k3, fun k hk => by have := k4 k hk; omega⟩
  have : SvC u (fun k => ¬ B k ∧ k < u.heap.size) s cs := k2.mono hc fun k hk hl => ⟨hk, hl⟩
  have := (this.upd hu fun _ _ h => h).upd hw fun k hk h => by have := hS k h; omega
  exact this.mono hc fun k hk _ => hk.1

theorem SvM.rd {u : World} {sb : Nat} {B : Nat → Prop} {s : Sv} (h : SvM u sb B s) : ∃ cs, SvC u (fun k => ¬ B k) s cs ∧ (∀ {o n x}, takeN cs o n = some x → Rd u sb o x) := by
  obtain ⟨⟨cs, h1, h2⟩, _⟩ := h
  exact ⟨cs, h2, fun hx => h1.rdAt hx⟩

/-- One screen is another one. -/
theorem SvM.setGrid {u : World} {sb : Nat} {B : Nat → Prop} {s : Sv} (h : SvM u sb B s) (hl : s.v.grids.length = 6) {i : Nat} (hi : i < 6) {g : Gr} {x : List Value} (hx : GrAt u (fun k => ¬ B k) g x) {o : Nat} (ho : o = 1 + i * 9) :
    Wr u sb o 9 ∧ SvM (putCells u sb o x) sb B { s with v := { s.v with grids := s.v.grids.set i g } } := by
  obtain ⟨⟨cs, hb, hc⟩, hB, hold⟩ := h
  obtain ⟨p, c, rfl, k3, k4, k5⟩ := hx.ex
  have hxl : (grV g p g.cells.length c).length = 9 := rfl
  obtain ⟨cs', P⟩ := put_to (cs := cs) (o := o) (ys := grV g p g.cells.length c) (by rw [hc.len, hxl]; omega)
  have hup := upd_put (u := u) sb o (grV g p g.cells.length c)
  refine ⟨by have := hb.wrAt P.put; rwa [hxl] at this, ⟨cs', hb.putAt P.put, ?_⟩, hB, fun k hk => by have := hold k hk; have := hup.size; omega⟩
  refine SvC.upd (S := (· = sb)) (u := u) ?_ hup fun k hk e => hk (e ▸ hB)
  obtain ⟨h1, ⟨p', c', h2, h3⟩, h4, h5, h6, h7, h8, h9, h10⟩ := hc
  have off := fun {a n : Nat} {y : List Value} (hd : a + n ≤ o ∨ o + 9 ≤ a) (hy : takeN cs a n = some y) => P.off (x := y) (by rw [hxl]; exact hd) hy
  refine ⟨by rw [P.len, h1], ⟨p', c', off (by omega) h2, h3⟩, fun j hj => ?_, off (by omega) h5, off (by omega) h6, off (by omega) h7, fun j hj => ?_, fun j hj => ?_, off (by omega) h10⟩
  · by_cases e : j = i
    · subst e
      obtain ⟨y, k1, _⟩ := h4 j hj
      have ylen := (takeN_get _ _ _ _ k1).1
      refine ⟨_, P.on k1 (by omega) (by rw [hxl]; omega) (by rw [show o - (1 + j * 9) = 0 by omega]; exact putN_all (by rw [ylen, hxl])), ?_⟩
      have : gridOf { s.v with grids := s.v.grids.set j g } j = g := by show (s.v.grids.set j g).getD j .zero = g; simp [List.getD_eq_getElem?_getD, hl, hj]
      rw [this]
      exact hx
    · obtain ⟨y, k1, k2⟩ := h4 j hj
      refine ⟨y, off (by omega) k1, ?_⟩
      have : gridOf { s.v with grids := s.v.grids.set i g } j = gridOf s.v j := by show (s.v.grids.set i g).getD j .zero = _; simp [List.getD_eq_getElem?_getD, List.getElem?_set_ne (fun h => e h.symm)]
      rw [this]
      exact k2
  · obtain ⟨y, k1, k2⟩ := h8 j hj
    exact ⟨y, off (by omega) k1, k2⟩
  · obtain ⟨y, k1, k2⟩ := h9 j hj
    exact ⟨y, off (by omega) k1, k2⟩

end Go.Proofs.YtkmmphkjmamckabDoor

/-
  The server's memory: what stores do.
-/
namespace Go.Proofs.YtkmmphkjmamckabDoor
open Go
set_option linter.all false

/-- wide is another number. -/
theorem SvM.setWide {u : World} {sb : Nat} {B : Nat → Prop} {s : Sv} (h : SvM u sb B s) (n : Int) {o : Nat} (ho : o = 55) :
    Wr u sb o 1 ∧ SvM (putCells u sb o [.int .i64 n]) sb B { s with v := { s.v with wide := n } } := by
  obtain ⟨⟨cs, hb, hc⟩, hB, hold⟩ := h
  have hxl : ([.int .i64 n] : List Value).length = 1 := rfl
  obtain ⟨cs', P⟩ := put_to (cs := cs) (o := o) (ys := [.int .i64 n]) (by rw [hc.len, hxl]; omega)
  have hup := upd_put (u := u) sb o [.int .i64 n]
  refine ⟨by have := hb.wrAt P.put; exact this, ⟨cs', hb.putAt P.put, ?_⟩, hB, fun k hk => by have := hold k hk; have := hup.size; omega⟩
  refine SvC.upd (S := (· = sb)) (u := u) ?_ hup fun k hk e => hk (e ▸ hB)
  obtain ⟨h1, ⟨p', c', h2, h3⟩, h4, h5, h6, h7, h8, h9, h10⟩ := hc
  have off := fun {a n : Nat} {y : List Value} (hd : a + n ≤ o ∨ o + 1 ≤ a) (hy : takeN cs a n = some y) => P.off (x := y) (by rw [hxl]; exact hd) hy
  have on1 : takeN cs' 55 1 = some [.int .i64 n] := P.on h5 (by omega) (by rw [hxl]; omega) (by rw [show o - 55 = 0 by omega]; exact putN_all rfl)
  exact ⟨by rw [P.len, h1], ⟨p', c', off (by omega) h2, h3⟩, fun j hj => (h4 j hj).imp fun y k => ⟨off (by omega) k.1, k.2⟩, on1, off (by omega) h6, off (by omega) h7, fun j hj => (h8 j hj).imp fun y k => ⟨off (by omega) k.1, k.2⟩, fun j hj => (h9 j hj).imp fun y k => ⟨off (by omega) k.1, k.2⟩, off (by omega) h10⟩

/-- high is another number. -/
theorem SvM.setHigh {u : World} {sb : Nat} {B : Nat → Prop} {s : Sv} (h : SvM u sb B s) (n : Int) {o : Nat} (ho : o = 56) :
    Wr u sb o 1 ∧ SvM (putCells u sb o [.int .i64 n]) sb B { s with v := { s.v with high := n } } := by
  obtain ⟨⟨cs, hb, hc⟩, hB, hold⟩ := h
  have hxl : ([.int .i64 n] : List Value).length = 1 := rfl
  obtain ⟨cs', P⟩ := put_to (cs := cs) (o := o) (ys := [.int .i64 n]) (by rw [hc.len, hxl]; omega)
  have hup := upd_put (u := u) sb o [.int .i64 n]
  refine ⟨by have := hb.wrAt P.put; exact this, ⟨cs', hb.putAt P.put, ?_⟩, hB, fun k hk => by have := hold k hk; have := hup.size; omega⟩
  refine SvC.upd (S := (· = sb)) (u := u) ?_ hup fun k hk e => hk (e ▸ hB)
  obtain ⟨h1, ⟨p', c', h2, h3⟩, h4, h5, h6, h7, h8, h9, h10⟩ := hc
  have off := fun {a n : Nat} {y : List Value} (hd : a + n ≤ o ∨ o + 1 ≤ a) (hy : takeN cs a n = some y) => P.off (x := y) (by rw [hxl]; exact hd) hy
  have on1 : takeN cs' 56 1 = some [.int .i64 n] := P.on h6 (by omega) (by rw [hxl]; omega) (by rw [show o - 56 = 0 by omega]; exact putN_all rfl)
  exact ⟨by rw [P.len, h1], ⟨p', c', off (by omega) h2, h3⟩, fun j hj => (h4 j hj).imp fun y k => ⟨off (by omega) k.1, k.2⟩, off (by omega) h5, on1, off (by omega) h7, fun j hj => (h8 j hj).imp fun y k => ⟨off (by omega) k.1, k.2⟩, fun j hj => (h9 j hj).imp fun y k => ⟨off (by omega) k.1, k.2⟩, off (by omega) h10⟩

/-- focus is another number. -/
theorem SvM.setFocus {u : World} {sb : Nat} {B : Nat → Prop} {s : Sv} (h : SvM u sb B s) (n : Int) {o : Nat} (ho : o = 57) :
    Wr u sb o 1 ∧ SvM (putCells u sb o [.int .i64 n]) sb B { s with v := { s.v with focus := n } } := by
  obtain ⟨⟨cs, hb, hc⟩, hB, hold⟩ := h
  have hxl : ([.int .i64 n] : List Value).length = 1 := rfl
  obtain ⟨cs', P⟩ := put_to (cs := cs) (o := o) (ys := [.int .i64 n]) (by rw [hc.len, hxl]; omega)
  have hup := upd_put (u := u) sb o [.int .i64 n]
  refine ⟨by have := hb.wrAt P.put; exact this, ⟨cs', hb.putAt P.put, ?_⟩, hB, fun k hk => by have := hold k hk; have := hup.size; omega⟩
  refine SvC.upd (S := (· = sb)) (u := u) ?_ hup fun k hk e => hk (e ▸ hB)
  obtain ⟨h1, ⟨p', c', h2, h3⟩, h4, h5, h6, h7, h8, h9, h10⟩ := hc
  have off := fun {a n : Nat} {y : List Value} (hd : a + n ≤ o ∨ o + 1 ≤ a) (hy : takeN cs a n = some y) => P.off (x := y) (by rw [hxl]; exact hd) hy
  have on1 : takeN cs' 57 1 = some [.int .i64 n] := P.on h7 (by omega) (by rw [hxl]; omega) (by rw [show o - 57 = 0 by omega]; exact putN_all rfl)
  exact ⟨by rw [P.len, h1], ⟨p', c', off (by omega) h2, h3⟩, fun j hj => (h4 j hj).imp fun y k => ⟨off (by omega) k.1, k.2⟩, off (by omega) h5, off (by omega) h6, on1, fun j hj => (h8 j hj).imp fun y k => ⟨off (by omega) k.1, k.2⟩, fun j hj => (h9 j hj).imp fun y k => ⟨off (by omega) k.1, k.2⟩, off (by omega) h10⟩

/-- acts is another number. -/
theorem SvM.setActs {u : World} {sb : Nat} {B : Nat → Prop} {s : Sv} (h : SvM u sb B s) (n : Int) {o : Nat} (ho : o = 118) :
    Wr u sb o 1 ∧ SvM (putCells u sb o [.int .i64 n]) sb B { s with acts := n } := by
  obtain ⟨⟨cs, hb, hc⟩, hB, hold⟩ := h
  have hxl : ([.int .i64 n] : List Value).length = 1 := rfl
  obtain ⟨cs', P⟩ := put_to (cs := cs) (o := o) (ys := [.int .i64 n]) (by rw [hc.len, hxl]; omega)
  have hup := upd_put (u := u) sb o [.int .i64 n]
  refine ⟨by have := hb.wrAt P.put; exact this, ⟨cs', hb.putAt P.put, ?_⟩, hB, fun k hk => by have := hold k hk; have := hup.size; omega⟩
  refine SvC.upd (S := (· = sb)) (u := u) ?_ hup fun k hk e => hk (e ▸ hB)
  obtain ⟨h1, ⟨p', c', h2, h3⟩, h4, h5, h6, h7, h8, h9, h10⟩ := hc
  have off := fun {a n : Nat} {y : List Value} (hd : a + n ≤ o ∨ o + 1 ≤ a) (hy : takeN cs a n = some y) => P.off (x := y) (by rw [hxl]; exact hd) hy
  have on1 : takeN cs' 118 1 = some [.int .i64 n] := P.on h10 (by omega) (by rw [hxl]; omega) (by rw [show o - 118 = 0 by omega]; exact putN_all rfl)
  exact ⟨by rw [P.len, h1], ⟨p', c', off (by omega) h2, h3⟩, fun j hj => (h4 j hj).imp fun y k => ⟨off (by omega) k.1, k.2⟩, off (by omega) h5, off (by omega) h6, off (by omega) h7, fun j hj => (h8 j hj).imp fun y k => ⟨off (by omega) k.1, k.2⟩, fun j hj => (h9 j hj).imp fun y k => ⟨off (by omega) k.1, k.2⟩, on1⟩

/-- The panes are laid out otherwise. -/
theorem SvM.setTiles {u : World} {sb : Nat} {B : Nat → Prop} {s : Sv} (h : SvM u sb B s) {t : Cols} {p : Option Addr} (c : Nat) (ht : TlF u (fun k => ¬ B k) p t) {o : Nat} (ho : o = 0) :
    Wr u sb o 1 ∧ SvM (putCells u sb o [.slice p t.length c]) sb B { s with v := { s.v with cols := t } } := by
  obtain ⟨⟨cs, hb, hc⟩, hB, hold⟩ := h
  have hxl : ([.slice p t.length c] : List Value).length = 1 := rfl
  obtain ⟨cs', P⟩ := put_to (cs := cs) (o := o) (ys := [.slice p t.length c]) (by rw [hc.len, hxl]; omega)
  have hup := upd_put (u := u) sb o [.slice p t.length c]
  refine ⟨by have := hb.wrAt P.put; exact this, ⟨cs', hb.putAt P.put, ?_⟩, hB, fun k hk => by have := hold k hk; have := hup.size; omega⟩
  refine SvC.upd (S := (· = sb)) (u := u) ?_ hup fun k hk e => hk (e ▸ hB)
  obtain ⟨h1, ⟨p', c', h2, h3⟩, h4, h5, h6, h7, h8, h9, h10⟩ := hc
  have off := fun {a n : Nat} {y : List Value} (hd : a + n ≤ o ∨ o + 1 ≤ a) (hy : takeN cs a n = some y) => P.off (x := y) (by rw [hxl]; exact hd) hy
  have on1 : takeN cs' 0 1 = some [.slice p t.length c] := P.on h2 (by omega) (by rw [hxl]; omega) (by rw [show o - 0 = 0 by omega]; exact putN_all rfl)
  exact ⟨by rw [P.len, h1], ⟨p, c, on1, ht⟩, fun j hj => (h4 j hj).imp fun y k => ⟨off (by omega) k.1, k.2⟩, off (by omega) h5, off (by omega) h6, off (by omega) h7, fun j hj => (h8 j hj).imp fun y k => ⟨off (by omega) k.1, k.2⟩, fun j hj => (h9 j hj).imp fun y k => ⟨off (by omega) k.1, k.2⟩, off (by omega) h10⟩

/-- One parser is another one. -/
theorem SvM.setParser {u : World} {sb : Nat} {B : Nat → Prop} {s : Sv} (h : SvM u sb B s) (hl : s.parsers.length = 6) {i : Nat} (hi : i < 6) {r : Pr} {x : List Value} (hx : PrAt u (fun k => ¬ B k) r x) {o : Nat} (ho : o = 58 + i * 4) :
    Wr u sb o 4 ∧ SvM (putCells u sb o x) sb B { s with parsers := s.parsers.set i r } := by
  obtain ⟨⟨cs, hb, hc⟩, hB, hold⟩ := h
  obtain ⟨p, n, c, rfl, k3, k4⟩ := hx.ex
  have hxl : ([.int .i64 r.at_, .slice p n c, .string r.pl, .bool r.long] : List Value).length = 4 := rfl
  obtain ⟨cs', P⟩ := put_to (cs := cs) (o := o) (ys := [.int .i64 r.at_, .slice p n c, .string r.pl, .bool r.long]) (by rw [hc.len, hxl]; omega)
  have hup := upd_put (u := u) sb o [.int .i64 r.at_, .slice p n c, .string r.pl, .bool r.long]
  refine ⟨by have := hb.wrAt P.put; exact this, ⟨cs', hb.putAt P.put, ?_⟩, hB, fun k hk => by have := hold k hk; have := hup.size; omega⟩
  refine SvC.upd (S := (· = sb)) (u := u) ?_ hup fun k hk e => hk (e ▸ hB)
  obtain ⟨h1, ⟨p', c', h2, h3⟩, h4, h5, h6, h7, h8, h9, h10⟩ := hc
  have off := fun {a n : Nat} {y : List Value} (hd : a + n ≤ o ∨ o + 4 ≤ a) (hy : takeN cs a n = some y) => P.off (x := y) (by rw [hxl]; exact hd) hy
  refine ⟨by rw [P.len, h1], ⟨p', c', off (by omega) h2, h3⟩, fun j hj => (h4 j hj).imp fun y k => ⟨off (by omega) k.1, k.2⟩, off (by omega) h5, off (by omega) h6, off (by omega) h7, fun j hj => ?_, fun j hj => (h9 j hj).imp fun y k => ⟨off (by omega) k.1, k.2⟩, off (by omega) h10⟩
  by_cases e : j = i
  · subst e
    obtain ⟨y, k1, _⟩ := h8 j hj
    have ylen := (takeN_get _ _ _ _ k1).1
    refine ⟨_, P.on k1 (by omega) (by rw [hxl]; omega) (by rw [show o - (58 + j * 4) = 0 by omega]; exact putN_all (by rw [ylen, hxl])), ?_⟩
    have : parserOf { s with parsers := s.parsers.set j r } j = r := by show (s.parsers.set j r).getD j .zero = r; simp [List.getD_eq_getElem?_getD, hl, hj]
    rw [this]
    exact hx
  · obtain ⟨y, k1, k2⟩ := h8 j hj
    refine ⟨y, off (by omega) k1, ?_⟩
    have : parserOf { s with parsers := s.parsers.set i r } j = parserOf s j := by show (s.parsers.set i r).getD j .zero = _; simp [List.getD_eq_getElem?_getD, List.getElem?_set_ne (fun h => e h.symm)]
    rw [this]
    exact k2

/-- One client is another one; a part of it may be stored alone. -/
theorem SvM.setClient {u : World} {sb : Nat} {B : Nat → Prop} {s : Sv} (h : SvM u sb B s) (hl : s.clients.length = 3) {i : Nat} (hi : i < 3) {r : Ct} {a m : Nat} {ys : List Value} (hys : ys.length = m) (ham : a + m ≤ 12)
    (hx : ∀ x, CtAt u (fun k => ¬ B k) (clientOf s i) x → ∃ x', putN x a ys = some x' ∧ CtAt u (fun k => ¬ B k) r x') {o : Nat} (ho : o = 82 + i * 12 + a) :
    Wr u sb o m ∧ SvM (putCells u sb o ys) sb B { s with clients := s.clients.set i r } := by
  obtain ⟨⟨cs, hb, hc⟩, hB, hold⟩ := h
  have hxl : ys.length = m := hys
  obtain ⟨cs', P⟩ := put_to (cs := cs) (o := o) (ys := ys) (by rw [hc.len, hxl]; omega)
  have hup := upd_put (u := u) sb o ys
  refine ⟨by have := hb.wrAt P.put; rwa [hxl] at this, ⟨cs', hb.putAt P.put, ?_⟩, hB, fun k hk => by have := hold k hk; have := hup.size; omega⟩
  refine SvC.upd (S := (· = sb)) (u := u) ?_ hup fun k hk e => hk (e ▸ hB)
  obtain ⟨h1, ⟨p', c', h2, h3⟩, h4, h5, h6, h7, h8, h9, h10⟩ := hc
  have off := fun {a n : Nat} {y : List Value} (hd : a + n ≤ o ∨ o + m ≤ a) (hy : takeN cs a n = some y) => P.off (x := y) (by rw [hxl]; exact hd) hy
  refine ⟨by rw [P.len, h1], ⟨p', c', off (by omega) h2, h3⟩, fun j hj => (h4 j hj).imp fun y k => ⟨off (by omega) k.1, k.2⟩, off (by omega) h5, off (by omega) h6, off (by omega) h7, fun j hj => (h8 j hj).imp fun y k => ⟨off (by omega) k.1, k.2⟩, fun j hj => ?_, off (by omega) h10⟩
  by_cases e : j = i
  · subst e
    obtain ⟨y, k1, k2⟩ := h9 j hj
    obtain ⟨x', p1, p2⟩ := hx y k2
    refine ⟨x', P.on k1 (by omega) (by rw [hxl]; omega) (by rw [show o - (82 + j * 12) = a by omega]; exact p1), ?_⟩
    have : clientOf { s with clients := s.clients.set j r } j = r := by show (s.clients.set j r).getD j .zero = r; simp [List.getD_eq_getElem?_getD, hl, hj]
    rw [this]
    exact p2
  · obtain ⟨y, k1, k2⟩ := h9 j hj
    refine ⟨y, off (by omega) k1, ?_⟩
    have : clientOf { s with clients := s.clients.set i r } j = clientOf s j := by show (s.clients.set i r).getD j .zero = _; simp [List.getD_eq_getElem?_getD, List.getElem?_set_ne (fun h => e h.symm)]
    rw [this]
    exact k2

end Go.Proofs.YtkmmphkjmamckabDoor

