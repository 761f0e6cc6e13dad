/-
  The document's own screens, on: rows, rolling, the next row.
-/
import Derived.Test.YtkmmphkjmamckabGRef
import Derived.Test.YtkmmphkjmamckabGSameR
import Derived.Test.YtkmmphkjmamckabZP
namespace Go.Proofs.Ytkmmphkjmamckab
open Go
set_option linter.all false

theorem sameGrid_ok {u : World} {a b : Gr} {p q : Option Addr} (ha : Cells u p a.cells) (hb : Cells u q b.cells) (c d : Nat) (hl : a.cells.length ≤ 100000000) :
    Spec Try.prog fn_fenestraref_SameGrid #[GrV a p a.cells.length c, GrV b q b.cells.length d] u (Told u (sameGb a b)) := by
  apply vc_fenestraref_SameGrid_spec
  unfold vc_fenestraref_SameGrid
  simp only [decide_eq_true_eq, decide_eq_false_iff_not, beq_iff_eq, beq_eq_false_iff_ne, ne_eq]
  have hu : Ext u (allocW (allocW u hole) hole) := ((Upd.refl u).alloc _).alloc _
  refine (sameCells_ok_r (ha.ext hu) (hb.ext hu) c d hl).mono fun e u1 ⟨he, hu1⟩ => ⟨_, he, ?_⟩
  have x := hu.ext hu1
  have no : ¬ (a.wide = b.wide ∧ a.high = b.high ∧ a.cells = b.cells ∧ a.row = b.row ∧ a.col = b.col ∧ a.ink = b.ink ∧ a.bold = b.bold ∧ a.top = b.top ∧ a.bottom = b.bottom) → Told u (sameGb a b) (.returned (.bool false)) u1 := fun hn => ⟨by unfold sameGb; rw [decide_eq_false hn], x⟩
  refine ⟨fun hs => ⟨fun h1 => ⟨fun h2 => ⟨fun h3 => ⟨fun h4 => ⟨fun h5 => ?_, fun hn => no fun h => hn h.2.2.2.2.2.2.2.1⟩, fun hn => no fun h => hn h.2.2.2.2.2.2.1⟩, fun hn => no fun h => hn h.2.2.2.2.2.1⟩, fun hn => no fun h => hn h.2.2.2.2.1⟩, fun hn => no fun h => hn h.2.2.2.1⟩, fun hn => no fun h => ?_⟩
  · unfold sameC_r at hs
    rw [decide_eq_true_eq] at hs
    refine ⟨?_, x⟩
    congr 2
    unfold sameGb
    exact decide_eq_decide.2 ⟨fun h => ⟨hs.1, hs.2.1, hs.2.2, h1, h2, h3, h4, h5, h⟩, fun h => h.2.2.2.2.2.2.2.2⟩
  · unfold sameC_r at hn
    rw [decide_eq_false_iff_not] at hn
    exact hn ⟨h.1, h.2.1, h.2.2.1⟩

/-! ### Rows -/

/-- Rows of cells, by their slices, in blocks that are ok. -/
def RowsV (u : World) (ok : Nat → Prop) : List (List Value) → List (List Cl) → Prop
  | [], [] => True
  | x :: xs, l :: ls => (∃ q c, x = [.slice q l.length c] ∧ Cells u q l ∧ ∀ k, At q k → ok k) ∧ RowsV u ok xs ls
  | _, _ => False

section
variable {u u' : World} {ok ok' : Nat → Prop}

theorem RowsV.len : ∀ {xs : List (List Value)} {ls : List (List Cl)}, RowsV u ok xs ls → xs.length = ls.length
  | [], [], _ => rfl
  | _ :: _, _ :: _, h => by simp only [List.length_cons, RowsV.len h.2]

theorem RowsV.each : ∀ {xs : List (List Value)} {ls : List (List Cl)}, RowsV u ok xs ls → ∀ y ∈ xs, y.length = 1
  | x :: xs, l :: ls, h, y, hy => by
    rcases List.mem_cons.1 hy with rfl | hy
    · obtain ⟨_, _, rfl, _⟩ := h.1
      rfl
    · exact RowsV.each h.2 y hy
  | [], [], _, _, hy => by simp at hy

theorem RowsV.upd {S : Nat → Prop} (hu : Upd S u u') (hok : ∀ k, ok k → ¬ S k ∧ ok' k) : ∀ {xs : List (List Value)} {ls : List (List Cl)}, RowsV u ok xs ls → RowsV u' ok' xs ls
  | [], [], _ => trivial
  | x :: xs, l :: ls, h => ⟨by
    obtain ⟨q, c, h1, h2, h3⟩ := h.1
    exact ⟨q, c, h1, h2.upd hu fun k hk => (hok k (h3 k hk)).1, fun k hk => (hok k (h3 k hk)).2⟩, RowsV.upd hu hok h.2⟩

theorem RowsV.snoc {q : Option Addr} {c : Nat} {l : List Cl} (hq : Cells u q l) (hk : ∀ k, At q k → ok k) : ∀ {xs : List (List Value)} {ls : List (List Cl)}, RowsV u ok xs ls → RowsV u ok (xs ++ [[.slice q l.length c]]) (ls ++ [l])
  | [], [], _ => ⟨⟨q, c, rfl, hq, hk⟩, trivial⟩
  | _ :: _, _ :: _, h => ⟨h.1, RowsV.snoc hq hk h.2⟩

theorem RowsV.at : ∀ {xs : List (List Value)} {ls : List (List Cl)} {i : Nat}, RowsV u ok xs ls → i < ls.length → ∃ q c, xs.getD i [] = [.slice q (ls.getD i []).length c] ∧ Cells u q (ls.getD i []) ∧ ∀ k, At q k → ok k
  | x :: xs, l :: ls, 0, h, _ => by simpa using h.1
  | x :: xs, l :: ls, i + 1, h, hi => by simpa using RowsV.at (i := i) h.2 (by simpa using hi)
  | [], [], _, _, hi => by simp at hi

end

/-- A list of rows of one's own. -/
structure RowsO (u0 u : World) (p : Option Addr) (n c : Nat) (xs : List (List Value)) (ls : List (List Cl)) : Prop where
  own : Own u 1 p n c xs.flatten
  rows : RowsV u (fun k => k < u.heap.size ∧ ¬ At p k) xs ls
  len : ls.length = n
  new : ∀ k, At p k → u0.heap.size ≤ k

theorem RowsO.ext {u0 u u' : World} {p : Option Addr} {n c : Nat} {xs : List (List Value)} {ls : List (List Cl)} (h : RowsO u0 u p n c xs ls) (hu : Ext u u') : RowsO u0 u' p n c xs ls :=
  ⟨h.own.ext hu, h.rows.upd hu fun k hk => ⟨fun h => h, by have := hu.size; exact ⟨by omega, hk.2⟩⟩, h.len, h.new⟩

/-- One row more. -/
theorem RowsO.push {u0 v : World} {p : Option Addr} {n c : Nat} {xs : List (List Value)} {ls : List (List Cl)} (h : RowsO u0 v p n c xs ls) (h0 : u0.heap.size ≤ v.heap.size) (hn : n ≤ 1000) {q : Option Addr} {cq : Nat} {l : List Cl} (hq : Cells v q l) (hk : ∀ k, At q k → k < v.heap.size ∧ ¬ At p k) (t e : TypeId) {K : Option Addr → Nat → World → Prop}
    (hK : ∀ p' c' w, RowsO u0 w p' (n + 1) c' (xs ++ [[.slice q l.length cq]]) (ls ++ [l]) → Upd (At p) v w → K p' c' w) :
    ∃ old new : List Value, old.length = n * 1 ∧ Gets (allocW v (.cells #[.slice q l.length cq] t)) p old ∧ new.length = 1 * 1 ∧ Gets (allocW v (.cells #[.slice q l.length cq] t)) (some (Addr.mk v.heap.size 0 none)) new ∧
      0 < 24 ∧ (2 * (n + 1) + 192) * 24 ≤ 140737488355328 ∧ okCells new True ∧ (n + 1 ≤ c → WrS (allocW v (.cells #[.slice q l.length cq] t)) p (n * 1) (1 * 1)) ∧
      ∀ p' cap u2, AppR (allocW v (.cells #[.slice q l.length cq] t)) e 1 [.slice none 0 0] p n c 1 old new p' cap u2 → K p' cap u2 := by
  have hv : Ext v (allocW v (.cells #[.slice q l.length cq] t)) := (Upd.refl v).alloc _
  have hh := h.ext hv
  have ef : Own (allocW v (.cells #[.slice q l.length cq] t)) 1 _ 1 1 [.slice q l.length cq] := Own.fresh v (cs := [.slice q l.length cq]) rfl
  refine ⟨xs.flatten, [.slice q l.length cq], hh.own.len, hh.own.gets, rfl, ef.gets, by decide, by omega, by simp [okCells], fun hc => hh.own.wrs (by omega), fun p' cap u2 hr => ?_⟩
  obtain ⟨a1, a2, a3⟩ := hh.own.app hr hh.own.len hh.own.gets rfl rfl
  have hvs := hv.size
  have has := a2.size
  have hvs2 : (allocW v (.cells #[.slice q l.length cq] t)).heap.size = v.heap.size + 1 := size_alloc _ _
  have hp' : ∀ k, At p' k → At p k ∨ v.heap.size < k := fun k hk1 => by
    rcases a3 with ⟨rfl, _⟩ | ⟨rfl, _⟩
    · exact .inl hk1
    · rw [at_some hk1]; right; show v.heap.size < (allocW v _).heap.size; omega
  have hok : ∀ k, k < v.heap.size ∧ ¬ At p k → k < u2.heap.size ∧ ¬ At p' k := fun k hk => ⟨by omega, fun h => (hp' k h).elim hk.2 (by omega)⟩
  have hup : Upd (At p) v u2 := (hv.any (S := At p)).trans a2 fun _ _ h => h
  refine hK p' cap u2 ⟨?_, ?_, by simp [h.len], fun k hk1 => ?_⟩ hup
  · rw [List.flatten_append]
    simpa using a1
  · exact RowsV.snoc ((hq.upd hup fun k hk1 => (hk k hk1).2)) (fun k hk1 => hok k (hk k hk1)) (h.rows.upd hup fun k hk1 => ⟨hk1.2, hok k hk1⟩)
  · rcases hp' k hk1 with h1 | h1
    · exact h.new k h1
    · omega

def rowC (g : Gr) (r : Nat) : List Cl := (g.cells.drop (r * g.wide.toNat)).take g.wide.toNat

theorem rowC_len {g : Gr} (hg : GoodG g) {r : Nat} (hr : (r : Int) < g.high) : (rowC g r).length = g.wide.toNat := by
  have h1 := row_facts hg (r := r + 1) (by omega) (by omega)
  have e : ((r : Int) + 1).toNat * g.wide.toNat = r * g.wide.toNat + g.wide.toNat := by rw [show ((r : Int) + 1).toNat = r + 1 by omega, Nat.add_mul, Nat.one_mul]
  unfold rowC
  rw [List.length_take, List.length_drop]
  omega

theorem gets_cut {u : World} {b o : Nat} {l : List Cl} (h : Cells u (some ⟨b, o, none⟩) l) {c i k : Nat} (hik : i + k ≤ l.length) (hc : c ≠ i) : Gets u (if c = i then some (Addr.mk b o none) else Option.map (fun a => Addr.add a (i * 4)) (some ⟨b, o, none⟩)) (cellsV ((l.drop i).take k)) := by
  rw [if_neg hc, map_add]
  exact (h.sub hik).gets

theorem rowsOf_ok {u : World} {g : Gr} {p : Option Addr} (h : Cells u p g.cells) {c : Nat} (hc : g.cells.length ≤ c) (hg : GoodG g) :
    Spec Try.prog fn_fenestraref_rowsOf #[GrV g p g.cells.length c] u fun e u' => ∃ q n cap xs, e = .returned (.slice q n cap) ∧ RowsO u u' q n cap xs ((List.range g.high.toNat).map (rowC g)) ∧ n = g.high.toNat ∧ Ext u u' := by
  apply vc_fenestraref_rowsOf_spec
  unfold vc_fenestraref_rowsOf
  simp only [decide_eq_true_eq, decide_eq_false_iff_not, true_and]
  have hu : Ext u (allocW u hole) := (Upd.refl u).alloc _
  have hw1 := hg.w1
  have hw2 := hg.w2
  have hh1 := hg.h1
  have hh2 := hg.h2
  refine ⟨fun q n cap x u1 => ∃ xs, RowsO u u1 q n cap xs ((List.range x.toNat).map (rowC g)) ∧ n = x.toNat ∧ Ext u u1 ∧ 0 ≤ x ∧ x ≤ g.high, fun _ _ _ x _ => (g.high - x).toNat,
    ⟨[], ⟨Own.nil _ _, trivial, rfl, fun k hk => (at_none hk).elim⟩, rfl, hu, Int.le_refl _, by omega⟩, ?_⟩
  rintro q n cap x u1 ⟨xs, hR, rfl, hu1, h0, h1⟩
  refine ⟨fun hx => ?_, fun hx => ⟨q, x.toNat, cap, xs, rfl, by rw [show g.high.toNat = x.toNat by omega]; exact hR, by omega, hu1⟩⟩
  have r0 := row_facts hg h0 h1
  have r1 := row_facts hg (r := x + 1) (by omega) (by omega)
  have e1 := succ_mul' x g.wide
  have hfew := few_cells hg
  have hm : ((x + 1) * g.wide).toNat - (x * g.wide).toNat = g.wide.toNat := by omega
  have hrow : rowC g x.toNat = (g.cells.drop (x * g.wide).toNat).take g.wide.toNat := by unfold rowC; rw [← r0.2.2.2]
  have hrl := rowC_len hg (r := x.toNat) (by omega)
  obtain ⟨b, o, hp, _⟩ := h.at (i := 0) (by omega)
  subst hp
  refine ⟨by simp only [inK]; omega, by simp only [inK]; omega, by simp only [inK]; omega, r0.1, by omega, by omega, ?_⟩
  rw [hm]
  refine ⟨[], cellsV (rowC g x.toNat), rfl, rfl, by rw [cellsV_len, hrl], ?_, by decide, by omega, (cellsV_ok _ _).2 trivial, fun _ => trivial, fun p1 cap1 u2 hr => ?_⟩
  · rw [hrow]
    exact gets_cut (h.ext hu1) (by omega) (by omega)
  · obtain ⟨o1, x1, o3⟩ := AppR.none hr rfl (by rw [cellsV_len, hrl]) rfl
    rw [Nat.zero_add] at o1 ⊢
    have hp1 : p1 = some ⟨u1.heap.size, 0, none⟩ := o3.resolve_left fun hh => by omega
    subst hp1
    have hlt : u1.heap.size < u2.heap.size := (o1.at ⟨_, rfl, rfl⟩).1
    have hql : ∀ k, At q k → k < u1.heap.size := fun k hk => (hR.own.at hk).1
    have hu2 := hu1.ext x1
    have hrc : Cells u2 (some ⟨u1.heap.size, 0, none⟩) (rowC g x.toNat) := ⟨o1.gets⟩
    have hpush := (hR.ext x1).push (cq := cap1) hu2.size (by omega) hrc (fun k hk => by rw [at_some hk]; exact ⟨hlt, fun hq => by have := hql _ hq; simp only at this; omega⟩) ty_sl_api_Cell ty_sl_api_Cell
      (K := fun p2 cap2 u3 => inK .i64 (x + 1) ∧ (∃ xs, RowsO u u3 p2 (x.toNat + 1) cap2 xs ((List.range (x + 1).toNat).map (rowC g)) ∧ x.toNat + 1 = (x + 1).toNat ∧ Ext u u3 ∧ 0 ≤ x + 1 ∧ x + 1 ≤ g.high) ∧ (g.high - (x + 1)).toNat < (g.high - x).toNat) fun p2 cap2 u3 hR3 hu3 => by
        refine ⟨by simp only [inK]; omega, ⟨xs ++ [[.slice (some ⟨u1.heap.size, 0, none⟩) (rowC g x.toNat).length cap1]], ?_, by omega, (hu2.trans hu3 fun k hk hq => by have := hR.new k hq; omega).mono fun _ _ h => h, by omega, by omega⟩, by omega⟩
        rw [show (x + 1).toNat = x.toNat + 1 by omega, List.range_succ, List.map_append]
        exact hR3
    rw [hrl] at hpush
    exact hpush

end Go.Proofs.Ytkmmphkjmamckab
