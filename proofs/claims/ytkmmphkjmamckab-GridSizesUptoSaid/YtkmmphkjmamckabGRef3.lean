/-
  The document's own screens, on: rolling, the next row, a picture.
-/
import Derived.Test.YtkmmphkjmamckabGRef2
namespace Go.Proofs.Ytkmmphkjmamckab
open Go
set_option linter.all false

theorem flat_cg {w : Nat} : ∀ (ls : List (List Cl)) (q s : Nat), (∀ l ∈ ls, l.length = w) → q < ls.length → s < w → cg ls.flatten (q * w + s) = cg (ls.getD q []) s
  | [], q, s, _, hq, _ => by simp at hq
  | l :: ls, 0, s, h, _, hs => by
    rw [List.flatten_cons, cg_append, Nat.zero_mul, Nat.zero_add, if_pos (by rw [h l List.mem_cons_self]; exact hs)]
    rfl
  | l :: ls, q + 1, s, h, hq, hs => by
    have hl := h l List.mem_cons_self
    rw [List.flatten_cons, cg_append, hl, Nat.add_mul, Nat.one_mul, if_neg (by omega), show q * w + w + s - w = q * w + s by omega]
    rw [flat_cg ls q s (fun m hm => h m (List.mem_cons_of_mem _ hm)) (by simpa using hq) hs]
    rfl

theorem flat_len {w : Nat} : ∀ (ls : List (List Cl)), (∀ l ∈ ls, l.length = w) → ls.flatten.length = ls.length * w
  | [], _ => by simp
  | l :: ls, h => by
    rw [List.flatten_cons, List.length_append, flat_len ls fun m hm => h m (List.mem_cons_of_mem _ hm), h l List.mem_cons_self, List.length_cons, Nat.add_mul, Nat.one_mul]
    omega

def rollRow (g : Gr) (fr to n : Int) (r : Nat) : List Cl :=
  if (r : Int) < fr ∨ to ≤ r then rowC g r
  else if fr ≤ (r : Int) + n ∧ (r : Int) + n < to then rowC g ((r : Int) + n).toNat
  else List.replicate g.wide.toNat .z

theorem rollRow_len {g : Gr} (hg : GoodG g) {fr to n : Int} (h0 : 0 ≤ fr) (h1 : to ≤ g.high) {r : Nat} (hr : (r : Int) < g.high) : (rollRow g fr to n r).length = g.wide.toNat := by
  unfold rollRow
  split
  · exact rowC_len hg hr
  · split
    · exact rowC_len hg (by omega)
    · simp

theorem rowC_cg {g : Gr} {r s : Nat} (hs : s < g.wide.toNat) : cg (rowC g r) s = cg g.cells (r * g.wide.toNat + s) := by
  unfold rowC
  rw [cg_take hs, cg_drop]

theorem roll_rows {g : Gr} (hg : GoodG g) {fr to n : Int} (h0 : 0 ≤ fr) (h1 : to ≤ g.high) : (rollG g fr to n).cells = ((List.range g.high.toNat).map (rollRow g fr to n)).flatten := by
  have hw1 := hg.w1
  have hh1 := hg.h1
  have hlen : ∀ l ∈ (List.range g.high.toNat).map (rollRow g fr to n), l.length = g.wide.toNat := fun l hl => by
    obtain ⟨r, hr, rfl⟩ := List.mem_map.1 hl
    exact rollRow_len hg h0 h1 (by have := List.mem_range.1 hr; omega)
  have hc := cells_len' hg
  refine cg_ext ?_ fun i hi => ?_
  · show (rollC _ _ _ _ _).length = _
    rw [rollC_len, flat_len _ hlen, hc]
    simp
  · have hi : i < g.cells.length := by
      have : (rollG g fr to n).cells.length = g.cells.length := rollC_len _ _ _ _ _
      omega
    show cg (rollC _ _ _ _ _) i = _
    obtain ⟨q, s, hs, he, hq, hm⟩ := split_row (i := i) (w := g.wide.toNat) (by omega)
    rw [hc, he] at hi
    have hqh : q < g.high.toNat := by
      apply Nat.lt_of_mul_lt_mul_right (a := g.wide.toNat)
      omega
    rw [roll_cg (by rw [hc, he]; exact hi), hq]
    conv => rhs; rw [he]
    rw [flat_cg _ q s hlen (by simp; omega) hs]
    have hgd : ((List.range g.high.toNat).map (rollRow g fr to n)).getD q [] = rollRow g fr to n q := by
      simp [List.getD_eq_getElem?_getD, hqh]
    rw [hgd]
    unfold rollRow
    by_cases c1 : (q : Int) < fr ∨ to ≤ q
    · rw [if_pos (by omega), if_pos c1, rowC_cg hs, he]
    · rw [if_neg (by omega), if_neg c1]
      by_cases c2 : fr ≤ (q : Int) + n ∧ (q : Int) + n < to
      · rw [if_pos (by omega), if_pos c2, rowC_cg hs]
        rw [he, row_src (by omega)]
      · rw [if_neg (by omega), if_neg c2, cg_repl]

theorem RowsV.okc {u : World} {ok : Nat → Prop} : ∀ {xs : List (List Value)} {ls : List (List Cl)}, RowsV u ok xs ls → okCells xs.flatten True
  | [], [], _ => trivial
  | x :: xs, l :: ls, h => by
    obtain ⟨q, c, rfl, _⟩ := h.1
    have := RowsV.okc h.2
    simpa [okCells] using this

theorem RowsO.at {u0 u : World} {p : Option Addr} {n c : Nat} {xs : List (List Value)} {ls : List (List Cl)} (h : RowsO u0 u p n c xs ls) {i : Nat} (hi : i < n) : ∃ b o q cq, p = some ⟨b, o, none⟩ ∧ Rd u b (o + i * 1) [.slice q (ls.getD i []).length cq] ∧ Cells u q (ls.getD i []) ∧ ∀ k, At q k → k < u.heap.size ∧ ¬ At p k := by
  have hA : Arr u 1 p n xs := ⟨h.own.gets, by rw [h.rows.len, h.len], h.rows.each⟩
  obtain ⟨b, o, hp, hr⟩ := hA.at hi (by decide)
  obtain ⟨q, cq, h1, h2, h3⟩ := h.rows.at (i := i) (by rw [h.len]; exact hi)
  rw [h1] at hr
  exact ⟨b, o, q, cq, hp, hr, h2, h3⟩

theorem take_succ_flat (ls : List (List Cl)) {i : Nat} (h : i < ls.length) : (ls.take (i + 1)).flatten = (ls.take i).flatten ++ ls.getD i [] := by
  rw [List.take_succ, List.getElem?_eq_getElem h, List.flatten_append]
  simp [List.getD_eq_getElem?_getD, List.getElem?_eq_getElem h]

theorem rowsIn_ok {u0 u : World} {g : Gr} {p : Option Addr} {m c : Nat} {q : Option Addr} {n cap : Nat} {xs : List (List Value)} {ls : List (List Cl)} (h : RowsO u0 u q n cap xs ls) (hn : n ≤ 1000) (hw : ∀ l ∈ ls, l.length ≤ 1000) :
    Spec Try.prog fn_fenestraref_rowsIn #[GrV g p m c, .slice q n cap] u (OwnPost u { g with cells := ls.flatten }) := by
  apply vc_fenestraref_rowsIn_spec
  unfold vc_fenestraref_rowsIn
  simp only [decide_eq_true_eq, decide_eq_false_iff_not, true_and]
  have hu : Ext u (allocW (allocW u hole) hole) := ((Upd.refl u).alloc _).alloc _
  have hlt : ∀ i : Nat, i ≤ ls.length → (ls.take i).flatten.length ≤ i * 1000 := fun i => by
    induction i with
    | zero => intro _; simp
    | succ i ih =>
      intro hi
      rw [take_succ_flat ls (by omega), List.length_append]
      have := ih (by omega)
      have := hw (ls.getD i []) (by rw [List.getD_eq_getElem?_getD, List.getElem?_eq_getElem (by omega)]; exact List.getElem_mem _)
      omega
  refine ⟨fun x wide high gp gn gc row col ink bold top bottom u1 => Ext u u1 ∧ 0 ≤ x ∧ x ≤ n ∧ gn = ((ls.take x.toNat).flatten).length ∧ Own u1 4 gp gn gc (cellsV ((ls.take x.toNat).flatten)) ∧ (∀ k, At gp k → u.heap.size ≤ k) ∧ wide = g.wide ∧ high = g.high ∧ row = g.row ∧ col = g.col ∧ ink = g.ink ∧ bold = g.bold ∧ top = g.top ∧ bottom = g.bottom,
    fun x _ _ _ _ _ _ _ _ _ _ _ _ => (n - x).toNat, ⟨hu, Int.le_refl _, by omega, by simp, by simp [cellsV]; exact Own.nil _ _, fun k hk => (at_none hk).elim, rfl, rfl, rfl, rfl, rfl, rfl, rfl, rfl⟩, ?_⟩
  rintro x wide high gp gn gc row col ink bold top bottom u1 ⟨hu1, h0, h1, rfl, ho, hk, rfl, rfl, rfl, rfl, rfl, rfl, rfl, rfl⟩
  have hln := h.len
  refine ⟨fun hx => ?_, fun hx => ?_⟩
  · obtain ⟨b, o, r, cr, hq, hr, hc, hkr⟩ := (h.ext hu1).at (i := x.toNat) (by omega)
    have hb := hlt x.toNat (by omega)
    have hrl := hw (ls.getD x.toNat []) (by rw [List.getD_eq_getElem?_getD, List.getElem?_eq_getElem (by omega)]; exact List.getElem_mem _)
    refine ⟨b, o, hq, h0, hx, _, _, _, rfl, hr, cellsV ((ls.take x.toNat).flatten), cellsV (ls.getD x.toNat []), ho.len, ho.gets, cellsV_len _, hc.gets, by decide, by omega, (cellsV_ok _ _).2 trivial, fun hcc => ho.wrs (by omega), fun p' cap' u2 hr2 => ?_⟩
    obtain ⟨a1, a2, a3⟩ := ho.app hr2 ho.len ho.gets (cellsV_len _) rfl
    have hx1 : (x + 1).toNat = x.toNat + 1 := by omega
    refine ⟨by simp only [inK]; omega, ⟨(hu1.trans a2 fun k hk' hat => by have := hk k hat; omega).mono fun _ _ h => h, by omega, by omega, ?_, ?_, fun k hk' => ?_, rfl, rfl, rfl, rfl, rfl, rfl, rfl, rfl⟩, by first | omega | (dsimp only; omega)⟩
    · rw [hx1, take_succ_flat ls (by omega), List.length_append]
    · rw [hx1, take_succ_flat ls (by omega), cellsV_append]
      exact a1
    · rcases a3 with ⟨rfl, _⟩ | ⟨rfl, _⟩
      · exact hk k hk'
      · rw [at_some hk']; exact hu1.size
  · rw [List.take_of_length_le (by omega)] at ho ⊢
    exact ⟨⟨gp, gc, rfl, ho, hk⟩, hu1⟩

abbrev RollK (u1 : World) (g : Gr) (fr to n x : Int) (p' : Option Addr) (c' : Nat) (w : World) : Prop :=
  inK .i64 (x + 1) ∧ (∃ ys, RowsO u1 w p' (x.toNat + 1) c' ys ((List.range (x + 1).toNat).map (rollRow g fr to n)) ∧ x.toNat + 1 = (x + 1).toNat ∧ Ext u1 w ∧ 0 ≤ x + 1 ∧ x + 1 ≤ g.high) ∧ (g.high - (x + 1)).toNat < (g.high - x).toNat

theorem roll_ok {u : World} {g : Gr} {p : Option Addr} (h : Cells u p g.cells) {c : Nat} (hc : g.cells.length ≤ c) (hg : GoodG g) {fr to n : Int} (h0 : 0 ≤ fr) (h1 : to ≤ g.high) (hn0 : -100000 ≤ n) (hn1 : n ≤ 100000) :
    Spec Try.prog fn_fenestraref_roll #[GrV g p g.cells.length c, .int .i64 fr, .int .i64 to, .int .i64 n] u (OwnPost u (rollG g fr to n)) := by
  apply vc_fenestraref_roll_spec
  unfold vc_fenestraref_roll
  simp only [decide_eq_true_eq, decide_eq_false_iff_not, true_and]
  have hu : Ext u (allocW (allocW u hole) hole) := ((Upd.refl u).alloc _).alloc _
  have hw1 := hg.w1
  have hw2 := hg.w2
  have hh1 := hg.h1
  have hh2 := hg.h2
  refine (rowsOf_ok (h.ext hu) hc hg).mono fun e u1 ⟨q, qn, cap, xs, he, hR, hqn, hu1⟩ => ⟨_, _, _, he, ?_⟩
  have x1 := hu.ext hu1
  refine ⟨fun op on oc x v => ∃ ys, RowsO u1 v op on oc ys ((List.range x.toNat).map (rollRow g fr to n)) ∧ on = x.toNat ∧ Ext u1 v ∧ 0 ≤ x ∧ x ≤ g.high, fun _ _ _ x _ => (g.high - x).toNat,
    ⟨[], ⟨Own.nil _ _, trivial, rfl, fun k hk => (at_none hk).elim⟩, rfl, Upd.refl _, Int.le_refl _, by omega⟩, ?_⟩
  rintro op on oc x v ⟨ys, hO, rfl, hv, hx0, hx1⟩
  refine ⟨fun hx => ?_, fun hx => ?_⟩
  · have hx1' : (x + 1).toNat = x.toNat + 1 := by omega
    have grow : ∀ {w : World} {l : List Cl} {p' : Option Addr} {c' : Nat} {ys' : List (List Value)}, l = rollRow g fr to n x.toNat → Ext u1 w → RowsO u1 w p' (x.toNat + 1) c' ys' ((List.range x.toNat).map (rollRow g fr to n) ++ [l]) → RollK u1 g fr to n x p' c' w := fun {w l p' c' ys'} hl hw hR3 => by
      refine ⟨by simp only [inK]; omega, ⟨ys', ?_, hx1'.symm, hw, by omega, by omega⟩, by omega⟩
      rw [hx1', List.range_succ, List.map_append, List.map_singleton, ← hl]
      exact hR3
    have out : ∀ {w v' : World}, Ext v v' → Upd (At op) v' w → Ext u1 w := fun hv' hw => ((hv.ext hv').trans hw fun k hk ho => by have := hO.new k ho; omega).mono fun _ _ h => h
    -- a row of the screen's own
    have take : ∀ r : Nat, (r : Int) < g.high → ∃ b o q' cq, q = some ⟨b, o, none⟩ ∧ Rd v b (o + r * 1) [.slice q' (rowC g r).length cq] ∧ Cells v q' (rowC g r) ∧ ∀ k, At q' k → k < v.heap.size ∧ ¬ At op k := fun r hr => by
      have hgd : ((List.range g.high.toNat).map (rowC g)).getD r [] = rowC g r := by
        simp [List.getD_eq_getElem?_getD]
        rw [List.getElem?_range (by omega)]; rfl
      have hA : Arr v 1 q qn xs := ⟨(hR.own.ext hv).gets, by rw [hR.rows.len, hR.len], hR.rows.each⟩
      obtain ⟨b, o, hq, hrd⟩ := hA.at (i := r) (by omega) (by decide)
      obtain ⟨q', cq, h1', h2', h3'⟩ := hR.rows.at (i := r) (by rw [hR.len]; omega)
      rw [hgd] at h1' h2'
      rw [h1'] at hrd
      have hvs := hv.size
      exact ⟨b, o, q', cq, hq, hrd, h2'.ext hv, fun k hk => ⟨by have := (h3' k hk).1; omega, fun ho => by have := hO.new k ho; have := (h3' k hk).1; omega⟩⟩
    have hvs := hv.size
    have own := fun {q' : Option Addr} {cq : Nat} {l : List Cl} (hl : l = rollRow g fr to n x.toNat) (hcl : Cells v q' l) (hk : ∀ k, At q' k → k < v.heap.size ∧ ¬ At op k) =>
      hO.push (cq := cq) (K := RollK u1 g fr to n x) hvs (by omega) hcl hk ty_sl_api_Cell ty_sl_api_Cell fun p' c' w hR3 hw => grow hl (out (Upd.refl _) hw) hR3
    have hf : Ext v (allocW v (.cells (repl g.wide.toNat [.int .i64 0, .int .i64 0, .int .i64 0, .bool false]).toArray ty_api_Cell)) := (Upd.refl v).alloc _
    have hco : Cells (allocW v (.cells (repl g.wide.toNat [.int .i64 0, .int .i64 0, .int .i64 0, .bool false]).toArray ty_api_Cell)) (some ⟨v.heap.size, 0, none⟩) (List.replicate g.wide.toNat .z) := by
      rw [repl_cells]
      exact (CO.fresh v (List.replicate g.wide.toNat .z) ty_api_Cell).cells
    have fresh := fun (hl : List.replicate g.wide.toNat .z = rollRow g fr to n x.toNat) => (hO.ext hf).push (cq := g.wide.toNat) (K := RollK u1 g fr to n x) (by have := hf.size; omega) (by omega) hco (fun k hk => by
        rw [at_some hk]
        refine ⟨by show v.heap.size < _; rw [size_alloc]; omega, fun ho => ?_⟩
        have := (hO.own.at ho).1
        simp only at this
        omega) ty_sl_api_Cell ty_sl_api_Cell fun p' c' w hR3 hw => grow hl (out hf hw) hR3
    rw [List.length_replicate] at fresh
    refine ⟨fun c1 => ?_, fun c1 => ⟨fun c2 => ?_, fun c2 => ⟨by simp only [inK]; omega, fun c3 => ⟨by simp only [inK]; omega, fun c4 => ⟨by simp only [inK]; omega, ?_⟩, fun c4 => ?_⟩, fun c3 => ?_⟩⟩⟩
    · obtain ⟨b, o, q', cq, hq, hrd, hcl, hk⟩ := take x.toNat (by omega)
      exact ⟨b, o, hq, hx0, hx, _, _, _, rfl, hrd, own (by unfold rollRow; rw [if_pos (by omega)]) hcl hk⟩
    · obtain ⟨b, o, q', cq, hq, hrd, hcl, hk⟩ := take x.toNat (by omega)
      exact ⟨b, o, hq, hx0, hx, _, _, _, rfl, hrd, own (by unfold rollRow; rw [if_pos (by omega)]) hcl hk⟩
    · obtain ⟨b, o, q', cq, hq, hrd, hcl, hk⟩ := take (x + n).toNat (by omega)
      exact ⟨b, o, hq, by omega, by omega, _, _, _, rfl, hrd, own (by unfold rollRow; rw [if_neg (by omega), if_pos (by omega), show ((x.toNat : Nat) : Int) = x by omega]) hcl hk⟩
    · exact ⟨by omega, Int.le_refl _, by omega, by omega, fresh (by unfold rollRow; rw [if_neg (by omega), if_neg (by omega)])⟩
    · exact ⟨by omega, Int.le_refl _, by omega, by omega, fresh (by unfold rollRow; rw [if_neg (by omega), if_neg (by omega)])⟩
  · have hfin : x = g.high := by omega
    subst hfin
    refine (rowsIn_ok (g := g) (p := p) (m := g.cells.length) (c := c) hO (by omega) fun l hl => ?_).mono fun e w ⟨⟨p', c', he, ho, hk⟩, hw⟩ => ⟨_, _, _, _, _, _, _, _, _, _, _, he, ⟨p', c', ?_, ?_, fun k hk' => by have := hk k hk'; have := x1.size; have := hv.size; omega⟩, x1.ext (hv.ext hw)⟩
    · obtain ⟨r, hr, rfl⟩ := List.mem_map.1 hl
      rw [rollRow_len hg h0 h1 (by have := List.mem_range.1 hr; omega)]; omega
    · rw [roll_rows hg h0 h1]
      rfl
    · rw [roll_rows hg h0 h1]
      exact ho

/-- A screen of one's own has come, the same one or a new one. -/
structure OwnStep (u : World) (p : Option Addr) (g : Gr) (e : Ending) (u' : World) : Prop where
  ex : ∃ p' c, e = .returned (GrV g p' g.cells.length c) ∧ Own u' 4 p' g.cells.length c (cellsV g.cells) ∧ ∀ k, At p' k → At p k ∨ u.heap.size ≤ k
  upd : Upd (At p) u u'

theorem OwnStep.same {u u' : World} {p : Option Addr} {g : Gr} {c : Nat} (h : Own u 4 p g.cells.length c (cellsV g.cells)) (hu : Ext u u') : OwnStep u p g (.returned (GrV g p g.cells.length c)) u' :=
  ⟨⟨p, c, rfl, h.ext hu, fun _ h => .inl h⟩, hu.any⟩

theorem nextRow_ok {u : World} {g : Gr} {p : Option Addr} {c : Nat} (h : Own u 4 p g.cells.length c (cellsV g.cells)) (hg : GoodG g) :
    Spec Try.prog fn_fenestraref_nextRow #[GrV g p g.cells.length c] u (OwnStep u p (feedG g)) := by
  apply vc_fenestraref_nextRow_spec
  unfold vc_fenestraref_nextRow
  simp only [decide_eq_true_eq, decide_eq_false_iff_not, true_and]
  have hu : Ext u (allocW (allocW u hole) hole) := ((Upd.refl u).alloc _).alloc _
  have hr1 := hg.r1
  have hr2 := hg.r2
  have hh2 := hg.h2
  have ht1 := hg.t1
  have ht2 := hg.t2
  have hb2 := hg.b2
  refine ⟨by simp only [inK]; omega, fun h1 => ?_, fun h1 => ⟨by simp only [inK]; omega, fun h2 => ⟨by simp only [inK]; omega, ?_⟩, fun h2 => ?_⟩⟩
  · have e : feedG g = rollG g g.top g.bottom 1 := by unfold feedG; rw [if_pos h1]
    rw [e]
    exact (roll_ok (h.ext hu).cells h.le hg ht1 hb2 (by decide) (by decide)).mono fun e u1 ⟨⟨p', c', he, ho, hk⟩, hu1⟩ => ⟨_, _, _, _, _, _, _, _, _, _, _, he, ⟨p', c', rfl, ho, fun k hk' => .inr (by have := hk k hk'; have := hu.size; omega)⟩, (hu.ext hu1).any⟩
  · have e : feedG g = { g with row := g.row + 1 } := by unfold feedG; rw [if_neg h1, if_pos (by omega)]
    rw [e]
    exact OwnStep.same (g := { g with row := g.row + 1 }) h hu
  · have e : feedG g = g := by unfold feedG; rw [if_neg h1, if_neg (by omega)]
    rw [e]
    exact OwnStep.same h hu

theorem rd_byte' {b : Nat} {u : World} : ∀ (l : List UInt8) (o i : Nat) (c : UInt8), Rd u b o (l.map fun b => Value.int .u8 b.toNat) → l[i]? = some c → Rd u b (o + i * 1) [.int .u8 ((c.toNat : Nat) : Int)]
  | [], _, _, _, _, h => by simp at h
  | x :: l, o, 0, c, hr, h => by
    simp only [List.getElem?_cons_zero, Option.some.injEq] at h
    subst h
    exact ⟨hr.1, trivial⟩
  | x :: l, o, i + 1, c, hr, h => by
    have := rd_byte' l (o + 1) i c hr.2 (by simpa using h)
    rwa [show o + (i + 1) * 1 = o + 1 + i * 1 by omega]

/-- So far a picture is drawn. -/
structure DrawI (v : World) (gb c bb : Nat) (g : Gr) (s : List UInt8) (r cl x : Int) (l : List Cl) (u1 : World) : Prop where
  own : CO u1 gb c l
  len : l.length = g.cells.length
  upd : Upd (· = gb) v u1
  bytes : Rd u1 bb 0 (s.map fun b => Value.int .u8 b.toNat)
  x0 : 0 ≤ x
  x1 : x ≤ s.length
  r0 : 0 ≤ r
  r1 : r ≤ 10 + x
  c0 : 0 ≤ cl
  c1 : cl ≤ 24 + x
  eq : picC g.wide g.high (min g.col (g.wide - 1)) s g.row (min g.col (g.wide - 1)) g.cells = picC g.wide g.high (min g.col (g.wide - 1)) (s.drop x.toNat) r cl l

theorem drawn_ok {u : World} {g : Gr} {gb : Nat} {c : Nat} (h : CO u gb c g.cells) (hg : GoodG g) (s : ByteArray) (hs : s.size ≤ 100000000) :
    Spec Try.prog fn_fenestraref_drawn #[GrV g (some ⟨gb, 0, none⟩) g.cells.length c, .string s] u (OwnStep u (some ⟨gb, 0, none⟩) (pictureG g s.data.toList)) := by
  apply vc_fenestraref_drawn_spec
  unfold vc_fenestraref_drawn
  simp only [decide_eq_true_eq, decide_eq_false_iff_not, true_and]
  have hw1 := hg.w1
  have hw2 := hg.w2
  have hh2 := hg.h2
  have hr1 := hg.r1
  have hr2 := hg.r2
  have hc1 := hg.c1
  have hlen := bytes_size s
  have hgl := h.lt
  refine ⟨by simp only [inK]; omega, by simp only [inK]; omega, fun cap hcap => ?_⟩
  have hu : Ext u (allocW (drewW (drewW (allocW (allocW u hole) hole))) (.cells (bytesV s ++ repl (cap - s.size) [.int .u8 0]).toArray ty_u8 (cap, cap + 1))) := (((((Upd.refl u).alloc _).alloc _).drew).drew).alloc _
  have hbb : Rd (allocW (drewW (drewW (allocW (allocW u hole) hole))) (.cells (bytesV s ++ repl (cap - s.size) [.int .u8 0]).toArray ty_u8 (cap, cap + 1))) (allocW (allocW u hole) hole).heap.size 0 (s.data.toList.map fun b => Value.int .u8 b.toNat) := by
    refine rd_heap (t := ty_u8) (f := (cap, cap + 1)) (bytesV s) [] (repl (cap - s.size) [.int .u8 0]) ?_
    rw [heap_alloc, if_pos (show (allocW (allocW u hole) hole).heap.size = (drewW (drewW (allocW (allocW u hole) hole))).heap.size from rfl)]
    simp
  have hne : (allocW (allocW u hole) hole).heap.size ≠ gb := by rw [size_alloc, size_alloc]; omega
  generalize hw0 : allocW (drewW (drewW (allocW (allocW u hole) hole))) (.cells (bytesV s ++ repl (cap - s.size) [.int .u8 0]).toArray ty_u8 (cap, cap + 1)) = w0 at hu hbb
  refine ⟨fun r cl x u1 => ∃ l, DrawI w0 gb c (allocW (allocW u hole) hole).heap.size g s.data.toList r cl x l u1, fun _ _ x _ => (s.size - x).toNat, ⟨g.cells, h.ext hu, rfl, Upd.refl _, hbb, Int.le_refl _, by omega, hr1, by omega, by omega, by omega, by simp⟩, fun r cl x u1 ⟨l, I⟩ => ⟨fun hx => ?_, fun hx => ?_⟩⟩
  · obtain ⟨i1, il, i3, ib, i4, i5, i6, i7, i8, i9, i10⟩ := I
    have hb : s.data.toList[x.toNat]? = some (s.data.toList[x.toNat]'(by omega)) := List.getElem?_eq_getElem _
    generalize s.data.toList[x.toNat]'(by omega) = ch at hb
    have hch : ch.toNat < 256 := ch.toNat_lt
    have hx1 : (x + 1).toNat = x.toNat + 1 := by omega
    rw [drop_at hb, picC_cons] at i10
    have hrb := rd_byte' s.data.toList 0 x.toNat ch ib hb
    have skip : ¬ ch.toNat = 45 → ¬ (97 ≤ ch.toNat ∧ ch.toNat < 105 ∧ r < g.high ∧ cl < g.wide) → inK .i64 (cl + 1) ∧ inK .i64 (x + 1) ∧ (∃ l, DrawI w0 gb c (allocW (allocW u hole) hole).heap.size g s.data.toList r (cl + 1) (x + 1) l u1) ∧ (s.size - (x + 1)).toNat < (s.size - x).toNat := fun h1 h2 => by
      rw [if_neg h1, if_neg h2, ← hx1] at i10
      exact ⟨by simp only [inK]; omega, by simp only [inK]; omega, ⟨l, i1, il, i3, ib, by omega, by omega, i6, by omega, by omega, by omega, i10⟩, by omega⟩
    refine ⟨_, 0, rfl, i4, hx, _, rfl, hrb, fun h45 => ?_, fun h45 => ⟨by simp only [inK]; omega, by simp only [inK]; omega, fun h97 => ⟨fun h105 => ⟨fun hrh => ⟨fun hcw => ?_, fun hcw => ?_⟩, fun hrh => ?_⟩, fun h105 => ?_⟩, fun h97 => ?_⟩⟩
    · rw [if_pos (by omega), ← hx1] at i10
      exact ⟨by simp only [inK]; omega, by simp only [inK]; omega, ⟨l, i1, il, i3, ib, by omega, by omega, by omega, by omega, by omega, by omega, i10⟩, by first | omega | (dsimp only; omega)⟩
    · have q0 := row_facts hg i6 (by omega)
      have q1 := row_facts hg (r := r + 1) (by omega) (by omega)
      rw [succ_mul'] at q1
      have Y := i1.set ⟨0, 0, ((ch.toNat : Nat) : Int) - 96, false⟩ (i := (r * g.wide + cl).toNat) (by omega) (o := 0 + (r * g.wide + cl).toNat * 4) (by omega)
      rw [if_neg (by omega), if_pos ⟨by omega, by omega, hrh, hcw⟩, ← hx1] at i10
      exact ⟨by simp only [inK]; omega, by simp only [inK]; omega, gb, 0, rfl, by omega, by omega, rfl, i1.wr (by omega), by simp only [inK]; omega, by simp only [inK]; omega,
        ⟨_, Y, by rw [List.length_set]; exact il, i3.put (fun _ => rfl) _ _, (upd_put _ _ _).rd ib (fun h => hne h), by omega, by omega, i6, by omega, by omega, by omega, i10⟩, by first | omega | (dsimp only; omega)⟩
    · exact skip (by omega) (fun h => hcw h.2.2.2)
    · exact skip (by omega) (fun h => hrh h.2.2.1)
    · exact skip (by omega) (by omega)
    · exact skip (by omega) (by omega)
  · obtain ⟨i1, il, i3, ib, i4, i5, i6, i7, i8, i9, i10⟩ := I
    rw [List.drop_eq_nil_of_le (by omega)] at i10
    have e : pictureG g s.data.toList = { g with cells := l } := by
      unfold pictureG
      rw [i10]
      rfl
    rw [e]
    refine ⟨⟨some ⟨gb, 0, none⟩, c, by rw [← il], i1, fun _ h => .inl h⟩, (hu.any (S := At (some ⟨gb, 0, none⟩))).trans i3 fun k hk he => ⟨_, rfl, he.symm⟩⟩

end Go.Proofs.Ytkmmphkjmamckab
