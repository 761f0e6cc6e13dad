/-
  The screen's functions, on: other sides, many events.
-/
import Derived.Test.YtkmmphkjmamckabDoorZG
import Derived.Test.YtkmmphkjmamckabDoorZP
import Derived.Test.YtkmmphkjmamckabDoorZVb
namespace Go.Proofs.YtkmmphkjmamckabDoor
open Go
set_option linter.all false

/-- A screen and a number have come. -/
structure Came (u : World) (r : Gr × Int) (e : Ending) (u' : World) : Prop where
  ex : ∃ p c, e = .returned (.tuple #[GrV r.1 p r.1.cells.length c, .int .i64 r.2]) ∧ Cells u' p r.1.cells ∧ (r.2 = 0 → r.1.cells.length ≤ 240) ∧ (r.2 = 0 → r.1.cells.length ≤ c ∧ ∀ k, At p k → u.heap.size ≤ k)
  ext : Ext u u'

theorem row_ok2 {u : World} {gb : Nat} {g : Gr} {b o c : Nat} (h : Blk u gb (grV g (some ⟨b, o, none⟩) g.cells.length c)) (hc : g.cells.length ≤ c) (hg : GoodG g) {r : Int} (h0 : 0 ≤ r) (h1 : r < g.high) :
    Spec Tryd.prog fn_grid_row #[.pointer (some ⟨gb, 0, none⟩), .int .i64 r] u fun e u' => ∃ c', e = .returned (.slice (some ⟨b, o + (r * g.wide).toNat * 4, none⟩) g.wide.toNat c') ∧ Ext u u' := by
  apply vc_grid_row_spec
  unfold vc_grid_row
  have hu : Ext u (drewW u) := (Upd.refl u).drew
  have f0 := row_facts hg h0 (by omega)
  have f1 := row_facts hg (r := r + 1) (by omega) (by omega)
  have w1 := hg.w1
  have hfew := few_cells hg
  have e := succ_mul' r g.wide
  rw [e] at f1
  refine ⟨_, _, _, rfl, (h.ext hu).rdAt (n := 1) rfl, _, rfl, (h.ext hu).rdAt (n := 1) rfl, by simp only [inK]; omega, by have := hg.h2; simp only [inK]; omega, _, rfl, (h.ext hu).rdAt (n := 1) rfl, ?_⟩
  rw [e]
  refine ⟨by simp only [inK]; omega, f0.1, by omega, by omega, c - (r * g.wide).toNat, ?_, hu⟩
  rw [if_neg (by omega), show (r * g.wide + g.wide).toNat - (r * g.wide).toNat = g.wide.toNat by omega, map_add]

/-- So far rows are copied. -/
structure RszI (w : World) (ob b c : Nat) (g out : Gr) (r : Nat) (v : World) : Prop where
  ex : ∃ l, GB v ob { out with cells := l } b c ∧ l.length = out.cells.length ∧ ∀ i : Nat, i < l.length → cg l i = if i / out.wide.toNat < r ∧ i % out.wide.toNat < g.wide.toNat then cg g.cells (i / out.wide.toNat * g.wide.toNat + i % out.wide.toNat) else .z
  upd : Upd (UB ob b) w v

theorem gresize_ok {u : World} {g : Gr} {p : Option Addr} (h : Cells u p g.cells) {c : Nat} (hcap : g.cells.length ≤ c) (hl : g.cells.length ≤ 100000000) (wide high : Int) :
    Spec Tryd.prog fn_grid_Resize #[GrV g p g.cells.length c, .int .i64 wide, .int .i64 high] u (Came u (resizeG g wide high)) := by
  apply vc_grid_Resize_spec
  unfold vc_grid_Resize
  simp only [decide_eq_true_eq, decide_eq_false_iff_not, Bool.not_eq_true', Bool.not_eq_false', true_and]
  have B0 := Blk.fresh u (grV g p g.cells.length c) ty_api_Grid
  have e0 : Ext u (allocW u (.cells (grV g p g.cells.length c).toArray ty_api_Grid)) := (Upd.refl u).alloc _
  have e1 : Ext (allocW u (.cells (grV g p g.cells.length c).toArray ty_api_Grid)) (allocW (allocW u (.cells (grV g p g.cells.length c).toArray ty_api_Grid)) hole) := (Upd.refl _).alloc _
  have hu := e0.ext e1
  have hs0 : (allocW u (.cells (grV g p g.cells.length c).toArray ty_api_Grid)).heap.size = u.heap.size + 1 := size_alloc _ _
  refine ⟨_, _, _, _, _, _, _, _, _, _, _, rfl, (B0.ext e1).rdAt (n := 9) rfl, (ggood_ok (h.ext hu) c (by omega)).mono fun r u1 ⟨hr, hu1⟩ => ⟨_, hr, fun hb => ?_, fun hb => ?_⟩⟩
  · have hd : resizeG g wide high = (g, 1) := by unfold resizeG; rw [if_pos hb]
    rw [hd]
    exact ⟨_, _, _, _, _, _, _, _, _, _, _, rfl, ((B0.ext e1).ext hu1).rdAt (n := 9) rfl, ⟨p, c, rfl, h.ext (hu.ext hu1), fun h => (by cases h), fun h => (by cases h)⟩, hu.ext hu1⟩
  have hg := goodG_iff.1 hb
  have x1 := hu.ext hu1
  have B1 := (B0.ext e1).ext hu1
  have hs1 : u.heap.size + 1 ≤ u1.heap.size := by have := (e1.ext hu1).size; omega
  refine (gnew_ok wide high).mono fun e u2 ⟨⟨b, he, ho, hb2⟩, hu2⟩ => ⟨_, _, _, _, _, _, _, _, _, _, _, he, ?_⟩
  have ng := new_ok' wide high
  have hres : resizeG g wide high = (⟨(newG wide high).wide, (newG wide high).high, resizeC g.wide.toNat (newG wide high).wide.toNat (newG wide high).high.toNat g.high.toNat g.cells, min g.row ((newG wide high).high - 1), min g.col ((newG wide high).wide - 1), g.ink, g.bold, 0, (newG wide high).high⟩, 0) := by
    unfold resizeG
    rw [if_neg (by rw [hb]; simp)]
    rfl
  have hrest : (newG wide high).row = 0 ∧ (newG wide high).col = 0 ∧ (newG wide high).ink = 0 ∧ (newG wide high).bold = false ∧ (newG wide high).top = 0 ∧ (newG wide high).bottom = (newG wide high).high ∧ (newG wide high).cells = List.replicate (newG wide high).cells.length .z := ⟨rfl, rfl, rfl, rfl, rfl, rfl, by simp [newG]⟩
  rw [hres]
  generalize newG wide high = out at ng he ho hrest
  obtain ⟨q1, q2, q3, q4, q5, q6, q7⟩ := hrest
  have hs2 := hu2.size
  have B2 := B1.ext hu2
  have F0 := Blk.fresh u2 [.int .i64 0, .int .i64 0, .slice none 0 0, .int .i64 0, .int .i64 0, .int .i64 0, .bool false, .int .i64 0, .int .i64 0] ty_api_Grid
  have F1 := F0.putAt (o := 0) (ys := grV out (some ⟨b, 0, none⟩) out.cells.length out.cells.length) (r := grV out (some ⟨b, 0, none⟩) out.cells.length out.cells.length) rfl
  have hfl : Ext u2 (putCells (allocW u2 (.cells ([.int .i64 0, .int .i64 0, .slice none 0 0, .int .i64 0, .int .i64 0, .int .i64 0, .bool false, .int .i64 0, .int .i64 0] : List Value).toArray ty_api_Grid)) u2.heap.size 0 (grV out (some ⟨b, 0, none⟩) out.cells.length out.cells.length)) := ((Upd.refl u2).alloc _).put (fun h => by omega) _ _
  have hob := ho.lt
  have S0 : GB (putCells (allocW u2 (.cells ([.int .i64 0, .int .i64 0, .slice none 0 0, .int .i64 0, .int .i64 0, .int .i64 0, .bool false, .int .i64 0, .int .i64 0] : List Value).toArray ty_api_Grid)) u2.heap.size 0 (grV out (some ⟨b, 0, none⟩) out.cells.length out.cells.length)) u2.heap.size out b out.cells.length := ⟨F1, ho.ext hfl, by omega⟩
  have B3 := B2.ext hfl
  have x2 := (x1.ext hu2).ext hfl
  refine ⟨rfl, F0.wr (by simp), ?_⟩
  generalize hw0 : putCells (allocW u2 (.cells ([.int .i64 0, .int .i64 0, .slice none 0 0, .int .i64 0, .int .i64 0, .int .i64 0, .bool false, .int .i64 0, .int .i64 0] : List Value).toArray ty_api_Grid)) u2.heap.size 0 (grV out (some ⟨b, 0, none⟩) out.cells.length out.cells.length) = w0 at S0 B3 x2
  have gw1 := hg.w1
  have gw2 := hg.w2
  have gh1 := hg.h1
  have gh2 := hg.h2
  have ow1 := ng.w1
  have ow2 := ng.w2
  have oh1 := ng.h1
  have oh2 := ng.h2
  have ocl := cells_len' ng
  have gcl := cells_len' hg
  have hbig : Upd (UB u2.heap.size b) u w0 := x2.any
  have away : ∀ {v : World}, Upd (UB u2.heap.size b) w0 v → Blk v u.heap.size (grV g p g.cells.length c) ∧ Cells v p g.cells ∧ Ext u v := fun {v} hv => by
    have E : Ext u v := (x2.trans hv fun k hk hh => by rcases hh with rfl | rfl <;> omega).mono fun _ _ h => h
    exact ⟨B3.upd hv fun hh => by rcases hh with hh | hh <;> omega, h.ext E, E⟩
  refine ⟨_, rfl, B3.rdAt (n := 1) rfl, _, rfl, S0.blk.rdAt (n := 1) rfl, fun r v => 0 ≤ r ∧ r ≤ min g.high out.high ∧ RszI w0 u2.heap.size b out.cells.length g out r.toNat v, fun r _ => (min g.high out.high - r).toNat, ⟨Int.le_refl _, by omega, ⟨⟨out.cells, S0, rfl, fun i hi => by
    rw [if_neg (by intro hh; exact Nat.not_lt_zero _ hh.1), q7, cg_repl]⟩, Upd.refl _⟩⟩, ?_⟩
  rintro r v ⟨r0, r1, ⟨l, G, hl2, hcg⟩, hv⟩
  obtain ⟨BV, CV, EV⟩ := away hv
  refine ⟨fun hr => ?_, fun hr => ?_⟩
  · have Gg : GoodG { out with cells := l } := ⟨ng.w1, ng.w2, ng.h1, ng.h2, by show (l.length : Int) = _; rw [hl2]; exact ng.len, ng.r1, ng.r2, ng.c1, ng.c2, ng.i1, ng.i2, ng.t1, ng.t2, ng.b2, fun c hc => by
      obtain ⟨i, hi, rfl⟩ := mem_cg hc
      rw [hcg i hi]
      split
      · exact AllG.cg hg.all _
      · rfl⟩
    refine (row_ok G Gg (r := r) r0 (by show r < out.high; omega)).mono fun e u3 ⟨c3, he, hu3⟩ => ⟨_, _, _, he, ?_⟩
    obtain ⟨bb, oo, hp, _⟩ := h.at (i := 0) (by have := hg.len; have := Int.mul_pos (show (0 : Int) < g.wide by omega) (show (0 : Int) < g.high by omega); omega)
    subst hp
    refine (row_ok2 (BV.ext hu3) hcap hg (r := r) r0 (by omega)).mono fun e u4 ⟨c4, he, hu4⟩ => ⟨_, _, _, he, ?_⟩
    have f0 := row_facts hg r0 (by omega)
    have f1 := row_facts hg (r := r + 1) (by omega) (by omega)
    have f2 := row_facts ng r0 (by omega)
    have f3 := row_facts ng (r := r + 1) (by omega) (by omega)
    rw [succ_mul'] at f1 f3
    have m0 : min g.wide.toNat out.wide.toNat ≤ g.wide.toNat := Nat.min_le_left _ _
    have m1 : min g.wide.toNat out.wide.toNat ≤ out.wide.toNat := Nat.min_le_right _ _
    have hml : ((g.cells.drop (r * g.wide).toNat).take (min g.wide.toNat out.wide.toNat)).length = min g.wide.toNat out.wide.toNat := by
      rw [List.length_take, List.length_drop]; omega
    have src := ((CV.ext hu3).ext hu4).sub (i := (r * g.wide).toNat) (k := min g.wide.toNat out.wide.toNat) (by omega)
    have GG := (G.ext hu3).ext hu4
    have put := GG.cells (i := (r * out.wide).toNat) (m := (g.cells.drop (r * g.wide).toNat).take (min g.wide.toNat out.wide.toNat)) (o := 0 + (r * out.wide).toNat * 4) (by show _ ≤ l.length; rw [hml, hl2]; omega) (by omega)
    refine ⟨cellsV ((g.cells.drop (r * g.wide).toNat).take (min g.wide.toNat out.wide.toNat)), by rw [cellsV_len, hml], src.gets, (cellsV_ok _ _).2 trivial, ⟨fun _ => rfl, GG.own.wr (by show 0 + (r * out.wide).toNat * 4 + 0 + min g.wide.toNat out.wide.toNat * 4 ≤ l.length * 4; omega)⟩, by simp only [inK]; omega, ⟨by omega, by omega, ⟨_, put, by rw [overC_len (by show _ ≤ l.length; rw [hml, hl2]; omega)]; exact hl2, fun i hi => ?_⟩, UB.putC ((hv.ext hu3).ext hu4) _ _⟩, by first | omega | (dsimp only; omega)⟩
    rw [overC_len (by show _ ≤ l.length; rw [hml, hl2]; omega)] at hi
    have hi : i < l.length := hi
    show cg (overC l _ _) i = _
    rw [overC_cg (by rw [hml, hl2]; omega), hml]
    obtain ⟨q, s, hs, he2, hq, hm⟩ := split_row (i := i) (w := out.wide.toNat) (by omega)
    rw [hq, hm]
    have er : (r * out.wide).toNat = r.toNat * out.wide.toNat := f2.2.2.2
    have eg : (r * g.wide).toNat = r.toNat * g.wide.toNat := f0.2.2.2
    have hr1 : (r + 1).toNat = r.toNat + 1 := by omega
    by_cases hqr : q = r.toNat
    · subst hqr
      by_cases hsw : s < g.wide.toNat
      · rw [if_pos (by omega), if_pos ⟨by omega, hsw⟩, cg_take (by omega), cg_drop]
        congr 1
        omega
      · rw [if_neg (by omega), if_neg (by omega), hcg i hi, hq, if_neg (by omega)]
    · have hout : ¬ ((r * out.wide).toNat ≤ i ∧ i < (r * out.wide).toNat + min g.wide.toNat out.wide.toNat) := by
        rw [er, he2]
        rcases Nat.lt_or_ge q r.toNat with h | h
        · have := row_lt hs h
          omega
        · have := row_lt (w := out.wide.toNat) (s := 0) (q := r.toNat) (to := q) (by omega) (by omega)
          have e2 : (r.toNat + 1) * out.wide.toNat ≤ q * out.wide.toNat := Nat.mul_le_mul_right _ (by omega)
          rw [Nat.add_mul, Nat.one_mul] at e2
          omega
      rw [if_neg hout, hcg i hi, hq, hm]
      by_cases hlt : q < r.toNat ∧ s < g.wide.toNat
      · rw [if_pos hlt, if_pos ⟨by omega, hlt.2⟩]
      · rw [if_neg hlt, if_neg (fun hh => hlt ⟨by omega, hh.2⟩)]
  · have hlast : l = resizeC g.wide.toNat out.wide.toNat out.high.toNat g.high.toNat g.cells := by
      unfold resizeC
      refine cg_ext (by rw [tab_len, hl2, ocl, Nat.mul_comm]) fun i hi => ?_
      rw [tab_cg (by rw [Nat.mul_comm, ← ocl, ← hl2]; exact hi), hcg i hi]
      have hrow : i / out.wide.toNat < out.high.toNat := by
        rw [Nat.div_lt_iff_lt_mul (by omega)]
        omega
      congr 1
      apply propext
      constructor
      · rintro ⟨a, b⟩; exact ⟨by omega, b⟩
      · rintro ⟨a, b⟩; exact ⟨by omega, b⟩
    have G1 := G.put (g' := { out with cells := l, row := min g.row (out.high - 1) }) (o := 0 + 3) (ys := [.int .i64 (min g.row (out.high - 1))]) rfl rfl
    have G2 := G1.put (g' := { out with cells := l, row := min g.row (out.high - 1), col := min g.col (out.wide - 1) }) (o := 0 + 4) (ys := [.int .i64 (min g.col (out.wide - 1))]) rfl rfl
    have G3 := G2.put (g' := { out with cells := l, row := min g.row (out.high - 1), col := min g.col (out.wide - 1), ink := g.ink }) (o := 0 + 5) (ys := [.int .i64 g.ink]) rfl rfl
    have G4 := G3.put (g' := { out with cells := l, row := min g.row (out.high - 1), col := min g.col (out.wide - 1), ink := g.ink, bold := g.bold }) (o := 0 + 6) (ys := [.bool g.bold]) rfl rfl
    have hv2 := UB.putS (UB.putS hv (0 + 3) [.int .i64 (min g.row (out.high - 1))]) (0 + 4) [.int .i64 (min g.col (out.wide - 1))]
    have hv4 := UB.putS (UB.putS hv2 (0 + 5) [.int .i64 g.ink]) (0 + 6) [.bool g.bold]
    have BV2 := (away hv2).1
    refine ⟨_, rfl, BV.rdAt (n := 1) rfl, _, rfl, G.blk.rdAt (n := 1) rfl, by simp only [inK]; omega, _, rfl, BV.rdAt (n := 1) rfl, _, rfl, G.blk.rdAt (n := 1) rfl, by simp only [inK]; omega, rfl, G.wr (by omega), rfl, G1.wr (by omega), _, rfl, BV2.rdAt (n := 1) rfl, _, rfl, BV2.rdAt (n := 1) rfl, rfl, G2.wr (by omega), rfl, G3.wr (by omega), _, _, _, _, _, _, _, _, _, _, _, rfl, G4.blk.rdAt (n := 9) rfl, ?_, (away hv4).2.2⟩
    rw [q5, q6]
    refine ⟨some ⟨b, 0, none⟩, out.cells.length, ?_, ?_, fun _ => ?_, fun _ => ⟨?_, fun k hk => ?_⟩⟩
    · rw [← hlast]
    · rw [← hlast]; exact G4.own.cells
    · show (resizeC _ _ _ _ _).length ≤ 240
      rw [← hlast, hl2]
      exact few_cells ng
    · show (resizeC _ _ _ _ _).length ≤ _
      rw [← hlast, hl2]
      exact Nat.le_refl _
    · have := at_some hk
      simp only at this
      omega

theorem gall_far {u : World} {g : Gr} {p : Option Addr} (h : Cells u p g.cells) (c : Nat) (hl : g.cells.length ≤ 10000000) {es : List Ev} {ep : Option Addr} {ok : Nat → Prop} (he : EvL u ok ep es.length es) (ec : Nat) (hen : es.length ≤ 10000000) (hfew : ∀ e ∈ es, e.ps.length ≤ 10000000 ∧ e.pl.size ≤ 10000000) :
    Spec Tryd.prog fn_grid_All #[GrV g p g.cells.length c, .slice ep es.length ec] u (fun e u' => (∃ p' c', e = .returned (.tuple #[GrV (allG g es).1 p' (allG g es).1.cells.length c', .int .i64 (allG g es).2]) ∧ Cells u' p' (allG g es).1.cells ∧ (∀ k, At p' k → At p k ∨ u.heap.size ≤ k) ∧ (g.cells.length ≤ c → (allG g es).1.cells.length ≤ c')) ∧ Ext u u') := by
  apply vc_grid_All_spec
  unfold vc_grid_All
  simp only [decide_eq_true_eq, decide_eq_false_iff_not, Bool.not_eq_true', Bool.not_eq_false', true_and]
  have hu : Ext u (allocW (allocW u hole) hole) := ((Upd.refl u).alloc _).alloc _
  refine ⟨fun x w hi pp n cp r cl ik bo t bt _ _ _ _ _ _ _ _ _ _ _ v => ∃ l, Cells v pp l ∧ (∀ k, At pp k → At p k ∨ u.heap.size ≤ k) ∧ (g.cells.length ≤ c → l.length ≤ cp) ∧ n = l.length ∧ l.length ≤ 10000000 ∧ Ext u v ∧ 0 ≤ x ∧ x ≤ es.length ∧ allG g es = allG ⟨w, hi, l, r, cl, ik, bo, t, bt⟩ (es.drop x.toNat), fun x _ _ _ _ _ _ _ _ _ _ _ _ _ _ _ _ _ _ _ _ _ _ _ => (es.length - x).toNat,
    ⟨g.cells, h.ext hu, fun _ hk => .inl hk, fun h => h, rfl, hl, hu, Int.le_refl _, by omega, by simp⟩, ?_⟩
  rintro x w hi pp n cp r cl ik bo t bt _ _ _ _ _ _ _ _ _ _ _ v ⟨l, hc, hfar, hcap, rfl, hll, hv, h0, h1, heq⟩
  refine ⟨fun hx => ?_, fun hx => ?_⟩
  · obtain ⟨b, o, q, m, c2, hp, hr, hn⟩ := (he.ext hv).at (i := x.toNat) (by omega)
    have hmem : es.getD x.toNat .none ∈ es := by
      rw [List.getD_eq_getElem?_getD, List.getElem?_eq_getElem (by omega)]
      exact List.getElem_mem _
    have hdrop : es.drop x.toNat = es.getD x.toNat .none :: es.drop (x.toNat + 1) := by
      rw [List.drop_eq_getElem_cons (by omega), List.getD_eq_getElem?_getD, List.getElem?_eq_getElem (by omega)]
      rfl
    rw [hdrop] at heq
    have hf := hfew _ hmem
    generalize es.getD x.toNat .none = ev at hr hn heq hf
    refine ⟨b, o, hp, h0, hx, _, _, _, _, _, _, rfl, hr, ?_⟩
    have hh : Ext v (allocW v hole) := (Upd.refl _).alloc _
    have hm := hn.2
    refine (gdo_ok (g := ⟨w, hi, l, r, cl, ik, bo, t, bt⟩) (hc.ext hh) cp (by show l.length ≤ _; omega) ev (ec := c2) (hn.ext hh) (by omega) (by omega)).mono fun e u2 ⟨⟨p', c', he2, hc2, hf1, hf2, hf3⟩, hu2⟩ => ⟨_, _, _, _, _, _, _, _, _, _, _, _, he2, fun hne => ?_, fun hz => ?_⟩
    all_goals
      have far : ∀ k, At p' k → At p k ∨ u.heap.size ≤ k := fun k hk => (hf1 k hk).elim (hfar k) fun h7 => .inr (by have := hv.size; have : (allocW v hole).heap.size = v.heap.size + 1 := size_alloc _ _; omega)
    · have e2 : allG ⟨w, hi, l, r, cl, ik, bo, t, bt⟩ (ev :: es.drop (x.toNat + 1)) = doG ⟨w, hi, l, r, cl, ik, bo, t, bt⟩ ev := by
        unfold allG
        rw [if_neg hne]
      rw [heq, e2]
      refine ⟨⟨p', c', rfl, hc2, far, fun hcc => ?_⟩, (hv.ext hh).ext hu2⟩
      have hdo : (doG ⟨w, hi, l, r, cl, ik, bo, t, bt⟩ ev).1.cells = l := by rw [do_err hne]
      rw [hdo, (hf2 hne).2]
      exact hcap hcc
    · have e2 : allG ⟨w, hi, l, r, cl, ik, bo, t, bt⟩ (ev :: es.drop (x.toNat + 1)) = allG (doG ⟨w, hi, l, r, cl, ik, bo, t, bt⟩ ev).1 (es.drop (x.toNat + 1)) := by
        conv => lhs; unfold allG
        rw [if_pos hz]
      have hg2 := do_zero hz
      have hg3 := few_cells (do_ok' hg2 ev).1
      refine ⟨by simp only [inK]; omega, ⟨_, hc2, far, fun _ => hf3 hz, rfl, by omega, (hv.ext hh).ext hu2, by omega, by omega, ?_⟩, by first | omega | (dsimp only; omega)⟩
      rw [heq, e2, show (x + 1).toNat = x.toNat + 1 by omega]
  · rw [List.drop_eq_nil_of_le (by omega)] at heq
    rw [heq]
    exact ⟨⟨pp, cp, rfl, hc, hfar, hcap⟩, hv⟩

end Go.Proofs.YtkmmphkjmamckabDoor
