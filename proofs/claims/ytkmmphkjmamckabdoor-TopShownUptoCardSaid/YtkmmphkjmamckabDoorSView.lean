/-
  What there is, told.
-/
import Derived.Test.YtkmmphkjmamckabDoorSNew
import Derived.Test.YtkmmphkjmamckabDoorSCols
namespace Go.Proofs.YtkmmphkjmamckabDoor
open Go
set_option linter.all false

theorem putN_mem {α : Type} {l ys r : List α} {o : Nat} (h : putN l o ys = some r) {c : α} (hc : c ∈ r) : c ∈ ys ∨ c ∈ l := by
  obtain ⟨_, _, h2⟩ := putN_get _ _ _ _ h
  obtain ⟨i, hi, rfl⟩ := List.getElem_of_mem hc
  have := h2 i
  rw [List.getElem?_eq_getElem hi] at this
  split at this
  · exact .inl (List.mem_of_getElem? this.symm)
  · exact .inr (List.mem_of_getElem? this.symm)

theorem okCells_mem {cs : List Value} {P : Prop} (h : ∀ c ∈ cs, okCells [c] True) (hP : P) : okCells cs P := by
  rw [okCells_iff]
  refine ⟨fun c hc => ?_, hP⟩
  have := h c hc
  rw [okCells_iff] at this
  exact this.1 c List.mem_cons_self

theorem okc_of {cs : List Value} (h : okCells cs True) {c : Value} (hc : c ∈ cs) : okCells [c] True := by
  rw [okCells_iff] at h ⊢
  exact ⟨fun x hx => by rw [List.mem_singleton.1 hx]; exact h.1 c hc, trivial⟩

theorem SvC.okv {u : World} {ok : Nat → Prop} {s : Sv} {cs : List Value} (h : SvC u ok s cs) : ∀ c ∈ cs.take 58, okCells [c] True := fun c hc => by
  obtain ⟨j, hj, rfl⟩ := List.getElem_of_mem hc
  have hl := h.len
  have hj58 : j < 58 := by rw [List.length_take] at hj; omega
  rw [List.getElem_take]
  have at_ : ∀ {a n : Nat} {x : List Value}, takeN cs a n = some x → a ≤ j → j < a + n → okCells x True → okCells [cs[j]] True := fun {a n x} hx h1 h2 hok => by
    obtain ⟨k1, k2⟩ := takeN_get _ _ _ _ hx
    have := k2 (j - a) (by omega)
    rw [show a + (j - a) = j by omega, List.getElem?_eq_getElem (by omega)] at this
    exact okc_of hok (List.mem_of_getElem? this.symm)
  by_cases h0 : j = 0
  · obtain ⟨p, c, k1, _⟩ := h.tiles
    exact at_ k1 (by omega) (by omega) (by simp [okCells])
  by_cases h55 : j < 55
  · obtain ⟨x, k1, ⟨p, c, rfl, _⟩, _⟩ := h.grid ((j - 1) / 9) (by omega)
    exact at_ k1 (by omega) (by omega) (by simp [okCells])
  by_cases e1 : j = 55
  · exact at_ h.wide (by omega) (by omega) (by simp [okCells])
  by_cases e2 : j = 56
  · exact at_ h.high (by omega) (by omega) (by simp [okCells])
  · exact at_ h.focus (by omega) (by omega) (by simp [okCells])

/-- A view of its own memory, in blocks from n0 on. -/
structure VwF (n0 : Nat) (u : World) (cs : List Value) (v : Vw) : Prop where
  ex : ∃ n1, n0 ≤ n1 ∧ (∃ p c, takeN cs 0 1 = some [.slice p v.cols.length c] ∧ TlN n0 n1 u p c v.cols) ∧
    ∀ i : Nat, i < 6 → ∃ p c, takeN cs (1 + i * 9) 9 = some (grV (v.grids.getD i .zero) p (v.grids.getD i .zero).cells.length c) ∧ Own u 4 p (v.grids.getD i .zero).cells.length c (cellsV (v.grids.getD i .zero).cells) ∧ ∀ k, At p k → n1 ≤ k
  few : FewT 1048576 v.cols
  gb : ∀ i : Nat, i < 6 → (v.grids.getD i .zero).cells.length ≤ 1048576 ∧ inK .i64 (v.grids.getD i .zero).row ∧ inK .i64 (v.grids.getD i .zero).col
  wide : takeN cs 55 1 = some [.int .i64 v.wide]
  high : takeN cs 56 1 = some [.int .i64 v.high]
  focus : takeN cs 57 1 = some [.int .i64 v.focus]
  len : cs.length = 58
  okv : ∀ c ∈ cs, okCells [c] True

theorem VwF.m {n0 : Nat} {u : World} {cs : List Value} {v : Vw} (h : VwF n0 u cs v) : VwM u cs v := by
  obtain ⟨⟨n1, _, ⟨p, c, t1, t2⟩, hg⟩, few, gb, w, hi, fo, len, _⟩ := h
  refine ⟨⟨p, c, t1, t2.tl⟩, few, fun i hi => ?_, w, hi, fo, by have := takeN_whole cs; rwa [len] at this⟩
  obtain ⟨p, c, g1, g2, _⟩ := hg i hi
  exact ⟨p, c, g1, ⟨g2.gets⟩, (gb i hi).1, (gb i hi).2.1, (gb i hi).2.2⟩

theorem VwF.upd {S : Nat → Prop} {n0 : Nat} {u u' : World} {cs : List Value} {v : Vw} (h : VwF n0 u cs v) (hu : Upd S u u') (hS : ∀ k, S k → k < n0) : VwF n0 u' cs v := by
  obtain ⟨⟨n1, h0, ⟨p, c, t1, t2⟩, hg⟩, few, gb, w, hi, fo, len, okv⟩ := h
  refine ⟨⟨n1, h0, ⟨p, c, t1, t2.upd hu hS⟩, fun i hi => ?_⟩, few, gb, w, hi, fo, len, okv⟩
  obtain ⟨p, c, g1, g2, g3⟩ := hg i hi
  exact ⟨p, c, g1, g2.upd hu fun k hk hs => by have := g3 k hk; have := hS k hs; omega, g3⟩

theorem VwF.ext {n0 : Nat} {u u' : World} {cs : List Value} {v : Vw} (h : VwF n0 u cs v) (hu : Ext u u') : VwF n0 u' cs v := h.upd hu fun _ h => h.elim

/-- A view has come; it is all new. -/
structure ViewTo (u : World) (v : Vw) (e : Ending) (u' : World) : Prop where
  ex : ∃ cs, e = .returned (.agg cs.toArray) ∧ VwF u.heap.size u' cs v
  ext : Ext u u'

theorem srvView_ok {u : World} {sb : Nat} {B : Nat → Prop} {s : Sv} (h : SvM u sb B s) (few : FewT 1000 s.v.cols) (hg : ∀ p, p < 6 → gridOf s.v p = .zero ∨ GoodG (gridOf s.v p)) :
    Spec Tryd.prog fn_server_Server_View #[.pointer (some ⟨sb, 0, none⟩)] u (ViewTo u s.v) := by
  apply vc_server_Server_View_spec
  unfold vc_server_Server_View
  simp only [decide_eq_true_eq, decide_eq_false_iff_not, true_and]
  refine ⟨fun hn => (by cases hn), fun _ => ?_⟩
  have hu : Ext u (allocW u hole) := (Upd.refl u).alloc _
  have few1 : FewT 1048576 s.v.cols := ⟨by have := few.n; omega, fun c hc => by have := few.each c hc; omega⟩
  obtain ⟨cs, hc, hrd⟩ := (h.ext hu).rd
  obtain ⟨vl, v58, VM⟩ := hc.view few1 hg
  have okv := hc.okv
  obtain ⟨tp, tc, kt, TF⟩ := hc.tiles
  generalize hX : cs.take 58 = X at *
  refine ⟨X, vl.symm, hrd v58, vl.symm, okCells_mem okv ⟨X, putN_all (by rw [vl]; rfl), rfl, ?_⟩⟩
  obtain ⟨X2, P2⟩ := put_to (cs := X) (o := 0) (ys := [.slice none 0 0]) (by rw [vl]; decide)
  have ha : Ext (allocW u hole) (allocW (allocW u hole) hole) := (Upd.refl _).alloc _
  have rdt : Rd (allocW (allocW u hole) hole) sb (0 + 0 + 0) [.slice tp s.v.cols.length tc] := ha.rd (hrd kt) fun h => h
  refine ⟨X2, P2.put, tp, _, tc, rfl, rdt, ?_⟩
  have h0 : takeN X 0 1 = some [.slice tp s.v.cols.length tc] := by rw [← hX]; exact takeN_pre kt (by decide)
  have TL : Tl (allocW (allocW u hole) hole) tp s.v.cols := TF.tl.ext ha
  have hu0 : Ext u (allocW (allocW u hole) hole) := hu.ext ha
  have ctl := few.n
  obtain ⟨G0, W0, H0, F0⟩ := (⟨VM.grid, VM.wide, VM.high, VM.focus⟩ : _ ∧ _ ∧ _ ∧ _)
  have VM0 := VM.ext ha
  refine ⟨fun x v w => (∃ p n c xs, takeN v 0 1 = some [.slice p n c] ∧ ColsX (allocW (allocW u hole) hole) w p n c xs (s.v.cols.take x.toNat)) ∧ (∀ {a m : Nat} {z : List Value}, 1 ≤ a → takeN X a m = some z → takeN v a m = some z) ∧ v.length = 58 ∧ (∀ c ∈ v, okCells [c] True) ∧ Ext (allocW (allocW u hole) hole) w ∧ 0 ≤ x ∧ x ≤ s.v.cols.length, fun x _ _ => (s.v.cols.length - x).toNat,
    ⟨⟨none, 0, 0, [], P2.on h0 (by omega) (by decide) rfl, ColsX.nil _ _⟩, fun ha1 hz => P2.off (.inr (by simp; omega)) hz, by rw [P2.len, vl], fun c hc => ?_, Upd.refl _, Int.le_refl _, by omega⟩, ?_⟩
  · rcases putN_mem P2.put hc with h7 | h7
    · rw [List.mem_singleton.1 h7]; simp [okCells]
    · exact okv c h7
  rintro x v w ⟨⟨p, n, c, xs, hv0, O⟩, hv1, hvl, hvo, hw, x0, x1⟩
  have hwu : Ext u w := hu0.ext hw
  have hsz := hw.size
  refine ⟨fun hx => ?_, fun hx => ?_⟩
  · obtain ⟨b, o, q', c', hp, hr, hnum⟩ := (TL.ext hw).at (i := x.toNat) (by omega)
    have hcl := few.getD x.toNat
    have htk := take_succ_getD s.v.cols [] (i := x.toNat) (by omega)
    have hd : Ext w (drewW w) := (Upd.refl w).drew
    have hlen := O.len
    rw [List.length_take] at hlen
    refine ⟨b, o, hp, x0, hx, _, _, _, rfl, hr, p, n, c, hv0, [], numV (s.v.cols.getD x.toNat []), rfl, rfl, by rw [numV_len]; omega, (hnum.ext hd).1, by decide, by omega, numV_ok _, fun _ => trivial, fun p1 cap1 w1 hr1 => ?_⟩
    obtain ⟨o1, x1', o3⟩ := AppR.none hr1 rfl (by rw [numV_len]; omega) rfl
    have hvw := hd.ext x1'
    rw [Nat.zero_add] at o1 ⊢
    have hszw := hvw.size
    have o4 : ∀ k, At p1 k → k = w.heap.size := fun k hk => by
      rcases o3 with ⟨_, h3⟩ | h3
      · rw [h3] at hk; exact (at_none hk).elim
      · rw [h3] at hk
        have := at_some hk
        have e : (drewW w).heap.size = w.heap.size := rfl
        simp only at this
        omega
    have push := (O.ext hvw).push (cq := cap1) (q := p1) (by omega) (by omega) o1.nums (fun k hk => ⟨(o1.at hk).1, fun hat => by
      have h2 := (O.own.at hat).1
      have := o4 k hk
      omega, by have := o4 k hk; omega, by obtain ⟨_, r, t, h⟩ := o1.at hk; exact ⟨_, t, h⟩⟩) ty_sl_int ty_sl_int (K := fun p' c' w' => 1 = ([.slice p' (n + 1) c'] : List Value).length ∧ ∃ cs3, putN v 0 [.slice p' (n + 1) c'] = some cs3 ∧ inK .i64 (x + 1) ∧ ((∃ p n c xs, takeN cs3 0 1 = some [.slice p n c] ∧ ColsX (allocW (allocW u hole) hole) w' p n c xs (s.v.cols.take (x + 1).toNat)) ∧ (∀ {a m : Nat} {z : List Value}, 1 ≤ a → takeN X a m = some z → takeN cs3 a m = some z) ∧ cs3.length = 58 ∧ (∀ c ∈ cs3, okCells [c] True) ∧ Ext (allocW (allocW u hole) hole) w' ∧ 0 ≤ x + 1 ∧ x + 1 ≤ s.v.cols.length) ∧ ((s.v.cols.length : Int) - (x + 1)).toNat < ((s.v.cols.length : Int) - x).toNat) fun p' c' w' hO hu' => by
        obtain ⟨cs3, P3⟩ := put_to (cs := v) (o := 0) (ys := [.slice p' (n + 1) c']) (by rw [hvl]; show 0 + 1 ≤ 58; omega)
        refine ⟨rfl, cs3, P3.put, by simp only [inK]; omega, ⟨?_, fun ha1 hz => P3.off (.inr (by simp; omega)) (hv1 ha1 hz), by rw [P3.len, hvl], fun c hc => ?_, ((hw.ext hvw).trans hu' fun k hk hat => by have := O.new k hat; omega).mono fun _ _ h => h, by omega, by omega⟩, by omega⟩
        · rw [show (x + 1).toNat = x.toNat + 1 by omega, htk]
          obtain ⟨ys, hO⟩ := hO
          exact ⟨p', n + 1, c', ys, P3.on hv0 (by omega) (by show 0 + 1 ≤ 0 + 1; omega) rfl, hO⟩
        · rcases putN_mem P3.put hc with h7 | h7
          · rw [List.mem_singleton.1 h7]; simp [okCells]
          · exact hvo c h7
    exact push
  · have hcl : s.v.cols.take x.toNat = s.v.cols := List.take_of_length_le (by omega)
    rw [hcl] at O
    have hn : s.v.cols.length = n := O.len
    subst hn
    refine ⟨fun y v' w' => (∃ p c, takeN v' 0 1 = some [.slice p s.v.cols.length c] ∧ TlN u.heap.size w.heap.size w' p c s.v.cols) ∧ (∀ i : Nat, i < 6 → ∃ p c, takeN v' (1 + i * 9) 9 = some (grV (gridOf s.v i) p (gridOf s.v i).cells.length c) ∧ Cells w' p (gridOf s.v i).cells ∧ (i < y.toNat → Own w' 4 p (gridOf s.v i).cells.length c (cellsV (gridOf s.v i).cells) ∧ ∀ k, At p k → w.heap.size ≤ k)) ∧ (takeN v' 55 1 = some [.int .i64 s.v.wide] ∧ takeN v' 56 1 = some [.int .i64 s.v.high] ∧ takeN v' 57 1 = some [.int .i64 s.v.focus]) ∧ v'.length = 58 ∧ (∀ c ∈ v', okCells [c] True) ∧ Ext w w' ∧ 0 ≤ y ∧ y ≤ 6, fun y _ _ => (6 - y).toNat,
      ⟨⟨p, c, hv0, O.tln hu0.size⟩, fun i hi => ?_, ⟨hv1 (by decide) W0, hv1 (by decide) H0, hv1 (by decide) F0⟩, hvl, hvo, Upd.refl _, by omega, by omega⟩, ?_⟩
    · obtain ⟨gp, gc, g1, g2, _⟩ := VM0.grid i hi
      exact ⟨gp, gc, hv1 (by omega) g1, g2.ext hw, fun h => by omega⟩
    rintro y v' w' ⟨⟨p2, c2, t1, t2⟩, hgr, ⟨q1, q2, q3⟩, hl', ho', hw', y0, y6⟩
    refine ⟨fun hy => ⟨by omega, by omega, ?_⟩, fun hy => ?_⟩
    · have hi6 : y.toNat < 6 := by omega
      have hws := hw'.size
      obtain ⟨gp, gc, g1, g2, _⟩ := hgr y.toNat hi6
      have gfew : (gridOf s.v y.toNat).cells.length ≤ 240 := by
        rcases hg _ hi6 with e | e
        · rw [e]; decide
        · exact few_cells e
      refine ⟨gp, _, gc, takeN_sub g1 (j := 2) (m := 1) rfl (by decide), [], cellsV (gridOf s.v y.toNat).cells, rfl, rfl, cellsV_len _, g2.gets, by decide, by omega, (cellsV_ok _ _).2 trivial, fun _ => trivial, fun p3 cap3 w3 hr3 => ?_⟩
      obtain ⟨o1, x3, o3⟩ := AppR.none hr3 rfl (cellsV_len _) rfl
      rw [Nat.zero_add] at o1 ⊢
      obtain ⟨cs4, P4⟩ := put_to (cs := v') (o := 1 + y.toNat * 9 + 2) (ys := [.slice p3 (gridOf s.v y.toNat).cells.length cap3]) (by rw [hl']; simp; omega)
      have off : ∀ {a m : Nat} {z : List Value}, a + m ≤ 1 + y.toNat * 9 + 2 ∨ 1 + y.toNat * 9 + 3 ≤ a → takeN v' a m = some z → takeN cs4 a m = some z := fun hd hz => P4.off (by simpa using hd) hz
      refine ⟨by omega, by omega, rfl, cs4, P4.put, by simp only [inK]; omega, ⟨⟨p2, c2, off (by omega) t1, t2.ext x3⟩, fun i hi => ?_, ⟨off (by omega) q1, off (by omega) q2, off (by omega) q3⟩, by rw [P4.len, hl'], fun c hc => ?_, hw'.ext x3, by omega, by omega⟩, by first | omega | (dsimp only; omega)⟩
      · by_cases e : i = y.toNat
        · subst e
          refine ⟨p3, cap3, P4.on g1 (by omega) (by simp) (by rw [show 1 + y.toNat * 9 + 2 - (1 + y.toNat * 9) = 2 by omega]; rfl), ⟨o1.gets⟩, fun _ => ⟨o1, fun k hk => ?_⟩⟩
          rcases o3 with ⟨_, h3⟩ | h3
          · rw [h3] at hk; exact (at_none hk).elim
          · rw [h3] at hk
            have := at_some hk
            simp only at this
            omega
        · obtain ⟨gp', gc', k1, k2, k3⟩ := hgr i hi
          exact ⟨gp', gc', off (by omega) k1, k2.ext x3, fun h => ⟨(k3 (by omega)).1.ext x3, (k3 (by omega)).2⟩⟩
      · rcases putN_mem P4.put hc with h7 | h7
        · rw [List.mem_singleton.1 h7]; simp [okCells]
        · exact ho' c h7
    · have hwh : takeN v' 0 58 = some v' := by have := takeN_whole v'; rwa [hl'] at this
      have hws := hwu.size
      refine ⟨hwh, hl'.symm, okCells_mem ho' ⟨v', putN_all (by rw [hl']; rfl), hwh, ⟨v', rfl, ⟨w.heap.size, hws, ⟨p2, c2, t1, t2⟩, fun i hi => ?_⟩, few1, fun i hi => ?_, q1, q2, q3, hl', ho'⟩, hwu.ext hw'⟩⟩
      · obtain ⟨gp, gc, k1, k2, k3⟩ := hgr i hi
        exact ⟨gp, gc, k1, (k3 (by omega)).1, (k3 (by omega)).2⟩
      · obtain ⟨_, _, _, _, m1, m2, m3⟩ := G0 i hi
        exact ⟨m1, m2, m3⟩

end Go.Proofs.YtkmmphkjmamckabDoor
