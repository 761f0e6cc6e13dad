/-
  The document's own panes: copies, put in, taken out.
-/
import Derived.Test.YtkmmphkjmamckabTRef
import Derived.Test.YtkmmphkjmamckabPSameN
import Derived.Test.YtkmmphkjmamckabVRefT2
namespace Go.Proofs.Ytkmmphkjmamckab
open Go
set_option linter.all false

/-- A list of columns of one's own. -/
structure ColsO (u0 u : World) (p : Option Addr) (n c : Nat) (xs : List (List Value)) (ls : Cols) : Prop where
  own : Own u 1 p n c xs.flatten
  rows : ColsV u (fun k => k < u.heap.size ∧ ¬ At p k) xs ls
  len : ls.length = n
  new : ∀ k, At p k → u0.heap.size ≤ k

theorem ColsO.ext {u0 u u' : World} {p : Option Addr} {n c : Nat} {xs : List (List Value)} {ls : Cols} (h : ColsO u0 u p n c xs ls) (hu : Ext u u') : ColsO u0 u' p n c xs ls :=
  ⟨h.own.ext hu, h.rows.upd hu fun k hk => ⟨fun h => h, by have := hu.size; exact ⟨by omega, hk.2⟩⟩, h.len, h.new⟩

theorem ColsO.nil (u0 u : World) : ColsO u0 u none 0 0 [] [] := ⟨Own.nil _ _, trivial, rfl, fun k hk => (at_none hk).elim⟩

theorem ColsO.tl {u0 u : World} {p : Option Addr} {n c : Nat} {xs : List (List Value)} {ls : Cols} (h : ColsO u0 u p n c xs ls) : Tl u p ls :=
  ⟨xs, ⟨h.own.gets, by rw [h.rows.len], h.rows.each⟩, h.rows.upd (Upd.refl _ : Ext u u) fun _ _ => ⟨fun h => h, trivial⟩⟩

/-- One column more. -/
theorem ColsO.push {u0 v : World} {p : Option Addr} {n c : Nat} {xs : List (List Value)} {ls : Cols} (h : ColsO u0 v p n c xs ls) (h0 : u0.heap.size ≤ v.heap.size) (hn : n ≤ 10000000) {q : Option Addr} {cq : Nat} {l : List Int} (hq : Nums v q l.length l) (hk : ∀ k, At q k → k < v.heap.size ∧ ¬ At p k) (t e : TypeId) {K : Option Addr → Nat → World → Prop}
    (hK : ∀ p' c' w, (∃ ys, ColsO u0 w p' (n + 1) c' ys (ls ++ [l])) → Upd (At p) v w → K p' c' w) :
    ∃ old new : List Value, old.length = n * 1 ∧ Gets (allocW v (.cells #[.slice q l.length cq] t)) p old ∧ new.length = 1 * 1 ∧ Gets (allocW v (.cells #[.slice q l.length cq] t)) (some (Addr.mk v.heap.size 0 none)) new ∧
      0 < 24 ∧ (2 * (n + 1) + 192) * 24 ≤ 140737488355328 ∧ okCells new True ∧ (n + 1 ≤ c → WrS (allocW v (.cells #[.slice q l.length cq] t)) p (n * 1) (1 * 1)) ∧
      ∀ p' cap u2, AppR (allocW v (.cells #[.slice q l.length cq] t)) e 1 [.slice none 0 0] p n c 1 old new p' cap u2 → K p' cap u2 := by
  have hv : Ext v (allocW v (.cells #[.slice q l.length cq] t)) := (Upd.refl v).alloc _
  have hh := h.ext hv
  have ef : Own (allocW v (.cells #[.slice q l.length cq] t)) 1 _ 1 1 [.slice q l.length cq] := Own.fresh v (cs := [.slice q l.length cq]) rfl
  refine ⟨xs.flatten, [.slice q l.length cq], hh.own.len, hh.own.gets, rfl, ef.gets, by decide, by omega, by simp [okCells], fun hc => hh.own.wrs (by omega), fun p' cap u2 hr => ?_⟩
  obtain ⟨a1, a2, a3⟩ := hh.own.app hr hh.own.len hh.own.gets rfl rfl
  have hvs := hv.size
  have has := a2.size
  have hvs2 : (allocW v (.cells #[.slice q l.length cq] t)).heap.size = v.heap.size + 1 := size_alloc _ _
  have hp' : ∀ k, At p' k → At p k ∨ v.heap.size < k := fun k hk1 => by
    rcases a3 with ⟨rfl, _⟩ | ⟨rfl, _⟩
    · exact .inl hk1
    · rw [at_some hk1]; right; show v.heap.size < (allocW v _).heap.size; omega
  have hok : ∀ k, k < v.heap.size ∧ ¬ At p k → k < u2.heap.size ∧ ¬ At p' k := fun k hk => ⟨by omega, fun h => (hp' k h).elim hk.2 (by omega)⟩
  have hup : Upd (At p) v u2 := (hv.any (S := At p)).trans a2 fun _ _ h => h
  refine hK p' cap u2 ⟨xs ++ [[.slice q l.length cq]], ?_, ?_, by simp [h.len], fun k hk1 => ?_⟩ hup
  · rw [List.flatten_append]
    simpa using a1
  · exact ColsV.snoc ((hq.upd hup fun k hk1 => (hk k hk1).2)) (fun k hk1 => hok k (hk k hk1)) (h.rows.upd hup fun k hk1 => ⟨hk1.2, hok k hk1⟩)
  · rcases hp' k hk1 with h1 | h1
    · exact h.new k h1
    · omega

/-- One number more. -/
theorem Own.pushI {v : World} {p : Option Addr} {n c : Nat} {l : List Int} (h : Own v 1 p n c (numV l)) (hn : n ≤ 10000000) (x : Int) (t e : TypeId) {K : Option Addr → Nat → World → Prop}
    (hK : ∀ p' c' w, Own w 1 p' (n + 1) c' (numV (l ++ [x])) → Upd (At p) v w → (∀ k, At p' k → At p k ∨ v.heap.size ≤ k) → K p' c' w) :
    ∃ old new : List Value, old.length = n * 1 ∧ Gets (allocW v (.cells #[.int .i64 x] t)) p old ∧ new.length = 1 * 1 ∧ Gets (allocW v (.cells #[.int .i64 x] t)) (some (Addr.mk v.heap.size 0 none)) new ∧
      0 < 8 ∧ (2 * (n + 1) + 192) * 8 ≤ 140737488355328 ∧ okCells new True ∧ (n + 1 ≤ c → WrS (allocW v (.cells #[.int .i64 x] t)) p (n * 1) (1 * 1)) ∧
      ∀ p' cap u2, AppR (allocW v (.cells #[.int .i64 x] t)) e 1 [.int .i64 0] p n c 1 old new p' cap u2 → K p' cap u2 := by
  have hv : Ext v (allocW v (.cells #[.int .i64 x] t)) := (Upd.refl v).alloc _
  have hh := h.ext hv
  have ef : Own (allocW v (.cells #[.int .i64 x] t)) 1 _ 1 1 [.int .i64 x] := Own.fresh v (cs := [.int .i64 x]) rfl
  refine ⟨numV l, [.int .i64 x], hh.len, hh.gets, rfl, ef.gets, by decide, by omega, by simp [okCells], fun hc => hh.wrs (by omega), fun p' cap u2 hr => ?_⟩
  obtain ⟨a1, a2, a3⟩ := hh.app hr hh.len hh.gets rfl rfl
  refine hK p' cap u2 ?_ ((hv.any (S := At p)).trans a2 fun _ _ h => h) fun k hk => ?_
  · rw [numV_append]
    exact a1
  · rcases a3 with ⟨rfl, _⟩ | ⟨rfl, _⟩
    · exact .inl hk
    · right; rw [at_some hk]; exact hv.size

theorem copyTiles_ok {u : World} {q : Option Addr} {t : Cols} (h : Tl u q t) (c : Nat) (hl : FewT 1048576 t) :
    Spec Try.prog fn_fenestraref_CopyTiles #[TlV q t c] u fun e u' => (∃ p c', e = .returned (TlV p t c') ∧ Tl u' p t) ∧ Ext u u' := by
  apply vc_fenestraref_CopyTiles_spec
  unfold vc_fenestraref_CopyTiles
  simp only [decide_eq_true_eq, decide_eq_false_iff_not, true_and]
  have hu : Ext u (allocW (allocW (allocW u hole) hole) hole) := (((Upd.refl u).alloc _).alloc _).alloc _
  have hn := hl.n
  refine ⟨fun x p n cap v => (∃ xs, ColsO u v p n cap xs (t.take x.toNat)) ∧ Ext u v ∧ 0 ≤ x ∧ x ≤ t.length, fun x _ _ _ _ => (t.length - x).toNat, ⟨⟨[], ColsO.nil _ _⟩, hu, Int.le_refl _, by omega⟩, ?_⟩
  rintro x p n cap v ⟨⟨xs, O⟩, hv, h0, h1⟩
  refine ⟨fun hx => ?_, fun hx => ?_⟩
  · obtain ⟨b, o, q', c', hp, hr, hnum⟩ := (h.ext hv).at (i := x.toNat) (by omega)
    have hcl := hl.getD x.toNat
    have htk := take_succ_getD t [] (i := x.toNat) (by omega)
    have hd : Ext v (drewW v) := (Upd.refl v).drew
    have hlen := O.len
    rw [List.length_take] at hlen
    refine ⟨b, o, hp, h0, hx, _, _, _, rfl, hr, [], numV (t.getD x.toNat []), rfl, rfl, by rw [numV_len]; omega, (hnum.ext hd).1, by decide, by omega, numV_ok _, fun _ => trivial, fun p1 cap1 w hr1 => ?_⟩
    obtain ⟨o1, x1, o3⟩ := AppR.none hr1 rfl (by rw [numV_len]; omega) rfl
    have hvw := hd.ext x1
    rw [Nat.zero_add] at o1 ⊢
    have hsz := hv.size
    have hszw := hvw.size
    have push := (O.ext hvw).push (cq := cap1) (q := p1) (by omega) (by omega) o1.nums (fun k hk => ⟨(o1.at hk).1, fun hat => by
      have h2 := (O.own.at hat).1
      rcases o3 with ⟨_, h3⟩ | h3
      · rw [h3] at hk; exact at_none hk
      · rw [h3] at hk
        have := at_some hk
        have e : (drewW v).heap.size = v.heap.size := rfl
        simp only at this
        omega⟩) ty_sl_int ty_sl_int (K := fun p' c' w' => inK .i64 (x + 1) ∧ ((∃ xs, ColsO u w' p' (n + 1) c' xs (t.take (x + 1).toNat)) ∧ Ext u w' ∧ 0 ≤ x + 1 ∧ x + 1 ≤ t.length) ∧ ((t.length : Int) - (x + 1)).toNat < ((t.length : Int) - x).toNat) fun p' c' w' hO hu' => by
        refine ⟨by simp only [inK]; omega, ⟨?_, ((hv.ext hvw).trans hu' fun k hk hat => by have := O.new k hat; omega).mono fun _ _ h => h, by omega, by omega⟩, by omega⟩
        rw [show (x + 1).toNat = x.toNat + 1 by omega, htk]
        exact hO
    exact push
  · rw [List.take_of_length_le (by omega)] at O
    refine ⟨⟨p, cap, ?_, O.tl⟩, hv⟩
    have hlen := O.len
    show _ = Ending.returned (.agg #[.slice p t.length cap])
    rw [hlen]

theorem hasPane_ok {u : World} {q : Option Addr} {t : Cols} (h : Tl u q t) (c : Nat) (p : Int) (hl : FewT 1048576 t) :
    Spec Try.prog fn_fenestraref_HasPane #[TlV q t c, .int .i64 p] u (Told u (hasT t p)) := by
  apply vc_fenestraref_HasPane_spec
  unfold vc_fenestraref_HasPane
  simp only [decide_eq_true_eq, decide_eq_false_iff_not, true_and]
  have hu : Ext u (allocW u hole) := (Upd.refl u).alloc _
  refine (all_ok (h.ext hu) c hl).mono fun e u1 ⟨lp, lc, he, ho, hk, hu1⟩ => ⟨_, _, _, he, ?_⟩
  have x1 := hu.ext hu1
  have hfl : t.flatten.length ≤ 1048576 * 1048576 := by
    have := hl.flat t.length (Nat.le_refl _)
    rw [List.take_length] at this
    exact Nat.le_trans this (Nat.mul_le_mul_right _ hl.n)
  refine ⟨fun x v => Ext u v ∧ Ext u1 v ∧ 0 ≤ x ∧ x ≤ t.flatten.length ∧ ∀ i : Nat, i < x.toNat → t.flatten.getD i 0 ≠ p, fun x _ => (t.flatten.length - x).toNat, ⟨x1, Upd.refl _, Int.le_refl _, by omega, by omega⟩, fun x v ⟨hv, hv1, h0, h1, hi⟩ => ⟨fun hx => ?_, fun hx => ⟨?_, hv⟩⟩⟩
  · obtain ⟨b, o, hp, hr⟩ := (ho.nums.ext hv1).at (i := x.toNat) (by omega)
    refine ⟨b, o, hp, h0, hx, _, rfl, hr, fun heq => ⟨?_, hv⟩, fun hne => ⟨by simp only [inK]; omega, ⟨hv, hv1, by omega, by omega, fun i hi' => ?_⟩, by first | omega | (dsimp only; omega)⟩⟩
    · congr 2
      symm
      unfold hasT
      rw [List.contains_iff_mem, heq]
      exact getD_mem (by omega)
    · rcases (by omega : i < x.toNat ∨ i = x.toNat) with h | rfl
      · exact hi i h
      · exact fun h => hne h.symm
  · congr 2
    symm
    unfold hasT
    exact not_contains fun j hj => hi j (by omega)

def sameT (a b : Cols) : Bool := decide (a = b)

theorem sameTiles_ok {u : World} {p q : Option Addr} {a b : Cols} (ha : Tl u p a) (hb : Tl u q b) (c d : Nat) (hl : FewT 10000000 a) :
    Spec Try.prog fn_fenestraref_SameTiles #[TlV p a c, TlV q b d] u (Told u (sameT a b)) := by
  apply vc_fenestraref_SameTiles_spec
  unfold vc_fenestraref_SameTiles
  simp only [decide_eq_true_eq, decide_eq_false_iff_not, true_and, Bool.not_eq_true', Bool.not_eq_false']
  have hu : Ext u (allocW (allocW u hole) hole) := ((Upd.refl u).alloc _).alloc _
  have hn := hl.n
  have no : ∀ {v : World}, Ext u v → a ≠ b → Told u (sameT a b) (.returned (.bool false)) v := fun hv hn => ⟨by unfold sameT; rw [decide_eq_false hn], hv⟩
  refine ⟨fun hne => no hu fun h => hne (by rw [h]), fun heq => ?_⟩
  refine ⟨fun x v => Ext u v ∧ 0 ≤ x ∧ x ≤ a.length ∧ ∀ i : Nat, i < x.toNat → a.getD i [] = b.getD i [], fun x _ => (a.length - x).toNat, ⟨hu, Int.le_refl _, by omega, by omega⟩, fun x v ⟨hv, h0, h1, hi⟩ => ⟨fun hx => ?_, fun hx => ⟨?_, hv⟩⟩⟩
  · have hd : Ext v (drewW v) := (Upd.refl v).drew
    obtain ⟨b1, o1, q1, c1, hp1, hr1, hn1⟩ := (ha.ext (hv.ext hd)).at (i := x.toNat) (by omega)
    obtain ⟨b2, o2, q2, c2, hp2, hr2, hn2⟩ := (hb.ext (hv.ext hd)).at (i := x.toNat) (by omega)
    have hcl := hl.getD x.toNat
    refine ⟨b1, o1, hp1, h0, hx, _, _, _, rfl, hr1, b2, o2, hp2, h0, by omega, _, _, _, rfl, hr2, (sameNumbers_ok q1 _ c1 q2 _ c2 hn1 hn2 (by omega)).mono fun e w ⟨he, hw⟩ => ⟨_, he, fun hf => no ((hv.ext hd).ext hw) fun h => ?_, fun ht => ⟨by simp only [inK]; omega, ⟨(hv.ext hd).ext hw, by omega, by omega, fun i hi' => ?_⟩, by first | omega | (dsimp only; omega)⟩⟩⟩
    · rw [decide_eq_false_iff_not] at hf
      exact hf (by rw [h])
    · rw [decide_eq_true_eq] at ht
      rcases (by omega : i < x.toNat ∨ i = x.toNat) with h | rfl
      · exact hi i h
      · exact ht
  · unfold sameT
    rw [decide_eq_true]
    exact (list_eq_iff [] (by omega)).2 fun i hi' => hi i (by omega)

/-- Columns and a number have come. -/
structure RPost (u : World) (r : Cols × Int) (e : Ending) (u' : World) : Prop where
  ex : ∃ p c, e = .returned (.tuple #[TlV p r.1 c, .int .i64 r.2]) ∧ Tl u' p r.1
  ext : Ext u u'

theorem RPost.same {u u' : World} {t : Cols} {q : Option Addr} {n : Int} (h : Tl u q t) (c : Nat) (hu : Ext u u') : RPost u (t, n) (.returned (.tuple #[TlV q t c, .int .i64 n])) u' := ⟨⟨q, c, rfl, h.ext hu⟩, hu⟩

theorem colR_append (p n : Int) (right : Bool) (a b : List Int) : colR p n right (a ++ b) = colR p n right a ++ colR p n right b := by simp [colR]

theorem colR_one (p n : Int) (right : Bool) (x : Int) : colR p n right [x] = if x = p ∧ right = false then [x, n] else [x] := by simp [colR]

theorem splitR_cons (p n : Int) (right : Bool) (c : List Int) (t : Cols) : splitR p n right (c :: t) = if 3 < (colR p n right c).length then none else (splitR p n right t).map fun l => (colR p n right c) :: (if c.contains p ∧ right = true then [n] :: l else l) := rfl

theorem splitTiles_ok {u : World} {q : Option Addr} {t : Cols} (h : Tl u q t) (c : Nat) (p n : Int) (right : Bool) (hl : FewT 1048576 t) :
    Spec Try.prog fn_fenestraref_SplitTiles #[TlV q t c, .int .i64 p, .int .i64 n, .bool right] u (RPost u (splitT t p n right)) := by
  apply vc_fenestraref_SplitTiles_spec
  unfold vc_fenestraref_SplitTiles
  simp only [decide_eq_true_eq, decide_eq_false_iff_not, true_and, Bool.not_eq_true', Bool.not_eq_false']
  have hu : Ext u (allocW (allocW u hole) hole) := ((Upd.refl u).alloc _).alloc _
  refine (goodTiles_ok (h.ext hu) c hl).mono fun e u1 ⟨he, hu1⟩ => ⟨_, he, fun hb => ?_, fun hb => ?_⟩
  · have : splitT t p n right = (t, 1) := by unfold splitT; rw [if_pos (.inl hb)]
    rw [this]
    exact RPost.same h c (hu.ext hu1)
  have hg := goodT_iff.1 hb
  have x1 := hu.ext hu1
  refine (isPane_ok n).mono fun e u2 ⟨he, hu2⟩ => ⟨_, he, fun hb2 => ?_, fun hb2 => ?_⟩
  · have : splitT t p n right = (t, 1) := by unfold splitT; rw [if_pos (.inr hb2)]
    rw [this]
    exact RPost.same h c (x1.ext hu2)
  have x2 := x1.ext hu2
  refine (hasPane_ok (h.ext x2) c p hl).mono fun e u3 ⟨he, hu3⟩ => ⟨_, he, fun hb3 => ?_, fun hb3 => ?_⟩
  · have : splitT t p n right = (t, 3) := by
      unfold splitT
      rw [if_neg (by rw [hb, hb2]; simp), find_none.2 hb3]
    rw [this]
    exact RPost.same h c (x2.ext hu3)
  have x3 := x2.ext hu3
  refine (hasPane_ok (h.ext x3) c n hl).mono fun e u4 ⟨he, hu4⟩ => ⟨_, he, fun hb4 => ?_, fun hb4 => ?_⟩
  · have : splitT t p n right = (t, 4) := by
      obtain ⟨i, k, hf⟩ := has_find.1 hb3
      unfold splitT
      rw [if_neg (by rw [hb, hb2]; simp), hf]
      dsimp only
      rw [if_pos hb4]
    rw [this]
    exact RPost.same h c (x3.ext hu4)
  have x4 := x3.ext hu4
  rw [split_eq hg hb2 hb3 hb4]
  have hfew := hg.few
  refine ⟨fun x _ _ _ op on oc v => ∃ L, (∃ xs, ColsO u v op on oc xs L) ∧ splitR p n right t = (splitR p n right (t.drop x.toNat)).map (L ++ ·) ∧ L.length ≤ 2 * x.toNat ∧ Ext u v ∧ 0 ≤ x ∧ x ≤ t.length, fun x _ _ _ _ _ _ _ => (t.length - x).toNat,
    ⟨[], ⟨[], ColsO.nil _ _⟩, by simp, by simp, x4.alloc _, Int.le_refl _, by omega⟩, ?_⟩
  rintro x z1 z2 z3 op on oc v ⟨L, ⟨xs, O⟩, hS, hL, hv, h0, h1⟩
  refine ⟨fun hx => ?_, fun hx => ?_⟩
  · obtain ⟨b, o, q', c', hp, hr, hnum⟩ := (h.ext hv).at (i := x.toNat) (by omega)
    have hce := hg.each _ (getD_mem (l := t) (d := []) (i := x.toNat) (by omega))
    have hdrop : t.drop x.toNat = t.getD x.toNat [] :: t.drop (x.toNat + 1) := by
      rw [List.drop_eq_getElem_cons (by omega), List.getD_eq_getElem?_getD, List.getElem?_eq_getElem (by omega)]
      rfl
    rw [hdrop, splitR_cons] at hS
    generalize t.getD x.toNat [] = cl at hr hnum hce hS
    have hOl := O.len
    refine ⟨b, o, hp, h0, hx, _, _, _, rfl, hr, ?_⟩
    refine ⟨fun cp cn cc here y w => Own w 1 cp cn cc (numV (colR p n right (cl.take y.toNat))) ∧ (∀ k, At cp k → v.heap.size ≤ k) ∧ here = (cl.take y.toNat).contains p ∧ Ext v w ∧ 0 ≤ y ∧ y ≤ cl.length, fun _ _ _ _ y _ => (cl.length - y).toNat,
      ⟨by simpa [colR, numV] using Own.nil v 1, fun k hk => (at_none hk).elim, by simp, Upd.refl _, Int.le_refl _, by omega⟩, ?_⟩
    rintro cp cn cc here y w ⟨co, ck, rfl, hw, y0, y1⟩
    have hcn := co.len'
    have hcb : (colR p n right (cl.take y.toNat)).length ≤ 2 * y.toNat := by
      have : ∀ l : List Int, (colR p n right l).length ≤ 2 * l.length := fun l => by
        induction l with
        | nil => simp [colR]
        | cons a l ih =>
          rw [show a :: l = [a] ++ l from rfl, colR_append, colR_one, List.length_append, List.length_append]
          split <;> simp <;> omega
      have := this (cl.take y.toNat)
      rw [List.length_take] at this
      omega
    refine ⟨fun hy => ?_, fun hy => ?_⟩
    · obtain ⟨b1, o1, hp1, hr1⟩ := (hnum.ext hw).at (i := y.toNat) (by omega)
      have htk := take_succ_getD cl 0 (i := y.toNat) (by omega)
      have hy1 : (y + 1).toNat = y.toNat + 1 := by omega
      generalize cl.getD y.toNat 0 = z at hr1 htk
      have hcol : colR p n right (cl.take (y + 1).toNat) = colR p n right (cl.take y.toNat) ++ if z = p ∧ right = false then [z, n] else [z] := by rw [hy1, htk, colR_append, colR_one]
      have hcon : (cl.take (y + 1).toNat).contains p = ((cl.take y.toNat).contains p || decide (z = p)) := by
        rw [hy1, htk, Bool.eq_iff_iff]
        simp only [List.contains_iff_mem, List.mem_append, List.mem_cons, List.not_mem_nil, or_false, Bool.or_eq_true, decide_eq_true_eq]
        exact ⟨fun h => h.imp id fun h => h.symm, fun h => h.imp id fun h => h.symm⟩
      refine ⟨b1, o1, hp1, y0, hy, _, rfl, hr1, co.pushI (by omega) z ty_int ty_int fun p1 c1 w1 ho1 hu1 hk1 => ?_⟩
      have hw1 : Ext v w1 := (hw.trans hu1 fun k hk hat => by have := ck k hat; omega).mono fun _ _ h => h
      have hws := hw.size
      have ck1 : ∀ k, At p1 k → v.heap.size ≤ k := fun k hk => by
        rcases hk1 k hk with h2 | h2
        · exact ck k h2
        · omega
      have fin : ∀ {cp' : Option Addr} {cn' cc' : Nat} {w' : World} {hr : Bool}, Own w' 1 cp' cn' cc' (numV (colR p n right (cl.take (y + 1).toNat))) → (∀ k, At cp' k → v.heap.size ≤ k) → hr = (cl.take (y + 1).toNat).contains p → Ext v w' →
          inK .i64 (y + 1) ∧ (Own w' 1 cp' cn' cc' (numV (colR p n right (cl.take (y + 1).toNat))) ∧ (∀ k, At cp' k → v.heap.size ≤ k) ∧ hr = (cl.take (y + 1).toNat).contains p ∧ Ext v w' ∧ 0 ≤ y + 1 ∧ y + 1 ≤ cl.length) ∧ ((cl.length : Int) - (y + 1)).toNat < ((cl.length : Int) - y).toNat := fun a b c d => ⟨by simp only [inK]; omega, ⟨a, b, c, d, by omega, by omega⟩, by omega⟩
      refine ⟨fun hz => ⟨fun hr0 => ?_, fun hr0 => ?_⟩, fun hz => ?_⟩
      · refine ho1.pushI (by omega) n ty_int ty_int fun p2 c2 w2 ho2 hu2 hk2 => ?_
        have hw1s := hw1.size
        refine fin ?_ (fun k hk => ?_) (by rw [hcon, decide_eq_true hz, Bool.or_true]) ((hw1.trans hu2 fun k hk hat => by have := ck1 k hat; omega).mono fun _ _ h => h)
        · rw [hcol, if_pos ⟨hz, hr0⟩, show ∀ l : List Int, l ++ [z, n] = l ++ [z] ++ [n] by intro l; simp]
          exact ho2
        · rcases hk2 k hk with h2 | h2
          · exact ck1 k h2
          · omega
      · refine fin ?_ ck1 (by rw [hcon, decide_eq_true hz, Bool.or_true]) hw1
        rw [hcol, if_neg (by rw [hr0]; simp)]
        exact ho1
      · refine fin ?_ ck1 (by rw [hcon, decide_eq_false hz, Bool.or_false]) hw1
        rw [hcol, if_neg (fun hh => hz hh.1)]
        exact ho1
    · have hty : cl.take y.toNat = cl := List.take_of_length_le (by omega)
      rw [hty] at co hcb hcn ⊢
      have hvw := hv.ext hw
      refine ⟨fun h3 => ?_, fun h3 => ?_⟩
      · rw [if_pos (by omega)] at hS
        rw [hS]
        exact RPost.same h c hvw
      rw [if_neg (by omega)] at hS
      subst hcn
      have hvs := hv.size
      have hws := hw.size
      refine (O.ext hw).push (q := cp) (cq := cc) (by omega) (by omega) co.nums (fun k hk => ⟨(co.at hk).1, fun hat => by have := (O.own.at hat).1; have := ck k hk; omega⟩) ty_sl_int ty_sl_int fun p3 c3 w3 ⟨ys, O3⟩ hu3 => ?_
      have hx1 : (x + 1).toNat = x.toNat + 1 := by omega
      have hw3 : Ext u w3 := (hvw.trans hu3 fun k hk hat => by have := O.new k hat; omega).mono fun _ _ h => h
      have fin : ∀ {op' : Option Addr} {on' oc' : Nat} {w' : World} (L' : Cols), (∃ xs, ColsO u w' op' on' oc' xs L') → splitR p n right t = (splitR p n right (t.drop (x.toNat + 1))).map (L' ++ ·) → L'.length ≤ 2 * (x + 1).toNat → Ext u w' →
          inK .i64 (x + 1) ∧ (∃ L, (∃ xs, ColsO u w' op' on' oc' xs L) ∧ splitR p n right t = (splitR p n right (t.drop (x + 1).toNat)).map (L ++ ·) ∧ L.length ≤ 2 * (x + 1).toNat ∧ Ext u w' ∧ 0 ≤ x + 1 ∧ x + 1 ≤ t.length) ∧ ((t.length : Int) - (x + 1)).toNat < ((t.length : Int) - x).toNat := fun L' a b c d => ⟨by simp only [inK]; omega, ⟨L', a, by rw [hx1]; exact b, c, d, by omega, by omega⟩, by omega⟩
      have hL1 : (L ++ [colR p n right cl]).length = L.length + 1 := by simp
      have plain : ¬ (cl.contains p = true ∧ right = true) → inK .i64 (x + 1) ∧ (∃ L, (∃ xs, ColsO u w3 p3 (on + 1) c3 xs L) ∧ splitR p n right t = (splitR p n right (t.drop (x + 1).toNat)).map (L ++ ·) ∧ L.length ≤ 2 * (x + 1).toNat ∧ Ext u w3 ∧ 0 ≤ x + 1 ∧ x + 1 ≤ t.length) ∧ ((t.length : Int) - (x + 1)).toNat < ((t.length : Int) - x).toNat := fun hn => by
        refine fin (L ++ [colR p n right cl]) ⟨ys, O3⟩ ?_ (by omega) hw3
        rw [hS, Option.map_map]
        congr 1
        funext l
        simp only [Function.comp, if_neg hn]
        simp
      refine ⟨fun hh => ⟨fun hr1 => ?_, fun hr1 => plain (fun hc => by rw [hc.2] at hr1; cases hr1)⟩, fun hh => plain (fun hc => by rw [hc.1] at hh; cases hh)⟩
      have ha : Ext w3 (allocW w3 (.cells #[.int .i64 n] ty_int)) := (Upd.refl _).alloc _
      have nf : Nums (allocW w3 (.cells #[.int .i64 n] ty_int)) (some ⟨w3.heap.size, 0, none⟩) 1 [n] := (Own.fresh w3 (cs := numV [n]) (n := 1) (es := 1) rfl).nums
      have h3s := hw3.size
      have hal : (allocW w3 (.cells #[.int .i64 n] ty_int)).heap.size = w3.heap.size + 1 := size_alloc _ _
      refine (O3.ext ha).push (q := some ⟨w3.heap.size, 0, none⟩) (cq := 1) (l := [n]) (by omega) (by omega) nf (fun k hk => by
        have := at_some hk
        simp only at this
        refine ⟨by omega, fun hat => ?_⟩
        have := (O3.own.at hat).1
        omega) ty_sl_int ty_sl_int fun p4 c4 w4 ⟨zs, O4⟩ hu4 => ?_
      refine fin (L ++ [colR p n right cl] ++ [[n]]) ⟨zs, O4⟩ ?_ (by simp; omega) (((hw3.ext ha).trans hu4 fun k hk hat => by have := O3.new k hat; omega).mono fun _ _ h => h)
      rw [hS, Option.map_map]
      congr 1
      funext l
      simp only [Function.comp, if_pos (And.intro hh hr1)]
      simp
  · rw [List.drop_eq_nil_of_le (by omega)] at hS
    rw [hS]
    show RPost u (L ++ [], 0) _ _
    rw [List.append_nil, ← O.len]
    exact ⟨⟨op, oc, rfl, O.tl⟩, hv⟩

theorem killR_cons (c : List Int) (t : Cols) (p : Int) : killR (c :: t) p = if (c.filter (· ≠ p)).isEmpty = true then killR t p else c.filter (· ≠ p) :: killR t p := by
  unfold killR
  rw [List.map_cons, List.filter_cons]
  cases h : (c.filter (· ≠ p)).isEmpty <;> simp [h]

theorem killPane_ok {u : World} {q : Option Addr} {t : Cols} (h : Tl u q t) (c : Nat) (p : Int) (hl : FewT 1048576 t) :
    Spec Try.prog fn_fenestraref_KillPane #[TlV q t c, .int .i64 p] u (RPost u (killT t p)) := by
  apply vc_fenestraref_KillPane_spec
  unfold vc_fenestraref_KillPane
  simp only [decide_eq_true_eq, decide_eq_false_iff_not, true_and, Bool.not_eq_true', Bool.not_eq_false']
  have hu : Ext u (allocW (allocW u hole) hole) := ((Upd.refl u).alloc _).alloc _
  refine (goodTiles_ok (h.ext hu) c hl).mono fun e u1 ⟨he, hu1⟩ => ⟨_, he, fun hb => ?_, fun hb => ?_⟩
  · have : killT t p = (t, 1) := by unfold killT; rw [if_pos hb]
    rw [this]
    exact RPost.same h c (hu.ext hu1)
  have hg := goodT_iff.1 hb
  have x1 := hu.ext hu1
  refine (hasPane_ok (h.ext x1) c p hl).mono fun e u2 ⟨he, hu2⟩ => ⟨_, he, fun hb3 => ?_, fun hb3 => ?_⟩
  · have : killT t p = (t, 3) := by
      unfold killT
      rw [if_neg (by rw [hb]; simp), find_none.2 hb3]
    rw [this]
    exact RPost.same h c (x1.ext hu2)
  have x2 := x1.ext hu2
  refine (all_ok (h.ext x2) c hl).mono fun e u3 ⟨lp, lc, he, _, _, hu3⟩ => ⟨_, _, _, he, ?_⟩
  have x3 := x2.ext hu3
  have hone : t.flatten.length = 1 ↔ t.length = 1 ∧ (t.getD 0 []).length = 1 := by
    constructor
    · intro h1
      have h2 := cols_len fun c hc => (hg.each c hc).1
      have h3 : t.length ≠ 0 := fun e => hg.some (List.length_eq_zero_iff.1 e)
      have h4 : t.length = 1 := by omega
      match t, h4 with
      | [a], _ => simpa using h1
    · rintro ⟨h1, h2⟩
      match t, h1 with
      | [a], _ => simpa using h2
  refine ⟨fun h1 => ?_, fun h1 => ?_⟩
  · have : killT t p = (t, 5) := by
      obtain ⟨i, k, hf⟩ := has_find.1 hb3
      unfold killT
      rw [if_neg (by rw [hb]; simp), hf]
      dsimp only
      rw [if_pos (hone.1 (by omega))]
    rw [this]
    exact RPost.same h c x3
  rw [kill_eq hg hb3 fun hh => h1 (by have := hone.2 hh; omega)]
  have hfew := hg.few
  refine ⟨fun x op on oc v => ∃ L, (∃ xs, ColsO u v op on oc xs L) ∧ killR t p = L ++ killR (t.drop x.toNat) p ∧ L.length ≤ x.toNat ∧ Ext u v ∧ 0 ≤ x ∧ x ≤ t.length, fun x _ _ _ _ => (t.length - x).toNat,
    ⟨[], ⟨[], ColsO.nil _ _⟩, by simp, by simp, x3.alloc _, Int.le_refl _, by omega⟩, ?_⟩
  rintro x op on oc v ⟨L, ⟨xs, O⟩, hS, hL, hv, h0, h1⟩
  refine ⟨fun hx => ?_, fun hx => ?_⟩
  · obtain ⟨b, o, q', c', hp, hr, hnum⟩ := (h.ext hv).at (i := x.toNat) (by omega)
    have hce := hg.each _ (getD_mem (l := t) (d := []) (i := x.toNat) (by omega))
    have hdrop : t.drop x.toNat = t.getD x.toNat [] :: t.drop (x.toNat + 1) := by
      rw [List.drop_eq_getElem_cons (by omega), List.getD_eq_getElem?_getD, List.getElem?_eq_getElem (by omega)]
      rfl
    rw [hdrop, killR_cons] at hS
    generalize t.getD x.toNat [] = cl at hr hnum hce hS
    have hOl := O.len
    refine ⟨b, o, hp, h0, hx, _, _, _, rfl, hr, ?_⟩
    refine ⟨fun cp cn cc y w => Own w 1 cp cn cc (numV ((cl.take y.toNat).filter (· ≠ p))) ∧ (∀ k, At cp k → v.heap.size ≤ k) ∧ Ext v w ∧ 0 ≤ y ∧ y ≤ cl.length, fun _ _ _ y _ => (cl.length - y).toNat,
      ⟨by simpa [numV] using Own.nil v 1, fun k hk => (at_none hk).elim, Upd.refl _, Int.le_refl _, by omega⟩, ?_⟩
    rintro cp cn cc y w ⟨co, ck, hw, y0, y1⟩
    have hcn := co.len'
    have hcb : ((cl.take y.toNat).filter (· ≠ p)).length ≤ y.toNat := Nat.le_trans (List.length_filter_le _ _) (by rw [List.length_take]; omega)
    have hws := hw.size
    refine ⟨fun hy => ?_, fun hy => ?_⟩
    · obtain ⟨b1, o1, hp1, hr1⟩ := (hnum.ext hw).at (i := y.toNat) (by omega)
      have htk := take_succ_getD cl 0 (i := y.toNat) (by omega)
      have hy1 : (y + 1).toNat = y.toNat + 1 := by omega
      generalize cl.getD y.toNat 0 = z at hr1 htk
      have hfil : (cl.take (y + 1).toNat).filter (· ≠ p) = (cl.take y.toNat).filter (· ≠ p) ++ if z = p then [] else [z] := by
        rw [hy1, htk, List.filter_append]
        congr 1
        by_cases hz : z = p <;> simp [hz]
      refine ⟨b1, o1, hp1, y0, hy, _, rfl, hr1, fun hz => ?_, fun hz => ?_⟩
      · refine co.pushI (by omega) z ty_int ty_int fun p1 c1 w1 ho1 hu1 hk1 => ⟨by simp only [inK]; omega, ⟨?_, fun k hk => ?_, (hw.trans hu1 fun k hk hat => by have := ck k hat; omega).mono fun _ _ h => h, by omega, by omega⟩, by first | omega | (dsimp only; omega)⟩
        · rw [hfil, if_neg hz]
          exact ho1
        · rcases hk1 k hk with h2 | h2
          · exact ck k h2
          · omega
      · refine ⟨by simp only [inK]; omega, ⟨?_, ck, hw, by omega, by omega⟩, by first | omega | (dsimp only; omega)⟩
        rw [hfil, if_pos hz, List.append_nil]
        exact co
    · have hty : cl.take y.toNat = cl := List.take_of_length_le (by omega)
      rw [hty] at co hcb hcn
      have hvw := hv.ext hw
      have hvs := hv.size
      have hx1 : (x + 1).toNat = x.toNat + 1 := by omega
      have hemp : (cl.filter (· ≠ p)).isEmpty = true ↔ cn = 0 := by
        rw [List.isEmpty_iff, ← List.length_eq_zero_iff, hcn]
      refine ⟨fun h3 => ?_, fun h3 => ?_⟩
      · rw [if_neg (by rw [hemp]; omega)] at hS
        subst hcn
        refine (O.ext hw).push (q := cp) (cq := cc) (by omega) (by omega) co.nums (fun k hk => ⟨(co.at hk).1, fun hat => by have := (O.own.at hat).1; have := ck k hk; omega⟩) ty_sl_int ty_sl_int fun p3 c3 w3 hO3 hu3 => ?_
        refine ⟨by simp only [inK]; omega, ⟨_, hO3, by rw [hx1, hS]; simp, by simp; omega, (hvw.trans hu3 fun k hk hat => by have := O.new k hat; omega).mono fun _ _ h => h, by omega, by omega⟩, by first | omega | (dsimp only; omega)⟩
      · rw [if_pos (by rw [hemp]; omega)] at hS
        exact ⟨by simp only [inK]; omega, ⟨L, ⟨xs, O.ext hw⟩, by rw [hx1]; exact hS, by omega, hvw, by omega, by omega⟩, by first | omega | (dsimp only; omega)⟩
  · rw [List.drop_eq_nil_of_le (by omega)] at hS
    have : killR t p = L := by rw [hS]; simp [killR]
    rw [this, ← O.len]
    exact ⟨⟨op, oc, rfl, O.tl⟩, hv⟩

end Go.Proofs.Ytkmmphkjmamckab
