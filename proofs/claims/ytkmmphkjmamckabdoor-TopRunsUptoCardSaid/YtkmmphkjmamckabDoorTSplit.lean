/-
  Panes put in and taken out: the program's functions.
-/
import Derived.Test.YtkmmphkjmamckabDoorTIns
import Derived.Test.YtkmmphkjmamckabDoorTWalk
import Derived.Test.YtkmmphkjmamckabDoorPClone
import Derived.Test.YtkmmphkjmamckabDoorZVa
namespace Go.Proofs.YtkmmphkjmamckabDoor
open Go
set_option linter.all false

/-- Columns, and where all of them lies. -/
def TlF (u : World) (ok : Nat → Prop) (p : Option Addr) (t : Cols) : Prop := ∃ ls, Arr u 1 p t.length ls ∧ ColsV u ok ls t ∧ ∀ k, At p k → ok k

theorem TlF.tl {u : World} {ok : Nat → Prop} {p : Option Addr} {t : Cols} (h : TlF u ok p t) : Tl u p t := by
  obtain ⟨ls, h1, h2, _⟩ := h
  exact ⟨ls, h1, ColsV.upd (S := fun _ => False) (Upd.refl u) (fun _ _ => ⟨fun h => h, trivial⟩) h2⟩

theorem TlF.mono {u : World} {ok ok' : Nat → Prop} {p : Option Addr} {t : Cols} (h : TlF u ok p t) (hk : ∀ k, ok k → ok' k) : TlF u ok' p t := by
  obtain ⟨ls, h1, h2, h3⟩ := h
  exact ⟨ls, h1, ColsV.upd (S := fun _ => False) (Upd.refl u) (fun _ hk1 => ⟨fun h => h, hk _ hk1⟩) h2, fun k hk1 => hk k (h3 k hk1)⟩

def ColW (u : World) (ok : Nat → Prop) (v : Value) (l : List Int) : Prop := ∃ q c, v = .slice q l.length c ∧ Nums u q l.length l ∧ ∀ k, At q k → ok k

def ColsW (u : World) (ok : Nat → Prop) : List Value → Cols → Prop
  | [], [] => True
  | v :: vs, l :: ls => ColW u ok v l ∧ ColsW u ok vs ls
  | _, _ => False

section
variable {u u' : World} {ok : Nat → Prop}

theorem ColsW.len : ∀ {vs : List Value} {ls : Cols}, ColsW u ok vs ls → vs.length = ls.length
  | [], [], _ => rfl
  | _ :: _, _ :: _, h => by simp only [List.length_cons, ColsW.len h.2]

theorem ColsW.take : ∀ {vs : List Value} {ls : Cols} (i : Nat), ColsW u ok vs ls → ColsW u ok (vs.take i) (ls.take i)
  | [], [], _, _ => by simp [ColsW]
  | _ :: _, _ :: _, 0, _ => by simp [ColsW]
  | _ :: _, _ :: _, i + 1, h => ⟨h.1, ColsW.take i h.2⟩

theorem ColsW.drop : ∀ {vs : List Value} {ls : Cols} (i : Nat), ColsW u ok vs ls → ColsW u ok (vs.drop i) (ls.drop i)
  | [], [], _, _ => by simp [ColsW]
  | _ :: _, _ :: _, 0, h => h
  | _ :: _, _ :: _, i + 1, h => ColsW.drop i h.2

theorem ColsW.append : ∀ {vs : List Value} {ls : Cols} {ws : List Value} {ms : Cols}, ColsW u ok vs ls → ColsW u ok ws ms → ColsW u ok (vs ++ ws) (ls ++ ms)
  | [], [], _, _, _, h => h
  | _ :: _, _ :: _, _, _, h, k => ⟨h.1, ColsW.append h.2 k⟩

theorem ColsW.of_fun : ∀ (t : Cols) (f : Nat → Value), (∀ i : Nat, i < t.length → ColW u ok (f i) (t.getD i [])) → ColsW u ok ((List.range t.length).map f) t
  | [], _, _ => by simp [ColsW]
  | l :: t, f, h => by
    rw [List.length_cons, List.range_succ_eq_map, List.map_cons, List.map_map]
    refine ⟨by simpa using h 0 (by simp), ColsW.of_fun t (f ∘ Nat.succ) fun i hi => ?_⟩
    have := h (i + 1) (by simp; omega)
    simpa using this

theorem ColsW.cols : ∀ {vs : List Value} {ls : Cols}, ColsW u ok vs ls → ColsV u ok (vs.map fun v => [v]) ls
  | [], [], _ => trivial
  | _ :: _, _ :: _, h => ⟨by
    obtain ⟨q, c, h1, h2, h3⟩ := h.1
    exact ⟨q, c, by rw [h1], h2, h3⟩, ColsW.cols h.2⟩

theorem flat_one : ∀ vs : List Value, (vs.map fun v => [v]).flatten = vs
  | [] => rfl
  | v :: vs => by rw [List.map_cons, List.flatten_cons, flat_one vs]; rfl

theorem ColsW.tlF {p : Option Addr} {vs : List Value} {t : Cols} (h : ColsW u ok vs t) (hp : Gets u p vs) (hk : ∀ k, At p k → ok k) : TlF u ok p t :=
  ⟨vs.map fun v => [v], ⟨by rw [flat_one]; exact hp, by rw [List.length_map]; exact h.len, fun y hy => by obtain ⟨v, _, rfl⟩ := List.mem_map.1 hy; rfl⟩, h.cols, hk⟩

end

/-- A column's slice. -/
abbrev colV (t : Cols) (bf cf : Nat → Nat) (i : Nat) : Value := .slice (some ⟨bf i, 0, none⟩) (t.getD i []).length (cf i)

/-- Columns of one's own, each in a block of its own. -/
structure OwnT (u0 u : World) (b c : Nat) (t : Cols) (bf cf : Nat → Nat) : Prop where
  own : Own u 1 (some ⟨b, 0, none⟩) t.length c ((List.range t.length).map (colV t bf cf))
  col : ∀ i : Nat, i < t.length → Own u 1 (some ⟨bf i, 0, none⟩) (t.getD i []).length (cf i) (numV (t.getD i []))
  dist : ∀ i j : Nat, i < t.length → j < t.length → bf i = bf j → i = j
  out : ∀ i : Nat, i < t.length → bf i ≠ b ∧ u0.heap.size ≤ bf i
  new : u0.heap.size ≤ b

theorem OwnT.cols {u0 u : World} {b c : Nat} {t : Cols} {bf cf : Nat → Nat} (h : OwnT u0 u b c t bf cf) : ColsW u (fun k => u0.heap.size ≤ k) ((List.range t.length).map (colV t bf cf)) t :=
  ColsW.of_fun t _ fun i hi => ⟨_, _, rfl, (h.col i hi).nums, fun k hk => by have := at_some hk; simp only at this; rw [this]; exact (h.out i hi).2⟩

theorem OwnT.ext {u0 u u' : World} {b c : Nat} {t : Cols} {bf cf : Nat → Nat} (h : OwnT u0 u b c t bf cf) (hu : Ext u u') : OwnT u0 u' b c t bf cf :=
  ⟨h.own.ext hu, fun i hi => (h.col i hi).ext hu, h.dist, h.out, h.new⟩

theorem OwnT.rd {u0 u : World} {b c : Nat} {t : Cols} {bf cf : Nat → Nat} (h : OwnT u0 u b c t bf cf) {i : Nat} (hi : i < t.length) : Rd u b (0 + i * 1) [colV t bf cf i] := by
  obtain ⟨_, hr⟩ := h.own.gets
  have e : (List.range t.length).map (colV t bf cf) = ((List.range t.length).map (colV t bf cf)).take i ++ ([colV t bf cf i] ++ ((List.range t.length).map (colV t bf cf)).drop (i + 1)) := by
    conv => lhs; rw [← List.take_append_drop i ((List.range t.length).map (colV t bf cf)), List.drop_eq_getElem_cons (by simpa using hi)]
    simp
  rw [e] at hr
  have h1 := (rd_take _ _ _ hr).2
  have h2 := (rd_take _ _ _ h1).1
  rw [List.length_take, List.length_map, List.length_range] at h2
  rwa [show 0 + min i t.length = 0 + i * 1 by omega] at h2

theorem has_ok {u : World} {q : Option Addr} {t : Cols} (h : Tl u q t) (c : Nat) (p : Int) (hl : FewT 10000000 t) :
    Spec Tryd.prog fn_tiles_Has #[TlV q t c, .int .i64 p] u (Told u (hasT t p)) := by
  apply vc_tiles_Has_spec
  unfold vc_tiles_Has
  have hu : Ext u (allocW u hole) := (Upd.refl u).alloc _
  refine (find_ok (h.ext hu) c p hl).mono fun e u1 ⟨he, hu1⟩ => ?_
  unfold findV at he
  cases hf : findT t p with
  | none =>
    rw [hf] at he
    exact ⟨_, _, _, he, by rw [find_none.1 hf], hu.ext hu1⟩
  | some x =>
    obtain ⟨i, k⟩ := x
    rw [hf] at he
    exact ⟨_, _, _, he, by rw [has_find.2 ⟨i, k, hf⟩], hu.ext hu1⟩

theorem okCells_slices {t : Cols} {bf cf : Nat → Nat} : okCells ((List.range t.length).map (colV t bf cf)) True := by
  rw [okCells_iff]
  refine ⟨fun c hc => ?_, trivial⟩
  obtain ⟨i, _, rfl⟩ := List.mem_map.1 hc
  rfl

theorem own_ok {u : World} {q : Option Addr} {t : Cols} (h : Tl u q t) (hg : GoodT t) (c : Nat) :
    Spec Tryd.prog fn_tiles_own #[TlV q t c] u fun e u' => ∃ b c' bf cf, e = .returned (.agg #[.slice (some ⟨b, 0, none⟩) t.length c']) ∧ OwnT u u' b c' t bf cf ∧ Ext u u' := by
  apply vc_tiles_own_spec
  unfold vc_tiles_own
  simp only [decide_eq_true_eq, decide_eq_false_iff_not, true_and]
  have hu : Ext u (allocW (allocW (allocW u hole) hole) hole) := (((Upd.refl u).alloc _).alloc _).alloc _
  have hn := hg.few
  have hne : t.length ≠ 0 := fun e => hg.some (List.length_eq_zero_iff.1 e)
  refine ⟨fun x p n cap v => ∃ bf cf : Nat → Nat, Own v 1 p n cap ((List.range x.toNat).map (colV t bf cf)) ∧ (∀ i : Nat, i < x.toNat → Own v 1 (some ⟨bf i, 0, none⟩) (t.getD i []).length (cf i) (numV (t.getD i []))) ∧ (∀ i j : Nat, i < x.toNat → j < x.toNat → bf i = bf j → i = j) ∧
      (∀ i : Nat, i < x.toNat → ¬ At p (bf i) ∧ u.heap.size ≤ bf i ∧ bf i < v.heap.size) ∧ (∀ k, At p k → u.heap.size ≤ k) ∧ n = x.toNat ∧ Ext u v ∧ 0 ≤ x ∧ x ≤ t.length, fun x _ _ _ _ => (t.length - x).toNat,
    ⟨fun _ => 0, fun _ => 0, Own.nil _ _, by omega, by omega, by omega, fun k hk => (at_none hk).elim, rfl, hu, Int.le_refl _, by omega⟩, ?_⟩
  rintro x p n cap v ⟨bf, cf, o, cl, di, ou, nw, rfl, hv, h0, h1⟩
  refine ⟨fun hx => ?_, fun hx => ?_⟩
  · obtain ⟨b, of, q', c', hp, hr, hnum⟩ := (h.ext hv).at (i := x.toNat) (by omega)
    have hcm := hg.each _ (getD_mem (l := t) (d := []) (i := x.toNat) (by omega))
    have hd : Ext v (drewW v) := (Upd.refl v).drew
    refine ⟨b, of, hp, h0, hx, _, _, _, rfl, hr, (clone_ok q' _ c' (hnum.ext hd) (by omega)).mono fun e w ⟨q2, c2, he, ho2, hw, hnew⟩ => ⟨_, _, _, he, ?_⟩⟩
    obtain ⟨nb, rfl⟩ := ho2.some' (by omega)
    have hnb : v.heap.size ≤ nb := hnew nb ⟨_, rfl, rfl⟩
    have hnl : nb < w.heap.size := (ho2.at ⟨_, rfl, rfl⟩).1
    have hvw := hd.ext hw
    have ha : Ext w (allocW w (.cells #[.slice (some ⟨nb, 0, none⟩) (t.getD x.toNat []).length c2] ty_sl_int)) := (Upd.refl _).alloc _
    have o' := (o.ext hvw).ext ha
    have ef : Own (allocW w (.cells #[.slice (some ⟨nb, 0, none⟩) (t.getD x.toNat []).length c2] ty_sl_int)) 1 _ 1 1 [.slice (some ⟨nb, 0, none⟩) (t.getD x.toNat []).length c2] := Own.fresh w (cs := [.slice (some ⟨nb, 0, none⟩) (t.getD x.toNat []).length c2]) rfl
    refine ⟨_, [.slice (some ⟨nb, 0, none⟩) (t.getD x.toNat []).length c2], o'.len, o'.gets, rfl, ef.gets, by decide, by omega, by simp [okCells], fun hc => o'.wrs (by omega), fun p' cap' w2 hr2 => ?_⟩
    obtain ⟨a1, a2, a3⟩ := o'.app hr2 o'.len o'.gets rfl rfl
    have hx1 : (x + 1).toNat = x.toNat + 1 := by omega
    have hpv : ∀ k, At p k → k < v.heap.size := fun k hk => (o.at hk).1
    have hsz := hw.size
    have hsz0 : (drewW v).heap.size = v.heap.size := rfl
    have hsa := a2.size
    have hal : (allocW w (.cells #[.slice (some ⟨nb, 0, none⟩) (t.getD x.toNat []).length c2] ty_sl_int)).heap.size = w.heap.size + 1 := size_alloc _ _
    have hp' : ∀ k, At p' k → At p k ∨ w.heap.size < k := fun k hk => by
      rcases a3 with ⟨rfl, _⟩ | ⟨rfl, _⟩
      · exact .inl hk
      · right; rw [at_some hk]; show w.heap.size < (allocW w _).heap.size; omega
    have hvw2 : Upd (At p) v w2 := ((hvw.ext ha).any (S := At p)).trans a2 fun _ _ h => h
    refine ⟨by simp only [inK]; omega, ⟨fun i => if i = x.toNat then nb else bf i, fun i => if i = x.toNat then c2 else cf i, ?_, fun i hi => ?_, fun i j hi hj hij => ?_, fun i hi => ?_, fun k hk => ?_, by omega, ?_, by omega, by omega⟩, by first | omega | (dsimp only; omega)⟩
    · rw [hx1, List.range_succ, List.map_append, List.map_singleton]
      have e1 : (List.range x.toNat).map (colV t (fun i => if i = x.toNat then nb else bf i) fun i => if i = x.toNat then c2 else cf i) = (List.range x.toNat).map (colV t bf cf) := by
        refine List.map_congr_left fun i hi => ?_
        have : i ≠ x.toNat := by have := List.mem_range.1 hi; omega
        simp only [colV, if_neg this]
      rw [e1]
      simp only [colV, if_true]
      exact a1
    · rw [hx1] at hi
      by_cases e : i = x.toNat
      · subst e
        simp only [if_true]
        exact ((ho2.ext ha).upd a2 fun k hk hat => by have := hpv k hat; have := at_some hk; simp only at this; omega)
      · simp only [if_neg e]
        exact (cl i (by omega)).upd hvw2 fun k hk hat => by
          have := at_some hk
          simp only at this
          subst this
          exact (ou i (by omega)).1 hat
    · rw [hx1] at hi hj
      have hb := fun i (hi : i < x.toNat) => (ou i hi).2.2
      by_cases e : i = x.toNat <;> by_cases e2 : j = x.toNat
      · omega
      · simp only [e, if_true, if_neg e2] at hij
        have := hb j (by omega)
        omega
      · simp only [e2, if_true, if_neg e] at hij
        have := hb i (by omega)
        omega
      · simp only [if_neg e, if_neg e2] at hij
        exact di i j (by omega) (by omega) hij
    · rw [hx1] at hi
      by_cases e : i = x.toNat
      · simp only [if_pos e]
        refine ⟨fun hat => ?_, by have := hv.size; omega, by omega⟩
        rcases hp' _ hat with h | h
        · have := hpv _ h; omega
        · omega
      · simp only [if_neg e]
        obtain ⟨g1, g2, g3⟩ := ou i (by omega)
        refine ⟨fun hat => ?_, g2, by omega⟩
        rcases hp' _ hat with h | h
        · exact g1 h
        · omega
    · rcases hp' k hk with h | h
      · exact nw k h
      · have := hv.size; omega
    · exact (hv.trans hvw2 fun k hk hat => by have := nw k hat; omega).mono fun _ _ h => h
  · have hxn : x.toNat = t.length := by omega
    rw [hxn] at o cl di ou ⊢
    obtain ⟨b, rfl⟩ := o.some' (by omega)
    exact ⟨b, cap, bf, cf, rfl, ⟨o, cl, di, fun i hi => ⟨fun e => (ou i hi).1 ⟨_, rfl, e.symm⟩, (ou i hi).2.1⟩, nw b ⟨_, rfl, rfl⟩⟩, hv⟩

/-- Columns and a number have come. -/
structure TPost (u : World) (r : Cols × Int) (e : Ending) (u' : World) : Prop where
  ex : ∃ p c, e = .returned (.tuple #[TlV p r.1 c, .int .i64 r.2]) ∧ Tl u' p r.1 ∧ (r.2 = 0 → TlF u' (fun k => u.heap.size ≤ k) p r.1)
  ext : Ext u u'

theorem TPost.same {u u' : World} {t : Cols} {q : Option Addr} {n : Int} (hn : n ≠ 0) (h : Tl u q t) (c : Nat) (hu : Ext u u') : TPost u (t, n) (.returned (.tuple #[TlV q t c, .int .i64 n])) u' := ⟨⟨q, c, rfl, h.ext hu, fun h => (hn h).elim⟩, hu⟩

theorem range_set {t : Cols} {f g : Nat → Value} {i : Nat} (hi : i < t.length) (hfg : ∀ j, j ≠ i → f j = g j) : ((List.range t.length).map f).take i ++ [g i] ++ ((List.range t.length).map f).drop (i + 1) = (List.range t.length).map g := by
  have e : ((List.range t.length).map f).set i (g i) = (List.range t.length).map g := by
    refine List.ext_getElem (by simp) fun j h1 h2 => ?_
    rw [List.getElem_set]
    split
    · next e => subst e; simp
    · next e => simp [hfg j (fun h => e h.symm)]
  rw [← e, set_split (by simpa using hi)]
  simp

/-- One column is other than it was; it is stored. -/
theorem OwnT.store {u0 u v : World} {b c : Nat} {t : Cols} {bf cf : Nat → Nat} (h : OwnT u0 u b c t bf cf) {i : Nat} (hi : i < t.length) {p' : Option Addr} {c' : Nat} {l : List Int} (ho : Nums v p' l.length l) (hu : Upd (At (some ⟨bf i, 0, none⟩)) u v) (hk : ∀ k, At p' k → k ≠ b ∧ u0.heap.size ≤ k) :
    Wr v b (0 + i * 1) 1 ∧ ∃ vs, (∀ w, Upd (At (some ⟨b, 0, none⟩)) (putCells v b (0 + i * 1) [.slice p' l.length c']) w → ColsW w (fun k => u0.heap.size ≤ k) vs (t.set i l)) ∧ Own (putCells v b (0 + i * 1) [.slice p' l.length c']) 1 (some ⟨b, 0, none⟩) t.length c vs ∧ okCells vs True ∧ vs[i]? = some (.slice p' l.length c') := by
  have hbi := (h.out i hi).1
  have hov : Own v 1 (some ⟨b, 0, none⟩) t.length c ((List.range t.length).map (colV t bf cf)) := h.own.upd hu fun k hk1 hk2 => by
    have := at_some hk1
    have := at_some hk2
    simp only at *
    omega
  refine ⟨by have := (hov.wrs (o := i) (m := 1) (by have := hov.le; omega)).2; simpa using this, (List.range t.length).map (fun j => if j = i then .slice p' l.length c' else colV t bf cf j), ?_, ?_, ?_, ?_⟩
  · intro w hw
    have hlen : (t.set i l).length = t.length := List.length_set ..
    rw [← hlen]
    refine ColsW.of_fun _ _ fun j hj => ?_
    rw [hlen] at hj
    by_cases e : j = i
    · subst e
      rw [if_pos rfl]
      have : (t.set j l).getD j [] = l := by simp [List.getD_eq_getElem?_getD, hj]
      rw [this]
      exact ⟨p', c', rfl, (ho.upd (upd_put b _ _) fun k hk1 e => (hk k hk1).1 e).upd hw fun k hk1 e => (hk k hk1).1 (at_some e), fun k hk1 => (hk k hk1).2⟩
    · rw [if_neg e]
      have : (t.set i l).getD j [] = t.getD j [] := by simp [List.getD_eq_getElem?_getD, List.getElem?_set_ne (fun h => e h.symm)]
      rw [this]
      refine ⟨_, _, rfl, ?_, fun k hk1 => by have := at_some hk1; simp only at this; rw [this]; exact (h.out j hj).2⟩
      have h1 := (h.col j hj).nums
      have h2 : Nums v (some ⟨bf j, 0, none⟩) (t.getD j []).length (t.getD j []) := h1.upd hu fun k hk1 hk2 => by
        have e1 := at_some hk1
        have e2 := at_some hk2
        simp only at e1 e2
        exact e (h.dist j i hj hi (by rw [← e1, ← e2]))
      exact (h2.upd (upd_put b _ _) fun k hk1 e3 => by
        have e1 := at_some hk1
        simp only at e1
        exact (h.out j hj).1 (by rw [← e1, e3])).upd hw fun k hk1 e3 => by
        have e1 := at_some hk1
        have e4 := at_some e3
        simp only at e1 e4
        exact (h.out j hj).1 (by rw [← e1, e4])
  · have o := hov.over (o := i) (ys := [.slice p' l.length c']) (by simp; omega)
    have hz : 0 + i * 1 = i := by omega
    rw [hz]
    have := range_set (t := t) (f := colV t bf cf) (g := fun j => if j = i then .slice p' l.length c' else colV t bf cf j) hi (fun j hj => by simp only [if_neg hj])
    simp only [if_true] at this
    rw [← this]
    simpa using o
  · rw [okCells_iff]
    refine ⟨fun x hx => ?_, trivial⟩
    obtain ⟨j, _, rfl⟩ := List.mem_map.1 hx
    split <;> rfl
  · simp [hi]

theorem tsplit_ok {u : World} {q : Option Addr} {t : Cols} (h : Tl u q t) (c : Nat) (p n : Int) (right : Bool) (hl : FewT 10000000 t) :
    Spec Tryd.prog fn_tiles_Split #[TlV q t c, .int .i64 p, .int .i64 n, .bool right] u (TPost u (splitT t p n right)) := by
  apply vc_tiles_Split_spec
  unfold vc_tiles_Split
  simp only [decide_eq_true_eq, decide_eq_false_iff_not, Bool.not_eq_true', Bool.not_eq_false', true_and]
  have hu : Ext u (allocW (allocW u hole) hole) := ((Upd.refl u).alloc _).alloc _
  refine (find_ok (h.ext hu) c p hl).mono fun e u1 ⟨he, hu1⟩ => ?_
  have x1 := hu.ext hu1
  obtain ⟨a, b, f, hf, hab, he⟩ : ∃ (a b : Int) (f : Bool), (f = true ↔ findT t p ≠ none) ∧ (∀ i k : Nat, findT t p = some (i, k) → a = i ∧ b = k) ∧ e = .returned (.tuple #[.int .i64 a, .int .i64 b, .bool f]) := by
    unfold findV at he
    cases hff : findT t p with
    | none =>
      rw [hff] at he
      exact ⟨0, 0, false, by simp, fun i k hik => (by cases hik), he⟩
    | some z =>
      obtain ⟨i, k⟩ := z
      rw [hff] at he
      exact ⟨i, k, true, by simp, fun i' k' hik => (by cases hik; exact ⟨rfl, rfl⟩), he⟩
  refine ⟨a, b, f, he, (tgood_ok (h.ext x1) c hl).mono fun e u2 ⟨he, hu2⟩ => ⟨_, he, fun hb => ?_, fun hb => ?_⟩⟩
  · have : splitT t p n right = (t, 1) := by unfold splitT; rw [if_pos (.inl hb)]
    rw [this]
    exact TPost.same (by decide) h c (x1.ext hu2)
  have hg := goodT_iff.1 hb
  have x2 := x1.ext hu2
  refine (pane_ok n).mono fun e u3 ⟨he, hu3⟩ => ⟨_, he, fun hb2 => ?_, fun hb2 => ?_⟩
  · have : splitT t p n right = (t, 1) := by unfold splitT; rw [if_pos (.inr hb2)]
    rw [this]
    exact TPost.same (by decide) h c (x2.ext hu3)
  have x3 := x2.ext hu3
  have hs : splitT t p n right = match findT t p with
      | none => (t, 3)
      | some (i, k) =>
        if hasT t n = true then (t, 4)
        else if right = false ∧ 3 ≤ (t.getD i []).length then (t, 5)
        else if right = true then (insL t (i + 1) [n], 0)
        else (t.set i (insL (t.getD i []) (k + 1) n), 0) := by
    unfold splitT
    rw [if_neg (by rw [hb, hb2]; simp)]
    cases findT t p <;> rfl
  rw [hs]
  cases hff : findT t p with
  | none =>
    have hf0 : f = false := by
      cases f with
      | false => rfl
      | true => exact (hf.1 rfl hff).elim
    refine ⟨fun _ => TPost.same (by decide) h c x3, fun hn => ?_⟩
    rw [hf0] at hn; cases hn
  | some z =>
    obtain ⟨i, k⟩ := z
    obtain ⟨rfl, rfl⟩ := hab i k hff
    have hf1 : f = true := hf.2 (by rw [hff]; simp)
    obtain ⟨hi, hk, hpk⟩ := find_some hff
    dsimp only
    refine ⟨fun hn => (by rw [hf1] at hn; cases hn), fun _ => (has_ok (h.ext x3) c n hl).mono fun e u4 ⟨he, hu4⟩ => ⟨_, he, fun hh => ?_, fun hh => ?_⟩⟩
    · rw [if_pos hh]
      exact TPost.same (by decide) h c (x3.ext hu4)
    rw [if_neg (by rw [hh]; simp)]
    have x4 := x3.ext hu4
    have hfew := hg.few
    cases right with
    | false =>
      simp only [Bool.false_eq_true, false_implies, true_implies, and_true, true_and, Bool.true_eq_false, if_false]
      obtain ⟨b0, o0, q0, c0, hp0, hr0, hn0⟩ := (h.ext x4).at (i := i) hi
      refine ⟨b0, o0, hp0, by omega, by omega, _, _, _, rfl, hr0, fun h3 => ?_, fun h3 => ?_⟩
      · rw [if_pos (by omega)]
        exact TPost.same (by decide) h c x4
      rw [if_neg (by omega)]
      refine (own_ok (h.ext x4) hg c).mono fun e u5 ⟨b, c', bf, cf, he, hO, hu5⟩ => ⟨_, _, _, he, ?_⟩
      have x5 := x4.ext hu5
      have hd : Ext u5 (drewW u5) := (Upd.refl u5).drew
      have ha : Ext (drewW u5) (allocW (drewW u5) (.cells #[.int .i64 n] ty_int)) := (Upd.refl _).alloc _
      have O2 := (hO.ext hd).ext ha
      refine ⟨b, 0, rfl, by omega, by omega, _, _, _, rfl, (hO.ext hd).rd hi, by simp only [inK]; omega, O2.rd hi, ?_⟩
      have ef : Own (allocW (drewW u5) (.cells #[.int .i64 n] ty_int)) 1 (some ⟨(drewW u5).heap.size, 0, none⟩) 1 1 [.int .i64 n] := Own.fresh (drewW u5) (cs := [.int .i64 n]) rfl
      have hbl := fun j hj => ((hO.col j hj).at ⟨_, rfl, rfl⟩).1
      have hins := insert_ok (O2.col i hi) (numV_ok _) (i := k + 1) (by omega) (by omega) ef (by simp [okCells]) (fun k' hk' => by
        have e1 := at_some hk'
        have := hbl i hi
        simp only at e1 this
        show k' ≠ u5.heap.size
        omega)
      have ek : ((k : Nat) : Int) + 1 = ((k + 1 : Nat) : Int) := by omega
      rw [ek]
      refine hins.mono fun e u6 ⟨⟨p6, c6, he, ho6, hk6⟩, hu6⟩ => ⟨_, _, _, he, b, 0, rfl, by omega, by omega, rfl, ?_⟩
      have hnl : insL (t.getD i []) (k + 1) n = (t.getD i []).take (k + 1) ++ n :: (t.getD i []).drop (k + 1) := rfl
      have hnv : (numV (t.getD i [])).take (k + 1) ++ [.int .i64 n] ++ (numV (t.getD i [])).drop (k + 1) = numV (insL (t.getD i []) (k + 1) n) := by
        rw [hnl]; simp [numV, List.map_take, List.map_drop]
      rw [hnv] at ho6
      have hlen : (t.getD i []).length + 1 = (insL (t.getD i []) (k + 1) n).length := by
        rw [hnl]; simp; omega
      rw [hlen] at ho6 ⊢
      have hb5 : b < u5.heap.size := (hO.own.at ⟨_, rfl, rfl⟩).1
      have hs6 : (allocW (drewW u5) (.cells #[.int .i64 n] ty_int)).heap.size = u5.heap.size + 1 := size_alloc _ _
      have hs54 := hu5.size
      obtain ⟨w1, vs, w2, w3, _, _⟩ := O2.store hi (c' := c6) ho6.nums hu6 (fun k' hk' => by
        rcases hk6 k' hk' with h7 | h7
        · have e1 := at_some h7
          simp only at e1
          have := hO.out i hi
          omega
        · omega)
      have TF := (w2 _ (Upd.refl _)).tlF w3.gets fun k hk => by have := at_some hk; simp only at this; rw [this]; exact hO.new
      refine ⟨w1, ⟨⟨some ⟨b, 0, none⟩, c', ?_, TF.tl, fun _ => TF.mono fun k hk => by have := x4.size; omega⟩, ?_⟩⟩
      · show _ = Ending.returned (.tuple #[.agg #[.slice _ (t.set i _).length _], _])
        rw [List.length_set]
      · have hnew := (hO.out i hi).2
        have hnb := hO.new
        have e6 := ((x5.ext hd).ext ha)
        have e7 : Upd (fun k => k = bf i ∨ k = b) u (putCells u6 b (0 + i * 1) [.slice p6 (insL (t.getD i []) (k + 1) n).length c6]) := ((e6.any (S := fun k => k = bf i ∨ k = b)).trans hu6 fun k' _ hk' => .inl (at_some hk')).put (fun _ => .inr rfl) _ _
        have := x4.size
        exact ⟨e7.size, fun k' hk' _ => e7.old k' hk' (fun hh => by rcases hh with hh | hh <;> omega), e7.os, e7.output, e7.tape⟩
    | true =>
      simp only [Bool.false_eq_true, false_implies, true_implies, and_true, true_and, Bool.true_eq_false, if_false, if_true, false_and]
      refine (own_ok (h.ext x4) hg c).mono fun e u5 ⟨b, c', bf, cf, he, hO, hu5⟩ => ⟨_, _, _, he, ?_⟩
      have x5 := x4.ext hu5
      have ha : Ext u5 (allocW u5 (.cells #[.int .i64 n] ty_int)) := (Upd.refl _).alloc _
      have hb' : Ext (allocW u5 (.cells #[.int .i64 n] ty_int)) (allocW (allocW u5 (.cells #[.int .i64 n] ty_int)) (.cells #[.slice (some (Addr.mk u5.heap.size 0 none)) 1 1] ty_sl_int)) := (Upd.refl _).alloc _
      have O2 := (hO.ext ha).ext hb'
      have nf : Nums (allocW u5 (.cells #[.int .i64 n] ty_int)) (some ⟨u5.heap.size, 0, none⟩) 1 [n] := (Own.fresh u5 (cs := numV [n]) (n := 1) (es := 1) rfl).nums
      have ef : Own (allocW (allocW u5 (.cells #[.int .i64 n] ty_int)) (.cells #[.slice (some (Addr.mk u5.heap.size 0 none)) 1 1] ty_sl_int)) 1 (some ⟨(allocW u5 (.cells #[.int .i64 n] ty_int)).heap.size, 0, none⟩) 1 1 [.slice (some (Addr.mk u5.heap.size 0 none)) 1 1] := Own.fresh (allocW u5 (.cells #[.int .i64 n] ty_int)) (cs := [.slice (some (Addr.mk u5.heap.size 0 none)) 1 1]) rfl
      have hb5 : b < u5.heap.size := (hO.own.at ⟨_, rfl, rfl⟩).1
      have hs6 : (allocW u5 (.cells #[.int .i64 n] ty_int)).heap.size = u5.heap.size + 1 := size_alloc _ _
      have hins := insertL_ok O2.own okCells_slices (i := i + 1) (by omega) (by omega) ef (by simp [okCells]) (fun k' hk' => by
        have e1 := at_some hk'
        simp only at e1
        omega)
      have ek : ((i : Nat) : Int) + 1 = ((i + 1 : Nat) : Int) := by omega
      rw [ek]
      refine ⟨by simp only [inK]; omega, hins.mono fun e u6 ⟨⟨p6, c6, he, ho6, hk6⟩, hu6⟩ => ⟨_, _, _, he, ?_⟩⟩
      have hnl : insL t (i + 1) [n] = t.take (i + 1) ++ [[n]] ++ t.drop (i + 1) := by unfold insL; simp
      have hlen : t.length + 1 = (insL t (i + 1) [n]).length := by rw [hnl]; simp; omega
      have hs54 := hu5.size
      have O6 : ColsW u6 (fun k => u4.heap.size ≤ k) ((List.range t.length).map (colV t bf cf)) t := ColsW.of_fun t _ fun j hj => ⟨_, _, rfl, (O2.col j hj).nums.upd hu6 fun k' hk1 hk2 => by
        have e1 := at_some hk1
        have e2 := at_some hk2
        simp only at e1 e2
        exact (hO.out j hj).1 (by rw [← e1, e2]), fun k hk => by have := at_some hk; simp only at this; rw [this]; exact (hO.out j hj).2⟩
      have N6 : ColW u6 (fun k => u4.heap.size ≤ k) (.slice (some (Addr.mk u5.heap.size 0 none)) 1 1) [n] := ⟨_, _, rfl, (nf.ext hb').upd hu6 fun k' hk1 hk2 => by
        have e1 := at_some hk1
        have e2 := at_some hk2
        simp only at e1 e2
        omega, fun k hk => by have := at_some hk; simp only at this; omega⟩
      have C6 := ((O6.take (i + 1)).append (ws := [.slice (some (Addr.mk u5.heap.size 0 none)) 1 1]) (ms := [[n]]) ⟨N6, trivial⟩).append (O6.drop (i + 1))
      rw [← hnl] at C6
      have TF := C6.tlF ho6.gets fun k hk => (hk6 k hk).elim (fun h7 => by have := at_some h7; simp only at this; rw [this]; exact hO.new) fun h7 => by have := hb'.size; omega
      refine ⟨⟨p6, c6, ?_, TF.tl, fun _ => TF.mono fun k hk => by have := x4.size; omega⟩, ?_⟩
      · show _ = Ending.returned (.tuple #[.agg #[.slice _ (insL t (i + 1) [n]).length _], _])
        rw [← hlen]
      · have hnb := hO.new
        have := x4.size
        exact (((x5.ext ha).ext hb').trans hu6 fun k' hk' hat => by have := at_some hat; simp only at this; omega).mono fun _ _ h => h

end Go.Proofs.YtkmmphkjmamckabDoor
