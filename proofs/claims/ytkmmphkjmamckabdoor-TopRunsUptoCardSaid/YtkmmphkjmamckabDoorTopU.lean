/-
  Run is Do one by one, or ErrFull.
-/
import Derived.Test.YtkmmphkjmamckabDoorTopPlay
import Derived.Test.YtkmmphkjmamckabDoorTopWalk
import Derived.Test.YtkmmphkjmamckabDoorVTopU
namespace Go.Proofs.YtkmmphkjmamckabDoor
open Go
set_option linter.all false

abbrev rpV (r : Rp) : List Value := [.int .i64 r.code, .int .i64 r.n, .string (bstr r.out)]

/-- The reply to an act of a list. -/
def repN (l : List Ac) (i : Nat) : Rp := (doS (playN l i).1 (l.getD i .zero)).2
def repsN (l : List Ac) (n : Nat) : List Rp := (List.range n).map (repN l)

theorem repsN_len (l : List Ac) (n : Nat) : (repsN l n).length = n := by simp [repsN]
theorem repsN_succ (l : List Ac) (n : Nat) : repsN l (n + 1) = repsN l n ++ [repN l n] := by simp [repsN, List.range_succ]
theorem repsN_getD (l : List Ac) {n i : Nat} (h : i < n) (d : Rp) : (repsN l n).getD i d = repN l i := getD_map_range _ _ h

theorem getD_take {α : Type} (l : List α) (d : α) {i m : Nat} (h : i < m) : (l.take m).getD i d = l.getD i d := by
  simp [List.getD_eq_getElem?_getD, List.getElem?_take_of_lt h]

theorem playN_take (l : List Ac) (m : Nat) : ∀ i : Nat, i ≤ m → playN (l.take m) i = playN l i
  | 0, _ => rfl
  | i + 1, h => by
    have := playN_take l m i (by omega)
    unfold playN
    rw [this, getD_take l .zero (by omega)]

theorem repN_take (l : List Ac) {m i : Nat} (h : i < m) : repN (l.take m) i = repN l i := by
  unfold repN
  rw [playN_take l m i (by omega), getD_take l .zero h]

/-- A beginning of a list of acts. -/
theorem ActL.take {u : World} {p : Option Addr} {l : List Ac} (h : ActL u p l) (m : Nat) : ActL u p (l.take m) := by
  have e : (l.map acV).flatten = ((l.take m).map acV).flatten ++ ((l.drop m).map acV).flatten := by
    rw [← List.flatten_append, ← List.map_append, List.take_append_drop]
  have hg := h.arr.gets
  rw [e] at hg
  refine ⟨⟨?_, by simp, fun y hy => ?_⟩⟩
  · cases p with
    | none =>
      have : ((l.take m).map acV).flatten ++ ((l.drop m).map acV).flatten = [] := hg
      exact (List.append_eq_nil_iff.1 this).1
    | some a =>
      refine ⟨fun hne => hg.1 fun h => hne (List.append_eq_nil_iff.1 h).1, (rd_take _ _ _ hg.2).1⟩
  · obtain ⟨a, _, rfl⟩ := List.mem_map.1 hy
    rfl

theorem acts_ok (l : List Ac) : okCells (l.map acV).flatten True := by
  rw [okCells_iff]
  refine ⟨fun c hc => ?_, trivial⟩
  obtain ⟨x, hx, hcx⟩ := List.mem_flatten.1 hc
  obtain ⟨a, _, rfl⟩ := List.mem_map.1 hx
  have : okCells (acV a) True := by simp [okCells]
  rw [okCells_iff] at this
  exact this.1 c hcx

theorem Own.acts {u : World} {q : Option Addr} {n c : Nat} {l : List Ac} (h : Own u 5 q n c (l.map acV).flatten) : ActL u q l :=
  ⟨⟨h.gets, by simp, fun y hy => by obtain ⟨a, _, rfl⟩ := List.mem_map.1 hy; rfl⟩⟩

/-- Other blocks are written from now on. -/
theorem SvM.step {S : Nat → Prop} {u u' : World} {sb : Nat} {B B' : Nat → Prop} {s : Sv} (h : SvM u sb B s) (hc : GoodT s.v.cols) (hu : Upd S u u') (hS : ∀ k, S k → B k ∧ k ≠ sb) (h1 : B' sb) (h2 : ∀ k, B' k → (B k ∨ u.heap.size ≤ k) ∧ k < u'.heap.size) : SvM u' sb B' s := by
  have hlt := h.lt
  obtain ⟨⟨cs, k1, k2⟩, k3, k4⟩ := h
  have a := (k2.mono (ok' := fun k => ¬ B k ∧ k < u.heap.size) hc fun k hk hl => ⟨hk, hl⟩).upd hu fun k hk hs => hk.1 (hS k hs).1
  refine ⟨⟨cs, k1.upd hu fun hs => (hS sb hs).2 rfl, a.mono hc fun k hk _ hb => ?_⟩, h1, fun k hk => (h2 k hk).2⟩
  rcases (h2 k hb).1 with h | h
  · exact hk.1 h
  · omega

/-- Acts have been run. -/
structure RunTo (u : World) (l : List Ac) (e : Ending) (u' : World) : Prop where
  ex : ∃ q c, e = .returned (.tuple #[.slice q l.length c, .int .i64 0]) ∧ Arr u' 3 q l.length ((repsN l l.length).map rpV)
  ext : Ext u u'

set_option maxHeartbeats 1000000 in
theorem run_ok {u : World} {p : Option Addr} {l : List Ac} (hl : ActL u p l) (c : Nat) (hb : ∀ a ∈ l, a.bytes.length ≤ 1048576) (hn : l.length ≤ 300) :
    Spec Tryd.prog fn_server_Run #[.slice p l.length c] u (RunTo u l) := by
  apply vc_server_Run_spec
  unfold vc_server_Run
  simp only [decide_eq_true_eq, decide_eq_false_iff_not, true_and]
  refine ⟨fun h => (by omega : False).elim, fun _ => ?_⟩
  refine srvNew_ok.mono fun e u1 ⟨sb, he, hm, hsb, hu1⟩ => ⟨sb, 0, he, ?_⟩
  have hlt := hm.lt
  have M0 : SvM u1 sb (fun k => k = sb ∨ At none k) newS := hm.more newS_ok.cols (Upd.refl _) (.inl rfl) fun k hk => by
    rcases hk with rfl | hk
    · exact ⟨.inl (.inl rfl), hlt⟩
    · exact (at_none hk).elim
  refine ⟨fun op on oc x v => 0 ≤ x ∧ x ≤ l.length ∧ on = x.toNat ∧ Own v 3 op on oc ((repsN l x.toNat).map rpV).flatten ∧ (∀ k, At op k → u.heap.size ≤ k ∧ k ≠ sb) ∧ SvM v sb (fun k => k = sb ∨ At op k) (playN l x.toNat).1 ∧ Ext u v, fun _ _ _ x _ => (l.length - x).toNat,
    ⟨by omega, by omega, rfl, Own.nil _ _, fun k hk => (at_none hk).elim, M0, hu1⟩, ?_⟩
  rintro op on oc x v ⟨x0, xl, rfl, O, hat, M, hv⟩
  have hI := play_inv l x.toNat (by omega)
  refine ⟨fun hx => ?_, fun hx => ?_⟩
  rotate_left 1
  · have hxe : x.toNat = l.length := by omega
    rw [hxe] at O ⊢
    exact ⟨⟨op, oc, rfl, O.gets, by rw [List.length_map, repsN_len], fun y hy => by obtain ⟨a, _, rfl⟩ := List.mem_map.1 hy; rfl⟩, hv⟩
  obtain ⟨b, o, hp, hr⟩ := (hl.ext hv).at (i := x.toNat) (by omega) .zero
  have hmem : l.getD x.toNat .zero ∈ l := getD_mem (by omega)
  have hbl := hb _ hmem
  have hac := hI.acts
  have eN : (x + 1).toNat = x.toNat + 1 := by omega
  have hrep : repN l x.toNat = (doS (playN l x.toNat).1 (l.getD x.toNat .zero)).2 := rfl
  have e1 : (playN l (x.toNat + 1)).1 = (doS (playN l x.toNat).1 (l.getD x.toNat .zero)).1 := rfl
  refine ⟨b, o, hp, x0, hx, _, _, _, _, _, rfl, hr, ?_⟩
  have ev : Ext v (allocW v hole) := (Upd.refl _).alloc _
  refine (srvDo_ok (M.ext ev) hI.inv (by omega) (l.getD x.toNat .zero) (bstr_list _) (by rw [bstr_sz]; exact hbl)).mono fun e w ⟨he, hm1, hw⟩ => ⟨_, _, _, he, ?_⟩
  rw [← e1] at hm1
  rw [← hrep]
  have hI1 := do_inv hI.inv (l.getD x.toNat .zero)
  rw [← e1] at hI1
  generalize hrr : repN l x.toNat = r at *
  have O1 := (O.ext ev).upd hw fun k hk => (hat k hk).2
  have hw1 : Ext w (allocW w (.cells #[.int .i64 r.code, .int .i64 r.n, .string (bstr r.out)] 31)) := (Upd.refl _).alloc _
  have hws := size_alloc w (.cells #[.int .i64 r.code, .int .i64 r.n, .string (bstr r.out)] 31)
  have hvw : Ext u w := ((hv.ext ev).trans hw fun k hk h => by omega).mono fun _ _ h => h
  have hvs := hvw.size
  have O2 := O1.ext hw1
  have M2 := hm1.ext hw1
  have ef : Own (allocW w (.cells #[.int .i64 r.code, .int .i64 r.n, .string (bstr r.out)] 31)) 3 (some ⟨w.heap.size, 0, none⟩) 1 1 (rpV r) := Own.fresh w (cs := rpV r) rfl
  refine ⟨_, rpV r, O2.len, O2.gets, rfl, ef.gets, by decide, by omega, by simp [okCells], fun hc => O2.wrs (by omega), fun p' cap w3 har => ?_⟩
  obtain ⟨a1, a2, a3⟩ := O2.app har O2.len O2.gets rfl rfl
  have hsl := M2.lt
  have a2s := a2.size
  have hnew : ∀ k, At p' k → At op k ∨ (allocW w (.cells #[.int .i64 r.code, .int .i64 r.n, .string (bstr r.out)] 31)).heap.size ≤ k := fun k hk => by
    rcases a3 with ⟨rfl, _⟩ | ⟨rfl, _⟩
    · exact .inl hk
    · right; rw [at_some hk]; exact Nat.le_refl _
  refine ⟨by simp only [inK]; omega, ⟨by omega, by omega, by omega, ?_, fun k hk => ?_, ?_, ((hvw.ext hw1).trans a2 fun k hk h => by have := (hat k h).1; omega).mono fun _ _ h => h⟩, by first | omega | (dsimp only; omega)⟩
  · rw [eN, repsN_succ, List.map_append, List.flatten_append, hrr]
    simpa using a1
  · rcases hnew k hk with h | h
    · exact hat k h
    · omega
  · rw [eN]
    refine M2.step hI1.cols a2 (fun k hk => ⟨.inr hk, (hat k hk).2⟩) (.inl rfl) fun k hk => ?_
    rcases hk with rfl | hk
    · exact ⟨.inl (.inl rfl), by omega⟩
    · exact ⟨(hnew k hk).imp (fun h => .inr h) id, (a1.at hk).1⟩

theorem run_full {u : World} (p : Option Addr) (n c : Nat) (hn : 300 < n) : Spec Tryd.prog fn_server_Run #[.slice p n c] u fun e u' => e = .returned (.tuple #[.slice none 0 0, .int .i64 5]) ∧ Ext u u' := by
  apply vc_server_Run_spec
  unfold vc_server_Run
  simp only [decide_eq_true_eq, decide_eq_false_iff_not, true_and]
  exact ⟨fun _ => Upd.refl _, fun h => (by omega : False).elim⟩

/-- What is left to be shown once there are few enough acts. -/
def RunsTail (n : Nat) (P : Option Addr) (C2 : Nat) (k : Int) (u1 : World) (R : Ending → World → Prop) : Prop := inK .i64 (((n : Nat) : Int) + 1) ∧
 (((n : Nat) : Int) + 1) ≠ 0 ∧ inK .i64 ((Int.tmod k (((n : Nat) : Int) + 1)) + ((n : Nat) : Int)) ∧
 inK .i64 (((Int.tmod k (((n : Nat) : Int) + 1)) + ((n : Nat) : Int)) + 1) ∧
 inK .i64 (((n : Nat) : Int) + 1) ∧ 0 ≤ (((Int.tmod k (((n : Nat) : Int) + 1)) + ((n : Nat) : Int)) + 1) ∧
 0 < (((n : Nat) : Int) + 1) ∧ ∃ old2 new2 : List Value, old2.length = 0 * 5 ∧
 Gets u1 none old2 ∧ new2.length = n * 5 ∧ Gets u1 P new2 ∧
 0 < 48 ∧ (2 * (0 + n) + 192) * 48 ≤ 140737488355328 ∧ okCells new2 True ∧
 (0 + n ≤ 0 → WrS u1 none (0 * 5) (n * 5)) ∧ ∀ p2 cap2 u112, AppR u1 34 5 [.int .i64 0, .int .i64 0, .int .i64 0, .int .i64 0, .string (ByteArray.mk #[])] none 0 0 n old2 new2 p2 cap2 u112 →
 Spec Tryd.prog 6 #[.slice p2 (0 + n) cap2] u112 (fun e u113 => ∃ (q13 : Option Addr) (q14 q15 : Nat) (q16 : Int), e = .returned (.tuple #[.slice q13 q14 q15, .int .i64 q16]) ∧
 0 ≤ (0 : Int) ∧ (0 : Int) ≤ ((((Int.tmod k (((n : Nat) : Int) + 1)) + ((n : Nat) : Int)) + 1) % (((n : Nat) : Int) + 1)) ∧
 ((((Int.tmod k (((n : Nat) : Int) + 1)) + ((n : Nat) : Int)) + 1) % (((n : Nat) : Int) + 1)) ≤ ((C2 : Nat) : Int) ∧
 ∃ old3 new3 : List Value, old3.length = 0 * 5 ∧ Gets u113 none old3 ∧
 new3.length = (((((Int.tmod k (((n : Nat) : Int) + 1)) + ((n : Nat) : Int)) + 1) % (((n : Nat) : Int) + 1)).toNat - (0 : Int).toNat) * 5 ∧
 Gets u113 (if C2 = (0 : Int).toNat then P else Option.map (fun a => Addr.add a ((0 : Int).toNat * 5)) P) new3 ∧
 0 < 48 ∧ (2 * (0 + (((((Int.tmod k (((n : Nat) : Int) + 1)) + ((n : Nat) : Int)) + 1) % (((n : Nat) : Int) + 1)).toNat - (0 : Int).toNat)) + 192) * 48 ≤ 140737488355328 ∧
 okCells new3 True ∧ (0 + (((((Int.tmod k (((n : Nat) : Int) + 1)) + ((n : Nat) : Int)) + 1) % (((n : Nat) : Int) + 1)).toNat - (0 : Int).toNat) ≤ 0 →
 WrS u113 none (0 * 5) ((((((Int.tmod k (((n : Nat) : Int) + 1)) + ((n : Nat) : Int)) + 1) % (((n : Nat) : Int) + 1)).toNat - (0 : Int).toNat) * 5)) ∧
 ∀ p3 cap3 u114, AppR u113 34 5 [.int .i64 0, .int .i64 0, .int .i64 0, .int .i64 0, .string (ByteArray.mk #[])] none 0 0 (((((Int.tmod k (((n : Nat) : Int) + 1)) + ((n : Nat) : Int)) + 1) % (((n : Nat) : Int) + 1)).toNat - (0 : Int).toNat) old3 new3 p3 cap3 u114 →
 Spec Tryd.prog 6 #[.slice p3 (0 + (((((Int.tmod k (((n : Nat) : Int) + 1)) + ((n : Nat) : Int)) + 1) % (((n : Nat) : Int) + 1)).toNat - (0 : Int).toNat)) cap3] u114 (fun e u115 => ∃ (q17 : Option Addr) (q18 q19 : Nat) (q1a : Int), e = .returned (.tuple #[.slice q17 q18 q19, .int .i64 q1a]) ∧
 (((!decide (q16 = 0)) = true → R (.returned (.bool false)) u115) ∧
 ((!decide (q16 = 0)) = false → (((!decide (q1a = 0)) = true →
 R (.returned (.bool false)) u115) ∧ ((!decide (q1a = 0)) = false →
 (((!decide (((q14 : Nat) : Int) = ((n : Nat) : Int))) = true →
 R (.returned (.bool false)) u115) ∧ ((!decide (((q14 : Nat) : Int) = ((n : Nat) : Int))) = false →
 (((!decide (((q18 : Nat) : Int) = ((((Int.tmod k (((n : Nat) : Int) + 1)) + ((n : Nat) : Int)) + 1) % (((n : Nat) : Int) + 1)))) = true →
 R (.returned (.bool false)) u115) ∧ ((!decide (((q18 : Nat) : Int) = ((((Int.tmod k (((n : Nat) : Int) + 1)) + ((n : Nat) : Int)) + 1) % (((n : Nat) : Int) + 1)))) = false →
 Spec Tryd.prog 7 #[] u115 (fun e u116 => ∃ (q1b q1c : Nat), e = .returned (.pointer (some ⟨q1b, q1c, none⟩)) ∧
 ∃ (I_1 : Int → World → Prop) (M_1 : Int → World → Nat), (I_1 0 u116) ∧
 ∀ (q1d : Int), ∀ u117 : World, I_1 q1d u117 → (((decide (q1d < ((q14 : Nat) : Int))) = true →
 ∃ b4 o4, P = some ⟨b4, o4, none⟩ ∧ 0 ≤ q1d ∧ q1d < ((n : Nat) : Int) ∧
 ∃ (q1e q1f q1g q1h : Int) (q1i : ByteArray), 5 = szN 5 ∧
 Rd (drewW u117) b4 (o4 + q1d.toNat * 5) ([.int .i64 q1e, .int .i64 q1f, .int .i64 q1g, .int .i64 q1h, .string q1i]) ∧
 ∃ b5 o5, q13 = some ⟨b5, o5, none⟩ ∧ 0 ≤ q1d ∧ q1d < ((q14 : Nat) : Int) ∧
 ∃ (q1j q1k : Int) (q1l : ByteArray), 3 = szN 3 ∧
 Rd (drewW u117) b5 (o5 + q1d.toNat * 3) ([.int .i64 q1j, .int .i64 q1k, .string q1l]) ∧
 Spec Tryd.prog 8 #[.pointer (some ⟨q1b, q1c, none⟩), .agg #[.int .i64 q1e, .int .i64 q1f, .int .i64 q1g, .int .i64 q1h, .string q1i]] (drewW u117) (fun e u118 => ∃ (q1m q1n : Int) (q1o : ByteArray), e = .returned (.agg #[.int .i64 q1m, .int .i64 q1n, .string q1o]) ∧
 Rd u118 b5 (o5 + q1d.toNat * 3) ([.int .i64 q1j, .int .i64 q1k, .string q1l]) ∧
 (((!(decide (q1m = q1j) && (decide (q1n = q1k) && (decide (q1o.data.toList = q1l.data.toList))))) = true →
 R (.returned (.bool false)) u118) ∧ ((!(decide (q1m = q1j) && (decide (q1n = q1k) && (decide (q1o.data.toList = q1l.data.toList))))) = false →
 (((decide (q1d < ((((Int.tmod k (((n : Nat) : Int) + 1)) + ((n : Nat) : Int)) + 1) % (((n : Nat) : Int) + 1)))) = true →
 ∃ b6 o6, q13 = some ⟨b6, o6, none⟩ ∧ 0 ≤ q1d ∧ q1d < ((q14 : Nat) : Int) ∧
 ∃ (q1p q1q : Int) (q1r : ByteArray), 3 = szN 3 ∧
 Rd u118 b6 (o6 + q1d.toNat * 3) ([.int .i64 q1p, .int .i64 q1q, .string q1r]) ∧
 ∃ b7 o7, q17 = some ⟨b7, o7, none⟩ ∧ 0 ≤ q1d ∧ q1d < ((q18 : Nat) : Int) ∧
 ∃ (q1s q1t : Int) (q1u : ByteArray), 3 = szN 3 ∧
 Rd u118 b7 (o7 + q1d.toNat * 3) ([.int .i64 q1s, .int .i64 q1t, .string q1u]) ∧
 (((!(decide (q1p = q1s) && (decide (q1q = q1t) && (decide (q1r.data.toList = q1u.data.toList))))) = true →
 R (.returned (.bool false)) u118) ∧ ((!(decide (q1p = q1s) && (decide (q1q = q1t) && (decide (q1r.data.toList = q1u.data.toList))))) = false →
 inK .i64 (q1d + 1) ∧ I_1 (q1d + 1) u118 ∧ M_1 (q1d + 1) u118 < M_1 q1d u117))) ∧
 ((decide (q1d < ((((Int.tmod k (((n : Nat) : Int) + 1)) + ((n : Nat) : Int)) + 1) % (((n : Nat) : Int) + 1)))) = false →
 inK .i64 (q1d + 1) ∧ I_1 (q1d + 1) u118 ∧ M_1 (q1d + 1) u118 < M_1 q1d u117)))))) ∧
 ((decide (q1d < ((q14 : Nat) : Int))) = false → R (.returned (.bool true)) u117)))))))))))))

set_option maxHeartbeats 2000000 in
theorem runs_tail {u0 u1 : World} {P : Option Addr} {C2 : Nat} {L : List Ac} (hA : ActL u1 P L) (hb : ∀ a ∈ L, a.bytes.length ≤ 1048576) (hn : L.length ≤ 100) (hc : L.length ≤ C2) (k : Int) (hu : Ext u0 u1) : RunsTail L.length P C2 k u1 (Told u0 true) := by
  unfold RunsTail
  simp only [decide_eq_true_eq, decide_eq_false_iff_not, true_and, Bool.not_eq_true', Bool.not_eq_false']
  have t1 := Int.tmod_lt_of_pos k (show (0 : Int) < ((L.length : Nat) : Int) + 1 by omega)
  have t2 := Int.lt_tmod_of_pos k (show (0 : Int) < ((L.length : Nat) : Int) + 1 by omega)
  generalize Int.tmod k (((L.length : Nat) : Int) + 1) = t at *
  have m1 := Int.emod_nonneg (t + ((L.length : Nat) : Int) + 1) (show ((L.length : Nat) : Int) + 1 ≠ 0 by omega)
  have m2 := Int.emod_lt_of_pos (t + ((L.length : Nat) : Int) + 1) (show (0 : Int) < ((L.length : Nat) : Int) + 1 by omega)
  refine ⟨by simp only [inK]; omega, by omega, by simp only [inK]; omega, by simp only [inK]; omega, by simp only [inK]; omega, by omega, by omega, ?_⟩
  generalize (t + ((L.length : Nat) : Int) + 1) % (((L.length : Nat) : Int) + 1) = m at *
  obtain ⟨K, rfl⟩ : ∃ K : Nat, m = (K : Int) := ⟨m.toNat, by omega⟩
  have hK : K ≤ L.length := by omega
  have hP2 : (if C2 = (0 : Int).toNat then P else Option.map (fun a => Addr.add a ((0 : Int).toNat * 5)) P) = P := by
    split
    · rfl
    · cases P with
      | none => rfl
      | some a => simp [Addr.add]
  rw [hP2]
  have fl : ∀ l : List Ac, (l.map acV).flatten.length = l.length * 5 := fun l => by rw [flatten_len (es := 5) _ fun y hy => by obtain ⟨a, _, rfl⟩ := List.mem_map.1 hy; rfl, List.length_map]
  have hTl : (L.take K).length = K := by rw [List.length_take]; omega
  refine ⟨[], (L.map acV).flatten, rfl, rfl, fl L, hA.arr.gets, by decide, by omega, acts_ok L, fun _ => trivial, fun p2 cap2 v1 har => ?_⟩
  obtain ⟨o1, x1, _⟩ := AppR.none har rfl (fl L) rfl
  rw [Nat.zero_add] at o1 ⊢
  refine (run_ok o1.acts cap2 hb (by omega)).mono fun e v2 ⟨⟨qa, ca, he, A⟩, hv2⟩ => ⟨_, _, _, _, he, by omega, by omega, by omega, ?_⟩
  have x2 := x1.ext hv2
  refine ⟨[], ((L.take K).map acV).flatten, rfl, rfl, by rw [fl, hTl]; simp, ((hA.ext x2).take K).arr.gets, by decide, by simp; omega, acts_ok _, fun _ => trivial, fun p3 cap3 v3 har3 => ?_⟩
  obtain ⟨o3, x3, _⟩ := AppR.none har3 rfl (by rw [fl, hTl]; simp) rfl
  have hKn : ((K : Int).toNat - (0 : Int).toNat) = (L.take K).length := by rw [hTl]; simp
  rw [hKn, Nat.zero_add] at o3 ⊢
  refine (run_ok o3.acts cap3 (fun a ha => hb a (List.mem_of_mem_take ha)) (by omega)).mono fun e v4 ⟨⟨qb, cb, he, B⟩, hv4⟩ => ⟨_, _, _, _, he, fun hn => (hn rfl).elim, fun _ => ⟨fun hn => (hn rfl).elim, fun _ => ⟨fun hn => (hn rfl).elim, fun _ => ⟨fun hn => (by rw [hTl] at hn; exact (hn rfl).elim), fun _ => ?_⟩⟩⟩⟩
  have A4 := A.ext (x3.ext hv4)
  have x4 : Ext u1 v4 := x2.ext (x3.ext hv4)
  refine srvNew_ok.mono fun e v5 ⟨sb, he, hm, hsb, hv5⟩ => ⟨sb, 0, he, ?_⟩
  have M0 : SvM v5 sb (fun k => k = sb) newS := hm.more newS_ok.cols (Upd.refl _) rfl fun k hk => ⟨.inl (.inl hk), by rw [hk]; exact hm.lt⟩
  have s4 := hv5.size
  refine ⟨fun x v => 0 ≤ x ∧ x ≤ L.length ∧ SvM v sb (fun k => k = sb) (playN L x.toNat).1 ∧ Ext v4 v, fun x _ => (L.length - x).toNat, ⟨by omega, by omega, M0, hv5⟩, ?_⟩
  rintro x v ⟨x0, xl, M, hv⟩
  have hI := play_inv L x.toNat (by omega)
  refine ⟨fun hx => ?_, fun hx => ⟨rfl, (hu.ext x4).ext hv⟩⟩
  have hd : Ext v (drewW v) := (Upd.refl _).drew
  have hvd := hv.ext hd
  obtain ⟨b, o, hp, hr⟩ := (hA.ext (x4.ext hvd)).at (i := x.toNat) (by omega) .zero
  obtain ⟨b1, o1', hq, hra⟩ := (A4.ext hvd).at (i := x.toNat) (by omega) (by decide)
  have hmem : L.getD x.toNat .zero ∈ L := getD_mem (by omega)
  have hbl := hb _ hmem
  have hac := hI.acts
  have ga : ((repsN L L.length).map rpV).getD x.toNat [] = rpV (repN L x.toNat) := by
    rw [getD_map (l := repsN L L.length) rpV (.no 0) [] (by rw [repsN_len]; omega), repsN_getD L (by omega)]
  rw [ga] at hra
  have hrep : repN L x.toNat = (doS (playN L x.toNat).1 (L.getD x.toNat .zero)).2 := rfl
  have eN : (x + 1).toNat = x.toNat + 1 := by omega
  have e1 : (playN L (x.toNat + 1)).1 = (doS (playN L x.toNat).1 (L.getD x.toNat .zero)).1 := rfl
  refine ⟨b, o, hp, x0, hx, _, _, _, _, _, rfl, hr, b1, o1', hq, x0, hx, _, _, _, rfl, hra, ?_⟩
  refine (srvDo_ok (M.ext hd) hI.inv (by omega) (L.getD x.toNat .zero) (bstr_list _) (by rw [bstr_sz]; exact hbl)).mono fun e w ⟨he, hm1, hw⟩ => ⟨_, _, _, he, ?_⟩
  rw [← e1, ← eN] at hm1
  rw [← hrep]
  have hvw : Ext v4 w := (hvd.trans hw fun k hk h => by omega).mono fun _ _ h => h
  have lt1 : b1 < v4.heap.size := by
    obtain ⟨b9, o9, hq9, hra9⟩ := A4.at (i := x.toNat) (by omega) (by decide)
    rw [hq] at hq9
    cases hq9
    rw [ga] at hra9
    exact rd_lt hra9
  have hra2 := hw.rd hra (by omega)
  refine ⟨hra2, fun hf => (by simp at hf), fun _ => ⟨fun hxk => ?_, fun hxk => ⟨by simp only [inK]; omega, ⟨by omega, by omega, hm1, hvw⟩, by first | omega | (dsimp only; omega)⟩⟩⟩
  obtain ⟨b2, o2, hq2, hrb⟩ := (B.ext hvw).at (i := x.toNat) (by omega) (by decide)
  have gb : ((repsN (L.take K) (L.take K).length).map rpV).getD x.toNat [] = rpV (repN L x.toNat) := by
    rw [getD_map (l := repsN (L.take K) (L.take K).length) rpV (.no 0) [] (by rw [repsN_len]; omega), repsN_getD _ (by omega), repN_take L (by omega)]
  rw [gb] at hrb
  refine ⟨b1, o1', hq, x0, hx, _, _, _, rfl, hra2, b2, o2, hq2, x0, by omega, _, _, _, rfl, hrb, fun hf => (by simp at hf), fun _ => ⟨by simp only [inK]; omega, ⟨by omega, by omega, hm1, hvw⟩, by first | omega | (dsimp only; omega)⟩⟩

theorem topRuns_ok {u : World} {p : Option Addr} {l : List Ac} (hl : ActL u p l) (c : Nat) (hb : ∀ a ∈ l, a.bytes.length ≤ 1048576) (hlc : l.length ≤ c) (hls : l.length ≤ 1048576) (k : Int) :
    Spec Tryd.prog fn_fenestratop_TopRuns #[.slice p l.length c, .int .i64 k] u (Told u true) := by
  apply vc_fenestratop_TopRuns_spec
  unfold vc_fenestratop_TopRuns
  refine alive_ok.mono fun e u1 ⟨he, hu1⟩ => ⟨_, he, fun hn => (by simp at hn), fun _ => ⟨fun h3 => ?_, fun h3 => ⟨fun h1 => ?_, fun h1 => ?_⟩⟩⟩
  · have h3 : (300 : Int) < ((l.length : Nat) : Int) := of_decide_eq_true h3
    refine (run_full p l.length c (by omega)).mono fun e u2 ⟨he, hu2⟩ => ⟨_, _, _, _, he, ?_⟩
    refine alive_ok.mono fun e u3 ⟨he, hu3⟩ => ⟨_, he, fun _ => ⟨fun h => ?_, fun _ => ⟨rfl, (hu1.ext hu2).ext hu3⟩⟩, fun hn => (by simp at hn)⟩
    have := of_decide_eq_true h
    omega
  · have h1 : (100 : Int) < ((l.length : Nat) : Int) := of_decide_eq_true h1
    have hP : (if c = (0 : Int).toNat then p else Option.map (fun a => Addr.add a ((0 : Int).toNat * 5)) p) = p := by
      split
      · rfl
      · cases p with
        | none => rfl
        | some a => simp [Addr.add]
    have hL : (l.take 100).length = 100 := by rw [List.length_take]; omega
    refine ⟨by omega, by omega, by omega, ?_⟩
    have key := runs_tail (u0 := u) (u1 := u1) (P := if c = (0 : Int).toNat then p else Option.map (fun a => Addr.add a ((0 : Int).toNat * 5)) p) (C2 := c - (0 : Int).toNat) (L := l.take 100) (by rw [hP]; exact (hl.ext hu1).take 100) (fun a ha => hb a (List.mem_of_mem_take ha)) (by omega) (by rw [hL]; simp; omega) k hu1
    have e100 : (100 : Int).toNat - (0 : Int).toNat = (l.take 100).length := by rw [hL]; rfl
    rw [← e100] at key
    exact key
  · exact runs_tail (hl.ext hu1) hb (by have := of_decide_eq_false h1; omega) hlc k hu1

end Go.Proofs.YtkmmphkjmamckabDoor
