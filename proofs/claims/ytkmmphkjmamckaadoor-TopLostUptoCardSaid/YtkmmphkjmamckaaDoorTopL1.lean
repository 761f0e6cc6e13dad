/-
  What is looked at behind each act: what waits for clients, and what was lost.
-/
import Derived.Test.YtkmmphkjmamckaaDoorTopPlay
import Derived.Test.YtkmmphkjmamckaaDoorZVl
namespace Go.Proofs.YtkmmphkjmamckaaDoor
open Go
set_option linter.all false

/-- What waited for each client, and what was gone: two blocks of three cells. -/
structure LostM (u : World) (wb gb : Nat) (f : Nat → Sv) : Prop where
  was : ∃ cs, Blk u wb cs ∧ cs.length = 3 ∧ ∀ j : Nat, j < 3 → takeN cs j 1 = some [.string (bstr (tellS (f j) (j : Int)).1)]
  gone : ∃ cs, Blk u gb cs ∧ cs.length = 3 ∧ ∀ j : Nat, j < 3 → takeN cs j 1 = some [.bool (tellS (f j) (j : Int)).2.1]

theorem LostM.upd {S : Nat → Prop} {u u' : World} {wb gb : Nat} {f : Nat → Sv} (h : LostM u wb gb f) (hu : Upd S u u') (h1 : ¬ S wb) (h2 : ¬ S gb) : LostM u' wb gb f := by
  obtain ⟨⟨cs, a1, a2⟩, ⟨ds, b1, b2⟩⟩ := h
  exact ⟨⟨cs, a1.upd hu h1, a2⟩, ⟨ds, b1.upd hu h2, b2⟩⟩

/-- What a tick does to what waits. -/
theorem lost_law {k : Nat} {s : Sv} {t : List Tm} (h : PlayI k s t) (hk : (k : Int) < 300) (a : Ac) {c : Int} (h0 : 0 ≤ c) (h3 : c < 3) :
    (tellS (doS s a).1 c).1.length ≤ 4000 ∧ (a.kind = 8 → (tellS (doS s a).1 c).2.2 = true → ((tellS (doS s a).1 c).2.1 = true → (tellS s c).1 ≠ [] ∧ (tellS (doS s a).1 c).1 = (tellS s c).1) ∧
      ((tellS (doS s a).1 c).2.1 = false → ∃ b, (tellS (doS s a).1 c).1 = (tellS s c).1 ++ b)) := by
  have hi' := do_inv h.inv a
  have hn : ¬ (c < 0 ∨ 3 ≤ c) := by omega
  refine ⟨?_, fun h8 hh => ?_⟩
  · unfold tellS
    split
    · simp
    · next hc => exact ((hi'.clients c.toNat (by omega)).on (by cases hx : (clientOf (doS s a).1 c.toNat).here with | true => rfl | false => exact (hc (.inr (.inr hx))).elim)).2
  · have here' : (clientOf (doS s a).1 c.toNat).here = true := by
      cases hx : (clientOf (doS s a).1 c.toNat).here with
      | true => rfl
      | false => unfold tellS at hh; rw [if_pos (.inr (.inr hx))] at hh; cases hh
    have hacts := h.acts
    have hi := h.inv.acts (s.acts + 1)
    have hdo : doS s a = (tickS { s with acts := s.acts + 1 }, .no 0) := by rw [do_lt (by omega), act_tick h8]
    have e1 : tellS (doS s a).1 c = ((clientOf (doS s a).1 c.toNat).queue, (clientOf (doS s a).1 c.toNat).lost, true) := by
      unfold tellS
      rw [if_neg (by rw [here']; simp; omega)]
    have hcl : clientOf (doS s a).1 c.toNat = showS s.v (clientOf s c.toNat) := by rw [hdo]; exact tick_client hi (by omega)
    have sl := show_law hi.grid_or (hi.clients c.toNat (by omega))
    have hcs : clientOf { s with acts := s.acts + 1 } c.toNat = clientOf s c.toNat := rfl
    rw [hcs] at sl
    have sl : Shown s.v (clientOf s c.toNat) (showS s.v (clientOf s c.toNat)) := sl
    have hereS : (clientOf s c.toNat).here = true := by rw [← sl.here, ← hcl]; exact here'
    have e2 : tellS s c = ((clientOf s c.toNat).queue, (clientOf s c.toNat).lost, true) := by
      unfold tellS
      rw [if_neg (by rw [hereS]; simp; omega)]
    rw [e1, e2, hcl]
    dsimp only
    refine ⟨fun hl => ?_, fun hl => ?_⟩
    · have hne : (clientOf s c.toNat).queue ≠ [] := fun e => by
        have := sl.clean hereS e
        rw [hl] at this
        cases this
      refine ⟨hne, ?_⟩
      rcases sl.grow with e | ⟨e, _⟩ | ⟨e, _⟩
      · rw [e]
      · rw [e]
      · rw [hl] at e; cases e
    · rcases sl.grow with e | ⟨e, _⟩ | ⟨_, b, e, _⟩
      · exact ⟨[], by rw [e, List.append_nil]⟩
      · rw [e] at hl; cases hl
      · exact ⟨b, e⟩

theorem one_put {cs cs' : List Value} {o : Nat} {y : Value} (h : PutTo cs o [y] cs') : takeN cs' o 1 = some [y] := by
  obtain ⟨k1, k2, k3⟩ := putN_get _ _ _ _ h.put
  refine takeN_mk _ _ _ _ rfl fun i hi => ?_
  rw [k3, if_pos (by simp; omega)]
  congr 1
  omega

/-- One more client has been seen to. -/
theorem LostM.one {u : World} {wb gb : Nat} {s s' : Sv} {y : Int} (hn : wb ≠ gb) (h : LostM u wb gb fun j => if (j : Int) < y then s' else s) (y0 : 0 ≤ y) (hy : y < 3) :
    Wr u wb (0 + y.toNat * 1) 1 ∧ Wr (putCells u wb (0 + y.toNat * 1) [.string (bstr (tellS s' y).1)]) gb (0 + y.toNat * 1) 1 ∧
    LostM (putCells (putCells u wb (0 + y.toNat * 1) [.string (bstr (tellS s' y).1)]) gb (0 + y.toNat * 1) [.bool (tellS s' y).2.1]) wb gb fun j => if (j : Int) < y + 1 then s' else s := by
  obtain ⟨⟨cs, a1, a2, a3⟩, ⟨ds, b1, b2, b3⟩⟩ := h
  have hyy : ((y.toNat : Nat) : Int) = y := by omega
  obtain ⟨c1, P1⟩ := put_to (cs := cs) (o := 0 + y.toNat * 1) (ys := [.string (bstr (tellS s' y).1)]) (by rw [a2]; simp; omega)
  obtain ⟨d1, P2⟩ := put_to (cs := ds) (o := 0 + y.toNat * 1) (ys := [.bool (tellS s' y).2.1]) (by rw [b2]; simp; omega)
  have up1 := upd_put (u := u) wb (0 + y.toNat * 1) [.string (bstr (tellS s' y).1)]
  have up2 := upd_put (u := putCells u wb (0 + y.toNat * 1) [.string (bstr (tellS s' y).1)]) gb (0 + y.toNat * 1) [.bool (tellS s' y).2.1]
  have b1' := b1.upd up1 fun e => hn e.symm
  refine ⟨a1.wrAt P1.put, b1'.wrAt P2.put, ⟨c1, (a1.putAt P1.put).upd up2 fun e => hn e, by rw [P1.len, a2], fun j hj => ?_⟩, ⟨d1, b1'.putAt P2.put, by rw [P2.len, b2], fun j hj => ?_⟩⟩
  · by_cases e : j = y.toNat
    · subst e
      rw [if_pos (by omega), hyy]
      have := one_put P1
      rwa [show 0 + y.toNat * 1 = y.toNat by omega] at this
    · have k := P1.off (by simp; omega) (a3 j hj)
      by_cases e2 : (j : Int) < y
      · rw [if_pos e2] at k; rw [if_pos (by omega)]; exact k
      · rw [if_neg e2] at k; rw [if_neg (by omega)]; exact k
  · by_cases e : j = y.toNat
    · subst e
      rw [if_pos (by omega), hyy]
      have := one_put P2
      rwa [show 0 + y.toNat * 1 = y.toNat by omega] at this
    · have k := P2.off (by simp; omega) (b3 j hj)
      by_cases e2 : (j : Int) < y
      · rw [if_pos e2] at k; rw [if_pos (by omega)]; exact k
      · rw [if_neg e2] at k; rw [if_neg (by omega)]; exact k

/-- What the look comes to. -/
structure LostTo (w : World) (wb gb : Nat) (s' : Sv) (e : Ending) (w' : World) : Prop where
  e : e = .returned (.bool true)
  mem : LostM w' wb gb fun _ => s'
  upd : Upd (fun k => k = wb ∨ k = gb) w w'

set_option maxHeartbeats 2000000 in
theorem lost1_ok {k n0 sb tb wb gb : Nat} {w : World} {s : Sv} {t t' : List Tm} {a : Ac} (hI : PlayI k s t) (hk : (k : Int) < 300) (P : PlayM n0 w sb tb (doS s a).1 t') (hX : LostM w wb gb fun _ => s) (hw : wb < n0) (hg : gb < n0) (hn : wb ≠ gb) :
    Spec Tryd.prog fn_fenestratop_TopLost_c1 #[.pointer (some ⟨sb, 0, none⟩), .pointer (some ⟨tb, 0, none⟩), .agg #[.int .i64 a.kind, .int .i64 a.p, .int .i64 a.n, .int .i64 a.m, .string (bstr a.bytes)], .agg #[.int .i64 (doS s a).2.code, .int .i64 (doS s a).2.n, .string (bstr (doS s a).2.out)], .pointer (some ⟨wb, 0, none⟩), .pointer (some ⟨gb, 0, none⟩)] w (LostTo w wb gb (doS s a).1) := by
  apply vc_fenestratop_TopLost_c1_spec
  unfold vc_fenestratop_TopLost_c1
  simp only [decide_eq_true_eq, decide_eq_false_iff_not, true_and, Bool.not_eq_true', Bool.not_eq_false']
  have h0 : Ext w (allocW (allocW w hole) hole) := ((Upd.refl w).alloc _).alloc _
  have hlaw := fun {c : Int} (h0 : 0 ≤ c) (h3 : c < 3) => lost_law hI hk a h0 h3
  generalize (doS s a).1 = s' at *
  refine ⟨fun y v => 0 ≤ y ∧ y ≤ 3 ∧ (LostM v wb gb fun j => if (j : Int) < y then s' else s) ∧ Upd (fun k => k = wb ∨ k = gb) w v, fun y _ => (3 - y).toNat, ⟨by omega, by omega, ?_, h0.any⟩, ?_⟩
  · have := hX.upd h0 (fun h => h) (fun h => h)
    obtain ⟨⟨cs, a1, a2, a3⟩, ⟨ds, b1, b2, b3⟩⟩ := this
    exact ⟨⟨cs, a1, a2, fun j hj => by rw [if_neg (by omega)]; exact a3 j hj⟩, ⟨ds, b1, b2, fun j hj => by rw [if_neg (by omega)]; exact b3 j hj⟩⟩
  rintro y v ⟨y0, y3, hL, hv⟩
  refine ⟨fun hy => ?_, fun hy => ⟨rfl, ?_, hv⟩⟩
  rotate_left 1
  · obtain ⟨⟨cs, a1, a2, a3⟩, ⟨ds, b1, b2, b3⟩⟩ := hL
    exact ⟨⟨cs, a1, a2, fun j hj => by have := a3 j hj; rwa [if_pos (by omega)] at this⟩, ⟨ds, b1, b2, fun j hj => by have := b3 j hj; rwa [if_pos (by omega)] at this⟩⟩
  have P1 := P.upd hv fun k hk => by omega
  refine (srvClient_ok P1.sv y).mono fun e w1 ⟨he, hw1⟩ => ⟨_, _, _, he, ?_⟩
  have hL1 := hL.upd hw1 (fun h => h) (fun h => h)
  have hv1 := hv.ext hw1
  have hd : Ext w1 (drewW w1) := (Upd.refl _).drew
  have hr : Ext w1 w1 := Upd.refl _
  have hL2 := hL1.upd hd (fun h => h) (fun h => h)
  have hyy : ((y.toNat : Nat) : Int) = y := by omega
  obtain ⟨len, tick⟩ := hlaw y0 hy
  obtain ⟨o1, o2, o3⟩ := LostM.one hn hL2 y0 hy
  have hv2 := ((hv1.ext hd).put (b := wb) (fun _ => .inl rfl) (0 + y.toNat * 1) [.string (bstr (tellS s' y).1)]).put (b := gb) (fun _ => .inr rfl) (0 + y.toNat * 1) [.bool (tellS s' y).2.1]
  have rdW : ∀ {z : World}, Ext w1 z → Rd z wb (0 + y.toNat * 1) [.string (bstr (tellS s y).1)] := fun hz => by
    obtain ⟨cs, a1, a2, a3⟩ := (hL1.upd hz (fun h => h) (fun h => h)).was
    have := a3 y.toNat (by omega)
    rw [if_neg (by omega), hyy] at this
    rw [show 0 + y.toNat * 1 = y.toNat by omega]
    exact a1.rdAt this
  have rdG : ∀ {z : World}, Ext w1 z → Rd z gb (0 + y.toNat * 1) [.bool (tellS s y).2.1] := fun hz => by
    obtain ⟨cs, a1, a2, a3⟩ := (hL1.upd hz (fun h => h) (fun h => h)).gone
    have := a3 y.toNat (by omega)
    rw [if_neg (by omega), hyy] at this
    rw [show 0 + y.toNat * 1 = y.toNat by omega]
    exact a1.rdAt this
  have z1 := bstr_sz (tellS s' y).1
  have z2 := bstr_sz (tellS s y).1
  have noLess' : (tellS s' y).2.2 = true → a.kind = 8 → (tellS s' y).2.1 = false → (((bstr (tellS s y).1).size : Nat) : Int) ≤ (((bstr (tellS s' y).1).size : Nat) : Int) := fun hH h8 hLo => by
    obtain ⟨b, hb⟩ := (tick h8 hH).2 hLo
    rw [z1, z2, hb, List.length_append]
    omega
  have noLess : (tellS s' y).2.2 = true → a.kind = 8 → (tellS s' y).2.1 = false → (((bstr (tellS s' y).1).size : Nat) : Int) < (((bstr (tellS s y).1).size : Nat) : Int) → False := fun hH h8 hLo hlt => by
    have := noLess' hH h8 hLo
    omega
  have pre : (tellS s' y).2.2 = true → a.kind = 8 → (tellS s' y).2.1 = false → ((bstr (tellS s' y).1).extract (0 : Int).toNat (((bstr (tellS s y).1).size : Nat) : Int).toNat).data.toList = (bstr (tellS s y).1).data.toList := fun hH h8 hLo => by
    obtain ⟨b, hb⟩ := (tick h8 hH).2 hLo
    rw [extract_bstr, z2, hb, bstr_list, bstr_list]
    simp
  have fin : 0 ≤ y ∧ y < ((3 : Nat) : Int) ∧ 1 = ([.string (bstr (tellS s' y).1)] : List Value).length ∧ Wr (drewW w1) wb (0 + y.toNat * 1) 1 ∧ 0 ≤ y ∧ y < ((3 : Nat) : Int) ∧ 1 = ([.bool (tellS s' y).2.1] : List Value).length ∧
      Wr (putCells (drewW w1) wb (0 + y.toNat * 1) [.string (bstr (tellS s' y).1)]) gb (0 + y.toNat * 1) 1 ∧ inK .i64 (y + 1) ∧
      (0 ≤ y + 1 ∧ y + 1 ≤ 3 ∧ (LostM (putCells (putCells (drewW w1) wb (0 + y.toNat * 1) [.string (bstr (tellS s' y).1)]) gb (0 + y.toNat * 1) [.bool (tellS s' y).2.1]) wb gb fun j => if (j : Int) < y + 1 then s' else s) ∧ Upd (fun k => k = wb ∨ k = gb) w (putCells (putCells (drewW w1) wb (0 + y.toNat * 1) [.string (bstr (tellS s' y).1)]) gb (0 + y.toNat * 1) [.bool (tellS s' y).2.1])) ∧
      (3 - (y + 1)).toNat < (3 - y).toNat :=
    ⟨y0, hy, rfl, o1, y0, hy, rfl, o2, by simp only [inK]; omega, ⟨by omega, by omega, o3, hv2⟩, by omega⟩
  refine ⟨fun hlt => (by rw [z1] at hlt; omega : False).elim, fun _ => ⟨fun hH => ⟨fun h8 => ⟨fun hc => ⟨fun hlo => ⟨y0, hy, _, rfl, rdW hr, fun he => ?_, fun _ => ⟨y0, hy, _, rfl, rdW hr, fun hne => ?_, fun _ => ⟨fun hH => ⟨fun h8 => ⟨fun hL => ⟨y0, hy, _, rfl, rdG hd, fun hg => ⟨y0, hy, _, rfl, rdW hd, fun hlt => (noLess hH h8 hL hlt).elim, fun _ => ⟨y0, hy, _, rfl, rdW hd, by omega, by omega, noLess' hH h8 hL, y0, hy, _, rfl, rdW hd, fun hne => (hne (pre hH h8 hL)).elim, fun _ => fin⟩⟩, fun _ => fin⟩, fun _ => fin⟩, fun _ => fin⟩, fun _ => fin⟩⟩⟩, fun hlo => ⟨fun hH => ⟨fun h8 => ⟨fun hL => ⟨y0, hy, _, rfl, rdG hd, fun hg => ⟨y0, hy, _, rfl, rdW hd, fun hlt => (noLess hH h8 hL hlt).elim, fun _ => ⟨y0, hy, _, rfl, rdW hd, by omega, by omega, noLess' hH h8 hL, y0, hy, _, rfl, rdW hd, fun hne => (hne (pre hH h8 hL)).elim, fun _ => fin⟩⟩, fun _ => fin⟩, fun _ => fin⟩, fun _ => fin⟩, fun _ => fin⟩⟩, fun hc => ⟨fun hH => ⟨fun h8 => ⟨fun hL => ⟨y0, hy, _, rfl, rdG hd, fun hg => ⟨y0, hy, _, rfl, rdW hd, fun hlt => (noLess hH h8 hL hlt).elim, fun _ => ⟨y0, hy, _, rfl, rdW hd, by omega, by omega, noLess' hH h8 hL, y0, hy, _, rfl, rdW hd, fun hne => (hne (pre hH h8 hL)).elim, fun _ => fin⟩⟩, fun _ => fin⟩, fun _ => fin⟩, fun _ => fin⟩, fun _ => fin⟩⟩, fun h8 => ⟨fun hH => ⟨fun h8 => ⟨fun hL => ⟨y0, hy, _, rfl, rdG hd, fun hg => ⟨y0, hy, _, rfl, rdW hd, fun hlt => (noLess hH h8 hL hlt).elim, fun _ => ⟨y0, hy, _, rfl, rdW hd, by omega, by omega, noLess' hH h8 hL, y0, hy, _, rfl, rdW hd, fun hne => (hne (pre hH h8 hL)).elim, fun _ => fin⟩⟩, fun _ => fin⟩, fun _ => fin⟩, fun _ => fin⟩, fun _ => fin⟩⟩, fun hH => ⟨fun hH => ⟨fun h8 => ⟨fun hL => ⟨y0, hy, _, rfl, rdG hd, fun hg => ⟨y0, hy, _, rfl, rdW hd, fun hlt => (noLess hH h8 hL hlt).elim, fun _ => ⟨y0, hy, _, rfl, rdW hd, by omega, by omega, noLess' hH h8 hL, y0, hy, _, rfl, rdW hd, fun hne => (hne (pre hH h8 hL)).elim, fun _ => fin⟩⟩, fun _ => fin⟩, fun _ => fin⟩, fun _ => fin⟩, fun _ => fin⟩⟩⟩
  · rw [bstr_list] at he
    exact (((tick h8 hH).1 hlo).1 he).elim
  · rw [((tick h8 hH).1 hlo).2] at hne
    exact (hne rfl).elim

end Go.Proofs.YtkmmphkjmamckaaDoor
