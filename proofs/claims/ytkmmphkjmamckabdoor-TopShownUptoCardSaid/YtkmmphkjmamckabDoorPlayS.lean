/-
  Acts are played, and behind each tick what clients show is looked at.
-/
import Derived.Test.YtkmmphkjmamckabDoorTopPlay
import Derived.Test.YtkmmphkjmamckabDoorZVs
import Derived.Test.YtkmmphkjmamckabDoorTopS1
namespace Go.Proofs.YtkmmphkjmamckabDoor
open Go
set_option linter.all false

set_option maxHeartbeats 2000000 in
theorem play_shown_ok {u : World} {p : Option Addr} {l : List Ac} (hl : ActL u p l) (hb : ∀ a ∈ l, a.bytes.length ≤ 1048576) (c : Nat) :
    vc_fenestratop_play_shown p l.length c u (PlayTo u l) := by
  unfold vc_fenestratop_play_shown
  simp only [decide_eq_true_eq, decide_eq_false_iff_not, true_and, Bool.not_eq_true', Bool.not_eq_false']
  refine alive_ok.mono fun e u1 ⟨he, hu1⟩ => ⟨_, he, fun hn => (by cases hn), fun _ => ?_⟩
  refine srvNew_ok.mono fun e u2 ⟨sb, he, hm, hsb, hu2⟩ => ⟨sb, 0, he, ?_⟩
  have x2 := hu1.ext hu2
  have P0 := PlayM.start (hm.more newS_ok.cols (Upd.refl _) (B' := fun k => k = sb ∨ k < u.heap.size) (.inl rfl) fun k hk => by have := hm.lt; have := x2.size; have := hu1.size; omega) (by have := hu1.size; omega) x2
  have hun := hu1.size
  have x2s := x2.size
  have hlt := hm.lt
  have xa : ∀ t : TypeId, Ext u2 (allocW u2 (.cells ([.int .i64 0, .slice none 0 0, .string (ByteArray.mk #[]), .bool false, .int .i64 0, .int .i64 0, .slice none 0 0, .int .i64 0, .int .i64 0, .int .i64 0, .bool false, .int .i64 0, .int .i64 0, .int .i64 0, .slice none 0 0, .string (ByteArray.mk #[]), .bool false, .int .i64 0, .int .i64 0, .slice none 0 0, .int .i64 0, .int .i64 0, .int .i64 0, .bool false, .int .i64 0, .int .i64 0, .int .i64 0, .slice none 0 0, .string (ByteArray.mk #[]), .bool false, .int .i64 0, .int .i64 0, .slice none 0 0, .int .i64 0, .int .i64 0, .int .i64 0, .bool false, .int .i64 0, .int .i64 0] : List Value).toArray t)) := fun t => (Upd.refl _).alloc _
  generalize htb : u2.heap.size = tb at P0 ⊢
  have htn : u.heap.size ≤ tb := by omega
  have hsn : u.heap.size ≤ sb := by omega
  refine ⟨fun x v => 0 ≤ x ∧ x ≤ l.length ∧ x ≤ 100 ∧ PlayM u.heap.size v sb tb (playN l x.toNat).1 (playN l x.toNat).2 ∧ Ext u v, fun x _ => (100 - x).toNat, ⟨by omega, by omega, by omega, P0 _, x2.ext (xa _)⟩, ?_⟩
  rintro x v ⟨x0, xl, x100, P, hv⟩
  refine ⟨fun hxl => ⟨fun hx => ?_, fun hx => ?_⟩, fun hxl => ?_⟩
  rotate_left 1
  · have : min l.length 100 = x.toNat := by omega
    exact ⟨⟨sb, tb, rfl, by rw [this]; exact P⟩, hv⟩
  · have : min l.length 100 = x.toNat := by omega
    exact ⟨⟨sb, tb, rfl, by rw [this]; exact P⟩, hv⟩
  obtain ⟨b, o, hp, hr⟩ := (hl.ext hv).at (i := x.toNat) (by omega) .zero
  have hmem : l.getD x.toNat .zero ∈ l := getD_mem (by omega)
  have hbl := hb _ hmem
  have hI := play_inv l x.toNat (by omega)
  have hk : ((x.toNat : Nat) : Int) < 300 := by omega
  have eN : (x + 1).toNat = x.toNat + 1 := by omega
  have e1 : (playN l (x.toNat + 1)).1 = (doS (playN l x.toNat).1 (l.getD x.toNat .zero)).1 := rfl
  have e2 : (playN l (x.toNat + 1)).2 = stepT (playN l x.toNat).2 (l.getD x.toNat .zero) (doS (playN l x.toNat).1 (l.getD x.toNat .zero)).2 := rfl
  have hat := fun h6 h0 => do_attach hI hk (a := l.getD x.toNat .zero) h6 h0
  have hdr := fun h9 h0 => do_drain hI hk (a := l.getD x.toNat .zero) h9 h0
  generalize ha : l.getD x.toNat .zero = a at *
  have ev : Ext v (allocW v hole) := (Upd.refl _).alloc _
  have P1 := P.ext ev
  refine ⟨b, o, hp, x0, hxl, _, _, _, _, _, rfl, hr, ?_⟩
  refine (srvDo_ok P1.sv hI.inv (by have := hI.acts; omega) a (bstr_list _) (by rw [bstr_sz]; exact hbl)).mono fun e u3 ⟨he, hm3, hu3⟩ => ⟨_, _, _, he, ?_⟩
  generalize hs : (playN l x.toNat).1 = s at *
  generalize ht : (playN l x.toNat).2 = t at *
  have P3 := P1.do_ hu3 hm3
  have hv3 : Upd (fun k => k = sb ∨ k = tb) v u3 := (ev.any).trans hu3 fun k hk h => .inl h
  have look : ∀ {w : World}, PlayM u.heap.size w sb tb (doS s a).1 (stepT t a (doS s a).2) → Upd (fun k => k = sb ∨ k = tb) v w → Spec Tryd.prog fn_fenestratop_TopShown_c1 #[.pointer (some ⟨sb, 0, none⟩), .pointer (some ⟨tb, 0, none⟩), .agg #[.int .i64 a.kind, .int .i64 a.p, .int .i64 a.n, .int .i64 a.m, .string (bstr a.bytes)], .agg #[.int .i64 (doS s a).2.code, .int .i64 (doS s a).2.n, .string (bstr (doS s a).2.out)]] w
      (fun e w' => ∃ y : Bool, e = .returned (.bool y) ∧ (y = false → PlayTo u l (.returned (.tuple #[.pointer (some ⟨sb, 0, none⟩), .pointer (some ⟨tb, 0, none⟩), .bool false])) w') ∧ (y = true → inK .i64 (x + 1) ∧ (0 ≤ x + 1 ∧ x + 1 ≤ l.length ∧ x + 1 ≤ 100 ∧ PlayM u.heap.size w' sb tb (playN l (x + 1).toNat).1 (playN l (x + 1).toNat).2 ∧ Ext u w') ∧ (100 - (x + 1)).toNat < (100 - x).toNat)) := fun {w} hP hvw => by
    have hw : Ext u w := hv.trans hvw fun k hk h => (by omega : False).elim
    refine (shownAll_ok hI hk hP).mono fun e w' ⟨he, hw'⟩ => ⟨true, he, fun hn => (by cases hn), fun _ => ⟨by simp only [inK]; omega, ⟨by omega, by omega, by omega, ?_, hw.ext hw'⟩, by omega⟩⟩
    rw [eN, e1, e2]
    exact hP.ext hw'
  have hI3 : t.length = 3 := hI.len
  refine ⟨fun h0 => ⟨fun h6 => ?_, fun h6 => ⟨fun _ => ⟨fun h9 => ?_, fun h9 => ?_⟩, fun hn => (hn h0).elim⟩⟩, fun h0 => ⟨fun h => (h0 h).elim, fun _ => ?_⟩⟩
  · obtain ⟨q0, q3⟩ := hat h6 h0
    have hd : Ext u3 (drewW (allocW u3 hole)) := ((Upd.refl (S := fun _ => False) u3).alloc _).drew
    refine (gnew_ok a.n a.m).mono fun e w ⟨⟨nb, he, hco, hnb⟩, hw⟩ => ?_
    have P4 := P3.ext (hd.ext hw)
    have hnl := few_cells (new_ok' a.n a.m)
    have hds := hd.size
    have o1 : 0 + a.p.toNat * 13 = a.p.toNat * 13 := by omega
    obtain ⟨m1, m2⟩ := P4.tm.set hI3 (c := a.p.toNat) (by omega) (x := ⟨.zero, newG a.n a.m⟩) (y := [.int .i64 0, .slice none 0 0, .string (ByteArray.mk #[]), .bool false]) (z := grV (newG a.n a.m) (some ⟨nb, 0, none⟩) (newG a.n a.m).cells.length (newG a.n a.m).cells.length) (PrAt.zero _ _) ⟨⟨_, _, rfl, hco.cells, fun _ k hk => P3.tm.new (by have := at_some hk; simp only at this; omega), Nat.le_refl _⟩, by show (newG a.n a.m).cells.length ≤ 1000; omega⟩ o1
    have P5 := P4.got (upd_put tb _ _) m2
    have hst : stepT t a (doS s a).2 = t.set a.p.toNat ⟨.zero, newG a.n a.m⟩ := by unfold stepT; rw [if_pos ⟨h0, h6⟩]
    rw [← hst] at P5
    have hw5 := (((hv3.ext hd).ext hw).put (b := tb) (fun _ => .inr rfl) (0 + a.p.toNat * 13) ([.int .i64 0, .slice none 0 0, .string (ByteArray.mk #[]), .bool false] ++ grV (newG a.n a.m) (some ⟨nb, 0, none⟩) (newG a.n a.m).cells.length (newG a.n a.m).cells.length))
    refine ⟨_, _, _, _, _, _, _, _, _, _, _, he, q0, q3, rfl, m1, fun _ => ⟨fun h9 => (by omega : False).elim, fun _ => ?_⟩, fun hn => (hn h0).elim⟩
    exact look (P5.ext (Upd.refl _).drew) hw5.drew
  · obtain ⟨q0, q3, q4, q5, q6⟩ := hdr h9 h0
    have hd : Ext u3 (drewW (allocW u3 hole)) := ((Upd.refl (S := fun _ => False) u3).alloc _).drew
    have P4 := P3.ext hd
    refine ⟨q0, q3, (P4.tm.get hI3 (c := a.p.toNat) (by omega) (o := 0 + a.p.toNat * 13) (by omega) q4 q5 (bstr_list _) (by omega)).mono fun e w ⟨he, hm, hw⟩ => ⟨_, he, fun hn => (by cases hn), fun _ => ?_⟩⟩
    have P5 := P4.got hw hm
    have hst : stepT t a (doS s a).2 = t.set a.p.toNat (getT (tmOf t a.p.toNat) (doS s a).2.out) := by unfold stepT; rw [if_neg (by omega), if_pos ⟨h0, h9⟩]
    rw [← hst] at P5
    exact look P5 ((hv3.ext hd).trans hw fun k hk h => .inr h)
  · have hd : Ext u3 (drewW (allocW u3 hole)) := ((Upd.refl (S := fun _ => False) u3).alloc _).drew
    have hst : stepT t a (doS s a).2 = t := by unfold stepT; rw [if_neg (by omega), if_neg (by omega)]
    have P4 := P3.ext hd
    rw [← hst] at P4
    exact look P4 (hv3.ext hd)
  · have hd : Ext u3 (drewW (allocW u3 hole)) := ((Upd.refl (S := fun _ => False) u3).alloc _).drew
    have hst : stepT t a (doS s a).2 = t := by unfold stepT; rw [if_neg (fun h => h0 h.1), if_neg (fun h => h0 h.1)]
    have P4 := P3.ext hd
    rw [← hst] at P4
    exact look P4 (hv3.ext hd)

end Go.Proofs.YtkmmphkjmamckabDoor
