/-
  What a client shows once it has all that waits: whether that is what it is to see.
-/
import Derived.Test.YtkmmphkjmamckabDoorTmWalk
import Derived.Test.YtkmmphkjmamckabDoorTopCells
import Derived.Test.YtkmmphkjmamckabDoorSView
import Derived.Test.YtkmmphkjmamckabDoorZVf
namespace Go.Proofs.YtkmmphkjmamckabDoor
open Go
set_option linter.all false

theorem tell_here {s : Sv} {c : Int} (h0 : 0 ≤ c) (h3 : c < 3) (hh : (clientOf s c.toNat).here = true) : tellS s c = ((clientOf s c.toNat).queue, (clientOf s c.toNat).lost, true) := by
  unfold tellS
  rw [if_neg (by rw [hh]; simp; omega)]

theorem tell_gone {s : Sv} {c : Int} (hh : (clientOf s c.toNat).here = false) : tellS s c = ([], false, false) := by
  unfold tellS
  rw [if_pos (.inr (.inr hh))]

/-- Behind a tick, a client of which nothing is lost shows what it is to see, as soon as it has all that waits. -/
theorem shown_after {k : Int} {s : Sv} {t : List Tm} (h : PlayI k s t) (hk : k < 300) {a : Ac} (ha : a.kind = 8) {c : Int} (h0 : 0 ≤ c) (h3 : c < 3) (hh : (clientOf (doS s a).1 c.toNat).here = true) (hl : (clientOf (doS s a).1 c.toNat).lost = false) :
    GoodP (tmOf t c.toNat).p ∧ GoodG (tmOf t c.toNat).g ∧ (tellS (doS s a).1 c).1.length ≤ 4000 ∧ ∃ g, getT (tmOf t c.toNat) (tellS (doS s a).1 c).1 = ⟨.zero, g⟩ ∧
      (g.cells = (screenV (doS s a).1.v g.wide g.high).cells ∧ g.wide = (screenV (doS s a).1.v g.wide g.high).wide ∧ g.high = (screenV (doS s a).1.v g.wide g.high).high ∧ g.row = (screenV (doS s a).1.v g.wide g.high).row ∧ g.col = (screenV (doS s a).1.v g.wide g.high).col) := by
  obtain ⟨k1, k2, k3, k4, k5, k6, k7⟩ := tick_shown h hk ha (c := c.toNat) (by omega) hh hl
  have hi := do_inv h.inv a
  have hq := ((hi.clients c.toNat (by omega)).on hh).2
  have hs := screen_sides (v := s.v) k3
  rw [tell_here h0 h3 hh]
  rw [k4]
  exact ⟨(h.tm c.toNat (by omega)).pr, k2, hq, _, k1, k5, hs.1.symm, hs.2.symm, k6, k7⟩

set_option maxHeartbeats 1000000 in
theorem shown_ok {u : World} {sb : Nat} {B : Nat → Prop} {s : Sv} (h : SvM u sb B s) (I : InvS s) {tm : Tm} {t : List Value} {ok : Nat → Prop} (ht : TmAt u ok tm t 0) (hl : t.length = 13) (hp : GoodP tm.p) (hg : GoodG tm.g) (c : Int) (hql : (tellS s c).1.length ≤ 4000)
    {g : Gr} (hq : getT tm (tellS s c).1 = ⟨.zero, g⟩) (hw : g.cells = (screenV s.v g.wide g.high).cells ∧ g.wide = (screenV s.v g.wide g.high).wide ∧ g.high = (screenV s.v g.wide g.high).high ∧ g.row = (screenV s.v g.wide g.high).row ∧ g.col = (screenV s.v g.wide g.high).col) :
    Spec Tryd.prog fn_fenestratop_shown #[.pointer (some ⟨sb, 0, none⟩), .agg t.toArray, .int .i64 c] u (Told u true) := by
  apply vc_fenestratop_shown_spec
  unfold vc_fenestratop_shown
  simp only [decide_eq_true_eq, decide_eq_false_iff_not, true_and, Bool.not_eq_true', Bool.not_eq_false']
  have ha : Ext u (allocW u (.cells t.toArray 49)) := (Upd.refl _).alloc _
  have has := size_alloc u (.cells t.toArray 49)
  have b0 : Blk (allocW u (.cells t.toArray 49)) u.heap.size t := Blk.fresh _ _ _
  have ht' : TmAt u (fun k => ¬ k = u.heap.size) tm t 0 := ht.mono fun k _ hk => by omega
  refine (srvClient_ok (h.ext ha) c).mono fun e u1 ⟨he, hu1⟩ => ⟨_, _, _, he, ?_⟩
  have hus := hu1.size
  refine (get_ok (o := 0) (b0.ext hu1) (by omega) (ht'.upd (ha.ext hu1) fun _ _ h => h) (fun hk => hk rfl) (fun k hk => by omega) hp hg (bstr_list _) (by omega)).mono fun e u2 ⟨he, ⟨cs, hb, hcl, ⟨⟨y, y1, Y⟩, z, z1, Z⟩, _⟩, hu2⟩ => ⟨_, he, fun hn => (by cases hn), fun _ => ?_⟩
  rw [hq] at Y Z
  obtain ⟨yp, yn, yc, rfl, _⟩ := Y.ex
  obtain ⟨⟨gp, gc, rfl, gC, _⟩, gfew⟩ := Z
  have x1 := ha.ext hu1
  have hu20 : Ext u u2 := (x1.trans hu2 fun k hk h => by omega).mono fun _ _ h => h
  have S2 := h.over I.cols x1 hu2 fun k hk => by omega
  have rd : ∀ {w : World} {j m o : Nat} {x : List Value}, Ext u2 w → takeN (grV g gp g.cells.length gc) j m = some x → j + m ≤ 9 → o = 0 + 4 + j → Rd w u.heap.size o x := fun hw hz hjm ho => by
    rw [ho]
    exact hw.rd (hb.rdAt (takeN_sub z1 hz hjm)) fun h => h
  have r0 : Rd u2 u.heap.size (0 + 0 + 0) [.int .i64 0] := hb.rdAt (takeN_sub y1 (j := 0) (m := 1) rfl (by decide))
  have hd : Ext u2 (drewW u2) := (Upd.refl _).drew
  have fin : ∀ {w : World}, Ext u2 w → (sameC_t g (screenV s.v g.wide g.high) = true → ∃ x43 : Int, 1 = ([.int .i64 x43] : List Value).length ∧ Rd w u.heap.size (0 + 4 + 3) [.int .i64 x43] ∧ ((x43 = (screenV s.v g.wide g.high).row → ∃ x51 : Int, 1 = ([.int .i64 x51] : List Value).length ∧ Rd w u.heap.size (0 + 4 + 4) [.int .i64 x51] ∧ Told u true (.returned (.bool (decide (x51 = (screenV s.v g.wide g.high).col)))) w) ∧
      (¬ x43 = (screenV s.v g.wide g.high).row → Told u true (.returned (.bool false)) w))) ∧ (sameC_t g (screenV s.v g.wide g.high) = false → Told u true (.returned (.bool false)) w) := fun {w} hx => by
    refine ⟨fun _ => ⟨_, rfl, rd hx (j := 3) (m := 1) rfl (by decide) (by omega), fun _ => ⟨_, rfl, rd hx (j := 4) (m := 1) rfl (by decide) (by omega), ?_, hu20.ext hx⟩, fun hn => (hn hw.2.2.2.1).elim⟩, fun hf => ?_⟩
    · rw [decide_eq_true hw.2.2.2.2]
    · unfold sameC_t at hf
      rw [decide_eq_false_iff_not] at hf
      exact (hf ⟨hw.2.1, hw.2.2.1, hw.1⟩).elim
  have gl : g.cells.length ≤ 100000000 := by have : g.cells.length ≤ 1000 := gfew; omega
  refine ⟨_, rfl, r0, fun hn => (hn rfl).elim, fun _ => ⟨_, rfl, rd hd (j := 0) (m := 1) rfl (by decide) (by omega), _, rfl, rd hd (j := 1) (m := 1) rfl (by decide) (by omega), ⟨?_, ?_⟩⟩⟩
  · refine (srvView_ok (S2.ext hd) (smallFew I.cols) (fun p hp => I.grid_or p hp)).mono fun e w1 ⟨⟨cv, he, V⟩, hw1⟩ => ⟨_, he, ?_⟩
    have xw := hd.ext hw1
    refine ⟨rd xw (j := 1) (m := 1) rfl (by decide) (by omega), rd xw (j := 0) (m := 1) rfl (by decide) (by omega), ⟨?_, ?_⟩⟩
    · refine (pscreen_ok V.m g.wide g.high).mono fun e w2 ⟨⟨nb, he, hco, hnb⟩, hw2⟩ => ⟨_, _, _, _, _, _, _, _, _, _, _, he, ?_⟩
      have xa := (xw.ext hw2).alloc hole
      refine ⟨rd xa (j := 1) (m := 1) rfl (by decide) (by omega), rd xa (j := 0) (m := 1) rfl (by decide) (by omega), _, _, _, _, _, _, _, _, _, _, _, rfl, rd xa (j := 0) (m := 9) rfl (by decide) (by omega), ?_⟩
      exact (sameCellsT_ok (gC.ext xa) ((hco.ext ((Upd.refl (S := fun _ => False) w2).alloc hole)).cells) gc _ gl).mono fun e w3 ⟨he, hw3⟩ => ⟨_, he, fin (xa.ext hw3)⟩
    · have xa := xw.alloc hole
      refine ⟨rd xa (j := 1) (m := 1) rfl (by decide) (by omega), rd xa (j := 0) (m := 1) rfl (by decide) (by omega), ?_⟩
      refine (pscreen_ok (V.m.ext ((Upd.refl (S := fun _ => False) w1).alloc hole)) g.wide g.high).mono fun e w2 ⟨⟨nb, he, hco, hnb⟩, hw2⟩ => ⟨_, _, _, _, _, _, _, _, _, _, _, he, ?_⟩
      have xb := xa.ext hw2
      refine ⟨_, _, _, _, _, _, _, _, _, _, _, rfl, rd xb (j := 0) (m := 9) rfl (by decide) (by omega), ?_⟩
      exact (sameCellsT_ok (gC.ext xb) hco.cells gc _ gl).mono fun e w3 ⟨he, hw3⟩ => ⟨_, he, fin (xb.ext hw3)⟩
  · have xa := hd.alloc hole
    refine ⟨rd xa (j := 1) (m := 1) rfl (by decide) (by omega), rd xa (j := 0) (m := 1) rfl (by decide) (by omega), ?_⟩
    refine (srvView_ok (S2.ext xa) (smallFew I.cols) (fun p hp => I.grid_or p hp)).mono fun e w1 ⟨⟨cv, he, V⟩, hw1⟩ => ⟨_, he, ?_⟩
    have xw := xa.ext hw1
    refine ⟨rd xw (j := 1) (m := 1) rfl (by decide) (by omega), rd xw (j := 0) (m := 1) rfl (by decide) (by omega), ?_⟩
    refine (pscreen_ok V.m g.wide g.high).mono fun e w2 ⟨⟨nb, he, hco, hnb⟩, hw2⟩ => ⟨_, _, _, _, _, _, _, _, _, _, _, he, ?_⟩
    have xb := xw.ext hw2
    refine ⟨_, _, _, _, _, _, _, _, _, _, _, rfl, rd xb (j := 0) (m := 9) rfl (by decide) (by omega), ?_⟩
    exact (sameCellsT_ok (gC.ext xb) hco.cells gc _ gl).mono fun e w3 ⟨he, hw3⟩ => ⟨_, he, fin (xb.ext hw3)⟩

end Go.Proofs.YtkmmphkjmamckabDoor
