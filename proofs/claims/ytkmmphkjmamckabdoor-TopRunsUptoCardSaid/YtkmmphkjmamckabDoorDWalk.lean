/-
  The pen: what it writes, and the screen behind it.
-/
import Derived.Test.YtkmmphkjmamckabDoorDNum
import Derived.Test.YtkmmphkjmamckabDoorGWalk6
import Derived.Test.YtkmmphkjmamckabDoorPWalk2
import Derived.Test.YtkmmphkjmamckabDoorZP
import Derived.Test.YtkmmphkjmamckabDoorZVc
namespace Go.Proofs.YtkmmphkjmamckabDoor
open Go
set_option linter.all false

def bsV (s : Bs) : List Value := s.map fun b => .int .u8 b.toNat
theorem bsV_len (s : Bs) : (bsV s).length = s.length := List.length_map ..
theorem bsV_append (a b : Bs) : bsV (a ++ b) = bsV a ++ bsV b := List.map_append ..
theorem bsV_ok (s : Bs) : okCells (bsV s) True := by
  rw [okCells_iff]
  refine ⟨fun c hc => ?_, trivial⟩
  obtain ⟨i, _, rfl⟩ := List.mem_map.1 hc
  rfl

/-- A pen: its block, its screen, its bytes; none of it is below N. -/
structure Pen (N : Nat) (F : Nat → Prop) (u : World) (b : Nat) (x : Gr × Bs) : Prop where
  ex : ∃ gp gc op oc, Blk u b (grV x.1 gp x.1.cells.length gc ++ [.slice op x.2.length oc]) ∧ Cells u gp x.1.cells ∧ (∀ k, At gp k → k ≠ b ∧ ¬ At op k ∧ k < u.heap.size ∧ (F k ∨ N ≤ k)) ∧ Own u 1 op x.2.length oc (bsV x.2) ∧ ∀ k, At op k → k ≠ b ∧ N ≤ k
  new : N ≤ b

theorem Pen.ext {N : Nat} {F : Nat → Prop} {u u' : World} {b : Nat} {x : Gr × Bs} (h : Pen N F u b x) (hu : Ext u u') : Pen N F u' b x := by
  obtain ⟨gp, gc, op, oc, h1, h2, h3, h4, h5⟩ := h.ex
  exact ⟨⟨gp, gc, op, oc, h1.ext hu, h2.ext hu, fun k hk => ⟨(h3 k hk).1, (h3 k hk).2.1, by have := (h3 k hk).2.2.1; have := hu.size; omega, (h3 k hk).2.2.2⟩, h4.ext hu, h5⟩, h.new⟩

/-- The pen is other than it was; all else is as it was. -/
structure PenTo (N : Nat) (F : Nat → Prop) (u : World) (b : Nat) (x : Gr × Bs) (e : Ending) (u' : World) : Prop where
  e : e = .returned (.tuple #[])
  pen : Pen N F u' b x
  upd : Upd (fun k => N ≤ k) u u'

theorem feed_pay : ∀ (l : List UInt8) (p : Pr), GoodP p → ∀ e ∈ (feedP p l).2, e.pl.size ≤ 48
  | [], _, _, _, he => by simp [feedP] at he
  | b :: l, p, h, e, he => by
    have hl := h.pay
    have key : ∀ c, (stepP p c).2.pl.size ≤ 48 := fun c => by
      unfold stepP cmdP
      repeat' split
      all_goals first | exact hl | exact Nat.zero_le _
    simp only [feedP, List.mem_append] at he
    rcases he with he | he
    · split at he
      · simp at he
      · simp only [List.mem_singleton] at he
        rw [he]
        exact key _
    · exact feed_pay l _ (step_good h) e he

theorem write_ok {N : Nat} {F : Nat → Prop} {u : World} {b : Nat} {g : Gr} {out : Bs} (h : Pen N F u b (g, out)) {s : ByteArray} {l : Bs} (hsl : s.data.toList = l) (hs : l.length ≤ 1000) (ho : out.length ≤ 1000000) (hl : g.cells.length ≤ 10000000) (hn : 0 < (wrD (g, out) l).1.cells.length) :
    Spec Tryd.prog fn_draw_pen_write #[.pointer (some ⟨b, 0, none⟩), .string s] u (PenTo N F u b (wrD (g, out) l)) := by
  obtain ⟨gp, gc, op, oc, h1, h2, h3, h4, h5⟩ := h.ex
  dsimp only at h1 h2 h4
  have hsz : s.size = l.length := by rw [← hsl]; rfl
  apply vc_draw_pen_write_spec
  unfold vc_draw_pen_write
  refine (feed_ok .zero none 0 0 s (u := u) ⟨rfl, rfl⟩ (by omega)).mono fun e u1 he => ?_
  rcases he with ⟨_, q, n, c, lp, ln, lc, he, _, hev, hu1⟩ | ⟨hbad, _⟩
  case inr => exact (hbad GoodP.zero).elim
  rw [hsl] at hev he
  obtain ⟨xs, hA, hE⟩ := hev
  have hln : ln = (feedP .zero l).2.length := by rw [← hE.len, hA.len]
  subst hln
  have ha : Ext u1 (allocW u1 hole) := (Upd.refl _).alloc _
  have x1 := hu1.ext ha
  have B1 := h1.ext x1
  refine ⟨_, _, _, _, _, _, _, _, _, _, he, _, _, _, _, _, _, _, _, _, _, _, rfl, B1.rdAt (n := 9) rfl, ?_⟩
  have hfl := feed_len l .zero
  refine (gall_far (h2.ext x1) gc hl (ok := fun _ => True) (EvL.ext ⟨xs, hA, hE⟩ ha) lc (by omega) (fun e he => ⟨by have := feed_few _ _ GoodP.zero e he; omega, by have := feed_pay _ _ GoodP.zero e he; omega⟩)).mono fun e u2 ⟨⟨p2, c2, he, hc2, hfar, _⟩, hu2⟩ => ⟨_, _, _, _, _, _, _, _, _, _, _, _, he, rfl, ?_⟩
  have x2 := x1.ext hu2
  have B2 := h1.ext x2
  have hw : (allG g (feedP .zero l).2).1 = (wrD (g, out) l).1 := rfl
  have hw2 : (wrD (g, out) l).2 = out ++ l := rfl
  rw [hw] at hc2 ⊢
  generalize hg' : (wrD (g, out) l).1 = g' at *
  have hp2 : ∀ k, At p2 k → k ≠ b ∧ ¬ At op k ∧ k < u2.heap.size ∧ (F k ∨ N ≤ k) := fun k hk => by
    have hlt := hc2.lt hn hk
    rcases hfar k hk with h7 | h7
    · exact ⟨(h3 k h7).1, (h3 k h7).2.1, hlt, (h3 k h7).2.2.2⟩
    · have hb1 := h1.lt
      have hx := x1.size
      refine ⟨by omega, fun hat => ?_, hlt, .inr (by have := h.new; omega)⟩
      have := (h4.at hat).1
      omega
  have O2 := h4.ext x2
  have P2 : putN (grV g gp g.cells.length gc ++ [.slice op out.length oc]) 0 (grV g' p2 g'.cells.length c2) = some (grV g' p2 g'.cells.length c2 ++ [.slice op out.length oc]) := rfl
  have W2 := B2.wrAt P2
  have B3 := B2.putAt P2
  refine ⟨W2, _, _, _, rfl, B3.rdAt (n := 1) rfl, ?_⟩
  have O3 : Own (putCells u2 b (0 + 0) (grV g' p2 g'.cells.length c2)) 1 op out.length oc (bsV out) := O2.upd (upd_put b _ _) fun k hk => (h5 k hk).1
  have C3 : Cells (putCells u2 b (0 + 0) (grV g' p2 g'.cells.length c2)) p2 g'.cells := hc2.upd (upd_put b _ _) fun k hk => (hp2 k hk).1
  refine ⟨bsV out, bytesV s, by rw [bsV_len]; omega, O3.gets, by rw [← hsl] at hsz; show (s.data.toList.map _).length = _; rw [List.length_map]; omega, ⟨rfl, rfl⟩, by decide, by omega, by have := bsV_ok l; rw [← hsl] at this; exact this, fun hc => O3.wrs (by omega), fun p' cap u3 hr => ?_⟩
  have hb : bytesV s = bsV l := by rw [← hsl]; rfl
  rw [hb] at hr
  obtain ⟨a1, a2, a3⟩ := O3.app hr O3.len O3.gets (by rw [bsV_len]; omega) rfl
  rw [← bsV_append, hsz] at a1
  have B4 : Blk u3 b (grV g' p2 g'.cells.length c2 ++ [.slice op out.length oc]) := B3.upd a2 fun hat => (h5 b hat).1 rfl
  have P4 : putN (grV g' p2 g'.cells.length c2 ++ [.slice op out.length oc]) 9 [.slice p' (out.length + s.size) cap] = some (grV g' p2 g'.cells.length c2 ++ [.slice p' (out.length + s.size) cap]) := rfl
  have hs2 : (putCells u2 b (0 + 0) (grV g' p2 g'.cells.length c2)).heap.size ≥ u2.heap.size := (upd_put _ _ _).size
  have hsz2 := x2.size
  have hsz3 := a2.size
  have hp' : ∀ k, At p' k → k ≠ b ∧ N ≤ k ∧ ¬ At p2 k := fun k hk => by
    rcases a3 with ⟨rfl, _⟩ | ⟨rfl, _⟩
    · exact ⟨(h5 k hk).1, (h5 k hk).2, fun hat => (hp2 k hat).2.1 hk⟩
    · have hk := at_some hk
      simp only at hk
      have hb1 := h1.lt
      have := h.new
      exact ⟨by omega, by omega, fun hat => by have := (hp2 k hat).2.2.1; omega⟩
  refine ⟨rfl, B4.wrAt P4, rfl, ⟨⟨p2, c2, p', cap, ?_, ?_, ?_, ?_, ?_⟩, h.new⟩, ?_⟩
  · have := B4.putAt P4
    rw [hsz] at this ⊢
    rw [hw2, List.length_append, hg']
    exact this
  · rw [hg']
    exact (C3.upd a2 fun k hk => (hp2 k hk).2.1).upd (upd_put b _ _) fun k hk => (hp2 k hk).1
  · intro k hk
    have := hp2 k hk
    refine ⟨this.1, fun hat => (hp' k hat).2.2 hk, ?_, this.2.2.2⟩
    have := (upd_put (u := u3) b (0 + 9) [Value.slice p' (out.length + s.size) cap]).size
    omega
  · rw [hw2, List.length_append]
    exact a1.upd (upd_put b _ _) fun k hk => (hp' k hk).1
  · exact fun k hk => ⟨(hp' k hk).1, (hp' k hk).2.1⟩
  · have hN := h.new
    exact ((((x2.any (S := fun k => N ≤ k)).put (fun _ => hN) _ _).trans a2 fun k _ hk => (h5 k hk).2)).put (fun _ => hN) _ _

theorem bstr_size (s : Bs) : (bstr s).size = s.length := by simp [bstr, ByteArray.size]

theorem PenTo.same {N : Nat} {F : Nat → Prop} {u u' : World} {b : Nat} {x : Gr × Bs} (h : Pen N F u b x) (hu : Ext u u') : PenTo N F u b x (.returned (.tuple #[])) u' := ⟨rfl, h.ext hu, hu.any⟩

theorem move_ok {N : Nat} {F : Nat → Prop} {u : World} {b : Nat} {g : Gr} {out : Bs} (h : Pen N F u b (g, out)) (hg : GoodG g) {r c : Int} (hr : 0 ≤ r ∧ r < g.high) (hc : 0 ≤ c ∧ c < g.wide) (ho : out.length ≤ 1000000) :
    Spec Tryd.prog fn_draw_pen_move #[.pointer (some ⟨b, 0, none⟩), .int .i64 r, .int .i64 c] u (PenTo N F u b (moveD (g, out) r c)) := by
  obtain ⟨gp, gc, op, oc, h1, h2, h3, h4, h5⟩ := h.ex
  dsimp only at h1 h2 h4
  apply vc_draw_pen_move_spec
  unfold vc_draw_pen_move
  simp only [decide_eq_true_eq, decide_eq_false_iff_not, Bool.not_eq_true', Bool.not_eq_false']
  have hh := hg.h2
  have hw := hg.w2
  have hlen := cells_len hg
  have hfew := few_cells hg
  have hpos : 0 < g.cells.length := by
    have := hg.h1
    have := hg.w1
    have h1 : 1 ≤ g.high.toNat := by omega
    have h2 : 1 ≤ g.wide.toNat := by omega
    have := Nat.mul_le_mul h1 h2
    omega
  refine ⟨g.row, rfl, h1.rdAt (n := 1) rfl, fun hne => ?_, fun heq => ⟨g.col, rfl, h1.rdAt (n := 1) rfl, fun hne => ?_, fun heq2 => ?_⟩⟩
  rotate_left 2
  · have : moveD (g, out) r c = (g, out) := by unfold moveD; rw [if_neg (fun hh => hh.elim (fun h7 => h7 heq) fun h7 => h7 heq2)]
    rw [this]
    exact PenTo.same h (Upd.refl _)
  have hm : moveD (g, out) r c = wrD (g, out) (moveBytes r c) := by unfold moveD; rw [if_pos (.inl hne)]
  rotate_left 1
  have hm : moveD (g, out) r c = wrD (g, out) (moveBytes r c) := by unfold moveD; rw [if_pos (.inr hne)]
  all_goals
    rw [hm]
    have d1 := dig_len (r + 1)
    have d2 := dig_len (c + 1)
    have z1 : (ByteArray.mk #[27, 91]).size = 2 := rfl
    have z2 : (ByteArray.mk #[59]).size = 1 := rfl
    have z3 : (ByteArray.mk #[72]).size = 1 := rfl
    refine ⟨by simp only [inK]; omega, (itoa_ok (i := r + 1) (by omega) (by omega)).mono fun e u1 ⟨he, hu1⟩ => ⟨_, he, by rw [bstr_size]; omega, by simp only [ByteArray.size_append, bstr_size]; omega, by simp only [inK]; omega, ?_⟩⟩
    refine (itoa_ok (i := c + 1) (by omega) (by omega)).mono fun e u2 ⟨he, hu2⟩ => ⟨_, he, by simp only [ByteArray.size_append, bstr_size]; omega, by simp only [ByteArray.size_append, bstr_size]; omega, ?_⟩
    have x2 := hu1.ext hu2
    refine (write_ok (h.ext x2) (l := moveBytes r c) (by simp [moveBytes, ByteArray.data_append, bstr_list]) (by have := moveBytes_len r c; omega) (by omega) (by omega) (by rw [wrD_eq (move_runs hg hr hc)]; exact hpos)).mono fun e u3 h7 => ⟨h7.e, rfl, h7.pen, (x2.any).trans h7.upd fun _ _ h => h⟩

theorem ink_ok {N : Nat} {F : Nat → Prop} {u : World} {b : Nat} {g : Gr} {out : Bs} (h : Pen N F u b (g, out)) (hg : GoodG g) {k : Cl} (hk0 : 0 ≤ k.ink) (hk1 : k.ink ≤ 8) (ho : out.length ≤ 1000000) :
    Spec Tryd.prog fn_draw_pen_ink #[.pointer (some ⟨b, 0, none⟩), .agg #[.int .i64 k.ch, .int .i64 k.ink, .int .i64 k.pic, .bool k.bold]] u (PenTo N F u b (inkD (g, out) k)) := by
  obtain ⟨gp, gc, op, oc, h1, h2, h3, h4, h5⟩ := h.ex
  dsimp only at h1 h2 h4
  apply vc_draw_pen_ink_spec
  unfold vc_draw_pen_ink
  simp only [decide_eq_true_eq, decide_eq_false_iff_not, Bool.not_eq_true', Bool.not_eq_false', beq_iff_eq, beq_eq_false_iff_ne]
  have hd : Ext u (drewW (allocW u hole)) := ((Upd.refl u).alloc _).drew
  have B := h1.ext hd
  have hfew := few_cells hg
  have hlen := cells_len hg
  have hpos : 0 < g.cells.length := by
    have := hg.h1
    have := hg.w1
    have h1 : 1 ≤ g.high.toNat := by omega
    have h2 : 1 ≤ g.wide.toNat := by omega
    have := Nat.mul_le_mul h1 h2
    omega
  have d1 := dig_len (29 + k.ink)
  have z1 : (ByteArray.mk #[27, 91, 48]).size = 3 := rfl
  have z2 : (ByteArray.mk #[59, 49]).size = 2 := rfl
  have z3 : (ByteArray.mk #[59]).size = 1 := rfl
  have z4 : (ByteArray.mk #[109]).size = 1 := rfl
  have wr : ∀ {v : World} {s : ByteArray}, Ext u v → s.data.toList = inkBytes k → Spec Tryd.prog fn_draw_pen_write #[.pointer (some ⟨b, 0, none⟩), .string s] v fun e u' => e = .returned (.tuple #[]) ∧ PenTo N F u b (wrD (g, out) (inkBytes k)) (.returned (.tuple #[])) u' := fun hv hs =>
    (write_ok (h.ext hv) hs (by have := inkBytes_len k; omega) (by omega) (by omega) (by rw [wrD_eq (ink_runs hg hk0 hk1)]; exact hpos)).mono fun e u3 h7 => ⟨h7.e, rfl, h7.pen, (hv.any).trans h7.upd fun _ _ h => h⟩
  refine ⟨g.ink, rfl, B.rdAt (n := 1) rfl, fun h7 => ⟨g.bold, rfl, B.rdAt (n := 1) rfl, fun h8 => ?_, fun h8 => ?_⟩, fun h7 => ?_⟩
  · have : inkD (g, out) k = (g, out) := by unfold inkD; rw [if_pos ⟨h7, h8⟩]
    rw [this]
    exact PenTo.same h hd
  have hm : inkD (g, out) k = wrD (g, out) (inkBytes k) := by unfold inkD; rw [if_neg (fun hh => h8 hh.2)]
  rotate_left 1
  have hm : inkD (g, out) k = wrD (g, out) (inkBytes k) := by unfold inkD; rw [if_neg (fun hh => h7 hh.1)]
  all_goals
    rw [hm]
    refine ⟨fun hb => ⟨by omega, fun hi => ⟨by simp only [inK]; omega, ?_⟩, fun hi => ⟨by simp only [ByteArray.size_append]; omega, wr hd ?_⟩⟩, fun hb => ⟨fun hi => ⟨by simp only [inK]; omega, ?_⟩, fun hi => ⟨by omega, wr hd ?_⟩⟩⟩
    · refine (itoa_ok (i := 29 + k.ink) (by omega) (by omega)).mono fun e u1 ⟨he, hu1⟩ => ⟨_, he, by rw [bstr_size]; omega, by simp only [ByteArray.size_append, bstr_size]; omega, by simp only [ByteArray.size_append, bstr_size]; omega, wr (hd.ext hu1) ?_⟩
      simp [inkBytes, ByteArray.data_append, bstr_list, hb, hi]
    · simp [inkBytes, ByteArray.data_append, hb, hi]
    · refine (itoa_ok (i := 29 + k.ink) (by omega) (by omega)).mono fun e u1 ⟨he, hu1⟩ => ⟨_, he, by rw [bstr_size]; omega, by simp only [ByteArray.size_append, bstr_size]; omega, by simp only [ByteArray.size_append, bstr_size]; omega, wr (hd.ext hu1) ?_⟩
      simp [inkBytes, ByteArray.data_append, bstr_list, hb, hi]
    · simp [inkBytes, ByteArray.data_append, hb, hi]

end Go.Proofs.YtkmmphkjmamckabDoor
