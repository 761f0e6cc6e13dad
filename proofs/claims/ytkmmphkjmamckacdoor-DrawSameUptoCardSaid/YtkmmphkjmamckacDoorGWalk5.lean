/-
  The screen's functions, on: a picture, an event.
-/
import Derived.Test.YtkmmphkjmamckacDoorGWalk4
namespace Go.Proofs.YtkmmphkjmamckacDoor
open Go
set_option linter.all false

theorem drop_at {l : List UInt8} {i : Nat} {b : UInt8} (h : l[i]? = some b) : l.drop i = b :: l.drop (i + 1) := by
  obtain ⟨hi, rfl⟩ := List.getElem?_eq_some_iff.1 h
  exact List.drop_eq_getElem_cons hi

theorem bytes_size (s : ByteArray) : s.data.toList.length = s.size := by rw [Array.length_toList]; rfl

theorem picC_cons (w h left : Int) (b : UInt8) (bs : List UInt8) (r c : Int) (l : List Cl) : picC w h left (b :: bs) r c l =
    if b.toNat = 45 then picC w h left bs (r + 1) left l
    else if 97 ≤ b.toNat ∧ b.toNat < 105 ∧ r < h ∧ c < w then picC w h left bs r (c + 1) (l.set (r * w + c).toNat ⟨0, 0, (b.toNat : Int) - 96, false⟩)
    else picC w h left bs r (c + 1) l := rfl

/-- So far a picture is drawn. -/
structure PicI (u : World) (gb : Nat) (g : Gr) (b c : Nat) (s : List UInt8) (r cl x : Int) (l : List Cl) (u1 : World) : Prop where
  scr : GB u1 gb { g with cells := l } b c
  good : GoodG { g with cells := l }
  upd : Upd (UB gb b) u u1
  x0 : 0 ≤ x
  x1 : x ≤ s.length
  r0 : 0 ≤ r
  r1 : r ≤ 10 + x
  c0 : 0 ≤ cl
  c1 : cl ≤ 24 + x
  eq : picC g.wide g.high (min g.col (g.wide - 1)) s g.row (min g.col (g.wide - 1)) g.cells = picC g.wide g.high (min g.col (g.wide - 1)) (s.drop x.toNat) r cl l

theorem gpicture_ok {u : World} {gb : Nat} {g : Gr} {b c : Nat} (h : GB u gb g b c) (hg : GoodG g) (s : ByteArray) (hs : s.size ≤ 100000000) :
    Spec Tryd.prog fn_grid_picture #[.pointer (some ⟨gb, 0, none⟩), .string s] u (GDone u gb b c (pictureG g s.data.toList)) := by
  apply vc_grid_picture_spec
  unfold vc_grid_picture
  simp only [decide_eq_true_eq, decide_eq_false_iff_not]
  have hu : Ext u (drewW u) := (Upd.refl u).drew
  have hw1 := hg.w1
  have hw2 := hg.w2
  have hh2 := hg.h2
  have hr1 := hg.r1
  have hr2 := hg.r2
  have hc1 := hg.c1
  have hlen := bytes_size s
  refine ⟨_, rfl, h.rdRow hu, _, rfl, h.rdCol hu, _, rfl, h.rdWide hu, by simp only [inK]; omega, fun r cl x u1 => ∃ l, PicI u gb g b c s.data.toList r cl x l u1, fun _ _ x _ => (s.size - x).toNat, ⟨g.cells, h.ext hu, hg, hu.any, Int.le_refl _, by omega, hr1, by omega, by omega, by omega, by simp⟩, fun r cl x u1 ⟨l, I⟩ => ⟨fun hx => ?_, fun hx => ?_⟩⟩
  · obtain ⟨i1, i2, i3, i4, i5, i6, i7, i8, i9, i10⟩ := I
    have hb : s.data.toList[x.toNat]? = some (s.data.toList[x.toNat]'(by omega)) := List.getElem?_eq_getElem _
    generalize s.data.toList[x.toNat]'(by omega) = ch at hb
    have hch : ch.toNat < 256 := ch.toNat_lt
    have hx1 : (x + 1).toNat = x.toNat + 1 := by omega
    rw [drop_at hb] at i10
    rw [picC_cons] at i10
    -- nothing comes of the byte but a place on
    have skip : ¬ ch.toNat = 45 → ¬ (97 ≤ ch.toNat ∧ ch.toNat < 105 ∧ r < g.high ∧ cl < g.wide) → inK .i64 (cl + 1) ∧ inK .i64 (x + 1) ∧ (∃ l, PicI u gb g b c s.data.toList r (cl + 1) (x + 1) l u1) ∧ (s.size - (x + 1)).toNat < (s.size - x).toNat := fun h1 h2 => by
      rw [if_neg h1, if_neg h2, ← hx1] at i10
      exact ⟨by simp only [inK]; omega, by simp only [inK]; omega, ⟨l, i1, i2, i3, by omega, by omega, i6, by omega, by omega, by omega, i10⟩, by omega⟩
    refine ⟨i4, ch, hb, by simp only [inK]; omega, fun h45 => ?_, fun h45 => ⟨fun h97 => ⟨fun h105 => ⟨_, rfl, i1.rdHigh (Upd.refl _), fun hrh => ⟨_, rfl, i1.rdWide (Upd.refl _), fun hcw => ?_, fun hcw => ?_⟩, fun hrh => ?_⟩, fun h105 => ?_⟩, fun h97 => ?_⟩⟩
    · rw [if_pos (by omega), ← hx1] at i10
      exact ⟨by simp only [inK]; omega, by simp only [inK]; omega, ⟨l, i1, i2, i3, by omega, by omega, by omega, by omega, by omega, by omega, i10⟩, by dsimp only; omega⟩
    · refine (row_ok i1 i2 i6 hrh).mono fun e u2 ⟨c', he, hu2⟩ => ⟨_, _, _, he, by simp only [inK]; omega, by simp only [inK]; omega, b, _, rfl, i8, ?_, rfl, ?_, by simp only [inK]; omega, by simp only [inK]; omega, ?_, by dsimp only; omega⟩
      · show cl < ((g.wide.toNat : Nat) : Int)
        have : cl < g.wide := hcw
        omega
      all_goals
        have hcw' : cl < g.wide := hcw
        have q0 := row_facts i2 i6 (by show r ≤ g.high; have : r < g.high := hrh; omega)
        have q1 := row_facts i2 (r := r + 1) (by omega) (by show r + 1 ≤ g.high; have : r < g.high := hrh; omega)
        rw [succ_mul'] at q1
        dsimp only at q0 q1
      · exact (i1.ext hu2).own.wr (by show 0 + (r * g.wide).toNat * 4 + cl.toNat * 4 + 4 ≤ l.length * 4; omega)
      · have Y := (i1.ext hu2).cell ⟨0, 0, ((ch.toNat : Nat) : Int) - 97 + 1, false⟩ (i := (r * g.wide + cl).toNat) (o := 0 + (r * g.wide).toNat * 4 + cl.toNat * 4) (by show (r * g.wide + cl).toNat < l.length; omega) (by omega)
        rw [if_neg (by omega), if_pos ⟨by omega, by omega, hrh, hcw⟩, ← hx1, show ((ch.toNat : Nat) : Int) - 96 = (ch.toNat : Nat) - 97 + 1 by omega] at i10
        refine ⟨_, Y, ?_, UB.putC (i3.ext hu2) _ _, by omega, by omega, i6, by omega, by omega, by omega, i10⟩
        refine hg.cellsWith ?_ (AllG.set i2.all ?_ _)
        · rw [List.length_set]
          have a : (l.length : Int) = g.wide * g.high := i2.len
          have b := hg.len
          show l.length = g.cells.length
          omega
        · rw [goodC_iff]
          dsimp only
          refine ⟨by omega, .inr ⟨by omega, rfl, rfl, rfl⟩⟩
    · exact skip (by omega) (fun h => hcw h.2.2.2)
    · exact skip (by omega) (fun h => hrh h.2.2.1)
    · exact skip (by omega) (by omega)
    · exact skip (by omega) (by omega)
  · obtain ⟨i1, i2, i3, i4, i5, i6, i7, i8, i9, i10⟩ := I
    rw [List.drop_eq_nil_of_le (by omega)] at i10
    refine ⟨rfl, ?_, i3⟩
    unfold pictureG
    rw [i10]
    exact i1

/-- A screen and a number have come. -/
structure GPost (u : World) (p : Option Addr) (c : Nat) (r : Gr × Int) (e : Ending) (u' : World) : Prop where
  ex : ∃ p' c', e = .returned (.tuple #[GrV r.1 p' r.1.cells.length c', .int .i64 r.2]) ∧ Cells u' p' r.1.cells ∧ (∀ k, At p' k → At p k ∨ u.heap.size ≤ k) ∧ (r.2 ≠ 0 → p' = p ∧ c' = c)
  ext : Ext u u'

theorem GPost.same {u u' : World} {g : Gr} {p : Option Addr} {c : Nat} {n : Int} (h : Cells u p g.cells) (hu : Ext u u') : GPost u p c (g, n) (.returned (.tuple #[GrV g p g.cells.length c, .int .i64 n])) u' :=
  ⟨⟨p, c, rfl, h.ext hu, fun _ h => .inl h, fun _ => ⟨rfl, rfl⟩⟩, hu⟩

theorem GPost.own {u u' : World} {g : Gr} {p : Option Addr} {c gb b c' : Nat} {v : World} (hv : Ext u v) (h : GB u' gb g b c') (hu : Upd (UB gb b) v u') (h1 : u.heap.size ≤ gb) (h2 : u.heap.size ≤ b) : GPost u p c (g, 0) (.returned (.tuple #[GrV g (some ⟨b, 0, none⟩) g.cells.length c', .int .i64 0])) u' :=
  ⟨⟨_, c', rfl, h.own.cells, fun k hk => .inr (by obtain ⟨a, ha, rfl⟩ := hk; cases ha; exact h2), fun h => (h rfl).elim⟩, hv.trans hu fun k hk h => by rcases h with rfl | rfl <;> omega⟩

theorem gdo_ok {u : World} {g : Gr} {p : Option Addr} (h : Cells u p g.cells) (c : Nat) (hl : g.cells.length ≤ 100000000) (e : Ev) {ep : Option Addr} {en ec : Nat} (he : Nums u ep en e.ps) (hen : en ≤ 100000000) (hpl : e.pl.size ≤ 100000000) :
    Spec Tryd.prog fn_grid_Do #[GrV g p g.cells.length c, EvV e ep en ec] u (GPost u p c (doG g e)) := by
  apply vc_grid_Do_spec
  unfold vc_grid_Do
  simp only [decide_eq_true_eq, decide_eq_false_iff_not, Bool.not_eq_true', Bool.not_eq_false']
  have hu : Ext u (allocW (allocW (allocW u hole) hole) hole) := (((Upd.refl u).alloc _).alloc _).alloc _
  refine (ggood_ok (h.ext hu) c (by omega)).mono fun r u1 ⟨hr, hu1⟩ => ⟨_, hr, fun hb => ?_, fun hb => ?_⟩
  · have hd : doG g e = (g, 1) := by unfold doG; rw [if_pos hb]
    rw [hd]
    exact GPost.same h (hu.ext hu1)
  have hg := goodG_iff.1 hb
  have x1 := hu.ext hu1
  have hdo := fun e => do_good_eq' hg e
  have hla : Ext u1 (allocW u1 (.cells ([.int .i64 0, .int .i64 0, .slice none 0 0, .int .i64 0, .int .i64 0, .int .i64 0, .bool false, .int .i64 0, .int .i64 0] : List Value).toArray ty_api_Grid)) := (Upd.refl u1).alloc _
  have B0 := Blk.fresh u1 [.int .i64 0, .int .i64 0, .slice none 0 0, .int .i64 0, .int .i64 0, .int .i64 0, .bool false, .int .i64 0, .int .i64 0] ty_api_Grid
  have B1 := B0.putAt (o := 0) (ys := grV g p g.cells.length c) (r := grV g p g.cells.length c) rfl
  have hlp : Ext u1 (putCells (allocW u1 (.cells ([.int .i64 0, .int .i64 0, .slice none 0 0, .int .i64 0, .int .i64 0, .int .i64 0, .bool false, .int .i64 0, .int .i64 0] : List Value).toArray ty_api_Grid)) u1.heap.size 0 (grV g p g.cells.length c)) := hla.put (fun h => by omega) _ _
  refine ⟨rfl, B0.wr (by simp), ?_⟩
  have hpos : 0 < g.cells.length := by
    have a := hg.len
    have b := Int.mul_pos (show (0 : Int) < g.wide by have := hg.w1; omega) (show (0 : Int) < g.high by have := hg.h1; omega)
    omega
  refine (gclone_ok (h.ext (x1.ext hlp)) c hl hpos).mono fun r u2 ⟨b, c', hr, ho, hu2, hbn⟩ => ⟨_, _, _, hr, rfl, ?_⟩
  have B2 := B1.ext hu2
  have hsz : u1.heap.size < b := by
    rw [put_size, size_alloc] at hbn
    omega
  have S : GB (putCells u2 u1.heap.size (0 + 2) [.slice (some ⟨b, 0, none⟩) g.cells.length c']) u1.heap.size g b c' := ⟨B2.putAt rfl, ho.upd (upd_put _ _ _) (by omega), by omega⟩
  have hv : Ext u (putCells u2 u1.heap.size (0 + 2) [.slice (some ⟨b, 0, none⟩) g.cells.length c']) := ((x1.ext hlp).ext hu2).put (fun h => by have := x1.size; omega) _ _
  have hs1 := x1.size
  have hev := he.ext hv
  have hav : en ≠ 0 → ∀ k, At ep k → ¬ UB u1.heap.size b k := fun h0 k hk hb => by
    have hlt : k < u.heap.size := by
      obtain ⟨a, ha, rfl⟩ := hk
      obtain ⟨b', o', hp', hr'⟩ := he.at (i := 0) (by omega)
      rw [ha] at hp'
      cases hp'
      exact rd_lt hr'
    rcases hb with rfl | rfl <;> omega
  refine ⟨B2.wr (by simp), ?_⟩
  generalize putCells u2 u1.heap.size (0 + 2) [.slice (some ⟨b, 0, none⟩) g.cells.length c'] = v at S hv hev
  rw [hdo]
  refine ⟨fun k1 => ?_, fun k1 => ?_⟩
  · rw [if_pos k1]
    refine ⟨fun hlt => ?_, fun hlt => ⟨fun hgt => ?_, fun hgt => ?_⟩⟩
    · rw [if_pos (.inl hlt)]; exact GPost.same h hv
    · rw [if_pos (.inr hgt)]; exact GPost.same h hv
    · rw [if_neg (by omega)]
      exact (gshow_ok S hg).mono fun r u3 ⟨hr, S3, hu3⟩ => ⟨hr, _, _, _, _, _, _, _, _, _, _, _, rfl, S3.rdAll (Upd.refl _), GPost.own hv S3 hu3 hs1 (by omega)⟩
  rw [if_neg k1]
  refine ⟨fun k2 => ?_, fun k2 => ?_⟩
  · rw [if_pos k2]
    exact (control_ok S hg).mono fun r u3 ⟨hr, S3, hu3⟩ => ⟨hr, _, _, _, _, _, _, _, _, _, _, _, rfl, S3.rdAll (Upd.refl _), GPost.own hv S3 hu3 hs1 (by omega)⟩
  rw [if_neg k2]
  refine ⟨fun k3 => ?_, fun k3 => ?_⟩
  · rw [if_pos k3]
    exact (gcommand_ok S hg hev hav hen).mono fun r u3 ⟨hr, S3, hu3⟩ => ⟨hr, _, _, _, _, _, _, _, _, _, _, _, rfl, S3.rdAll (Upd.refl _), GPost.own hv S3 hu3 hs1 (by omega)⟩
  rw [if_neg k3]
  refine ⟨fun k4 => ?_, fun k4 => ?_⟩
  · rw [if_pos k4]
    exact (gpicture_ok S hg e.pl hpl).mono fun r u3 ⟨hr, S3, hu3⟩ => ⟨hr, _, _, _, _, _, _, _, _, _, _, _, rfl, S3.rdAll (Upd.refl _), GPost.own hv S3 hu3 hs1 (by omega)⟩
  rw [if_neg k4]
  refine ⟨fun k5 => ?_, fun k5 => ?_⟩
  · rw [if_pos k5]
    refine (gnew_ok g.wide g.high).mono fun r u3 ⟨⟨nb, hr, hco, hnb⟩, hu3⟩ => ⟨_, _, _, _, _, _, _, _, _, _, _, hr, ⟨_, _, rfl, hco.cells, fun k hk => .inr ?_, fun h => (h rfl).elim⟩, hv.ext hu3⟩
    obtain ⟨a, ha, rfl⟩ := hk
    cases ha
    have := hv.size
    show u.heap.size ≤ nb
    omega
  · rw [if_neg k5]
    exact GPost.same h hv

end Go.Proofs.YtkmmphkjmamckacDoor
