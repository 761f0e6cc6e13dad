/-
  The terminals of those who look: their memory; what comes of bytes at one of them.
-/
import Derived.Test.YtkmmphkjmamckabDoorTopWalk
import Derived.Test.YtkmmphkjmamckabDoorZP
namespace Go.Proofs.YtkmmphkjmamckabDoor
open Go
set_option linter.all false

theorem PrAt.upd {S : Nat → Prop} {u u' : World} {ok : Nat → Prop} {r : Pr} {x : List Value} (h : PrAt u ok r x) (hu : Upd S u u') (hk : ∀ k, ok k → ¬ S k) : PrAt u' ok r x := by
  obtain ⟨p, n, c, k2, k3, k4⟩ := h
  exact ⟨p, n, c, k2, k3.upd0 hu fun h0 k hk1 => hk k (k4 h0 k hk1), k4⟩

theorem GrAt.upd {S : Nat → Prop} {u u' : World} {ok : Nat → Prop} {g : Gr} {x : List Value} (h : GrAt u ok g x) (hu : Upd S u u') (hk : ∀ k, ok k → ¬ S k) : GrAt u' ok g x := by
  obtain ⟨⟨p, c, k2, k3, k4, k5⟩, k6⟩ := h
  exact ⟨⟨p, c, k2, k3.upd0 hu fun h0 k hk1 => hk k (k4 h0 k hk1), k4, k5⟩, k6⟩

theorem PrAt.mono {u : World} {ok ok' : Nat → Prop} {r : Pr} {x : List Value} (h : PrAt u ok r x) (hk : ∀ k, ok k → k < u.heap.size → ok' k) : PrAt u ok' r x := by
  obtain ⟨p, n, c, k2, k3, k4⟩ := h
  exact ⟨p, n, c, k2, k3, fun h0 k hk1 => hk k (k4 h0 k hk1) (k3.lt0 h0 hk1)⟩

theorem GrAt.mono {u : World} {ok ok' : Nat → Prop} {g : Gr} {x : List Value} (h : GrAt u ok g x) (hk : ∀ k, ok k → k < u.heap.size → ok' k) : GrAt u ok' g x := by
  obtain ⟨⟨p, c, k2, k3, k4, k5⟩, k6⟩ := h
  exact ⟨⟨p, c, k2, k3, fun h0 k hk1 => hk k (k4 h0 k hk1) (k3.lt h0 hk1), k5⟩, k6⟩

theorem PrAt.zero (u : World) (ok : Nat → Prop) : PrAt u ok .zero [.int .i64 0, .slice none 0 0, .string (ByteArray.mk #[]), .bool false] := ⟨⟨none, 0, 0, rfl, ⟨rfl, rfl⟩, fun h => (by cases h)⟩⟩
theorem GrAt.zero (u : World) (ok : Nat → Prop) : GrAt u ok .zero (grV .zero none 0 0) := ⟨⟨none, 0, rfl, Cells.nil _, fun h => (by cases h), Nat.le_refl _⟩, by decide⟩

/-- A terminal, among a block's cells. -/
structure TmAt (u : World) (ok : Nat → Prop) (t : Tm) (cs : List Value) (o : Nat) : Prop where
  p : ∃ y, takeN cs o 4 = some y ∧ PrAt u ok t.p y
  g : ∃ z, takeN cs (o + 4) 9 = some z ∧ GrAt u ok t.g z

theorem TmAt.upd {S : Nat → Prop} {u u' : World} {ok : Nat → Prop} {t : Tm} {cs : List Value} {o : Nat} (h : TmAt u ok t cs o) (hu : Upd S u u') (hk : ∀ k, ok k → ¬ S k) : TmAt u' ok t cs o :=
  ⟨h.p.imp fun _ k => ⟨k.1, k.2.upd hu hk⟩, h.g.imp fun _ k => ⟨k.1, k.2.upd hu hk⟩⟩

theorem TmAt.mono {u : World} {ok ok' : Nat → Prop} {t : Tm} {cs : List Value} {o : Nat} (h : TmAt u ok t cs o) (hk : ∀ k, ok k → k < u.heap.size → ok' k) : TmAt u ok' t cs o :=
  ⟨h.p.imp fun _ k => ⟨k.1, k.2.mono hk⟩, h.g.imp fun _ k => ⟨k.1, k.2.mono hk⟩⟩

theorem TmAt.cells {u : World} {ok : Nat → Prop} {t : Tm} {cs cs' : List Value} {o : Nat} (h : TmAt u ok t cs o) (hc : ∀ {a n : Nat} {x : List Value}, o ≤ a → a + n ≤ o + 13 → takeN cs a n = some x → takeN cs' a n = some x) : TmAt u ok t cs' o :=
  ⟨h.p.imp fun _ k => ⟨hc (by omega) (by omega) k.1, k.2⟩, h.g.imp fun _ k => ⟨hc (by omega) (by omega) k.1, k.2⟩⟩

/-- A terminal's own cells. -/
theorem TmAt.chunk {u : World} {ok : Nat → Prop} {t : Tm} {cs : List Value} {o : Nat} (h : TmAt u ok t cs o) (hl : o + 13 ≤ cs.length) : ∃ z, takeN cs o 13 = some z ∧ z.length = 13 ∧ TmAt u ok t z 0 := by
  have hz : ((cs.drop o).take 13).length = 13 := by rw [List.length_take, List.length_drop]; omega
  have key : ∀ {a n : Nat} {x : List Value}, o ≤ a → a + n ≤ o + 13 → takeN cs a n = some x → takeN ((cs.drop o).take 13) (a - o) n = some x := fun h1 h2 hx => by
    obtain ⟨k1, k2⟩ := takeN_get _ _ _ _ hx
    refine takeN_mk _ _ _ _ k1 fun j hj => ?_
    rw [List.getElem?_take_of_lt (by omega), List.getElem?_drop, ← k2 j hj]
    congr 1
    omega
  refine ⟨(cs.drop o).take 13, takeN_mk _ _ _ _ hz fun j hj => by rw [List.getElem?_take_of_lt hj, List.getElem?_drop], hz, ?_, ?_⟩
  · obtain ⟨y, y1, y2⟩ := h.p
    exact ⟨y, by have := key (by omega) (by omega) y1; rwa [Nat.sub_self] at this, y2⟩
  · obtain ⟨y, y1, y2⟩ := h.g
    exact ⟨y, by have := key (by omega) (by omega) y1; rwa [show o + 4 - o = 0 + 4 by omega] at this, y2⟩

/-- A parser and a screen are stored, side by side. -/
theorem tm_put {w : World} {tb o : Nat} {cs : List Value} {ok : Nat → Prop} (hb : Blk w tb cs) (ho : o + 13 ≤ cs.length) (hok : ¬ ok tb) {t : Tm} {y z : List Value} (hy : PrAt w ok t.p y) (hz : GrAt w ok t.g z) :
    y.length = 4 ∧ z.length = 9 ∧ Wr w tb o 13 ∧ Wr w tb o 4 ∧ Wr (putCells w tb o y) tb (o + 4) 9 ∧ (∃ cs', Blk (putCells w tb o (y ++ z)) tb cs' ∧ cs'.length = cs.length ∧ TmAt (putCells w tb o (y ++ z)) ok t cs' o ∧ ∀ {a n : Nat} {x : List Value}, a + n ≤ o ∨ o + 13 ≤ a → takeN cs a n = some x → takeN cs' a n = some x) ∧
    ∃ cs', Blk (putCells (putCells w tb o y) tb (o + 4) z) tb cs' ∧ cs'.length = cs.length ∧ TmAt (putCells (putCells w tb o y) tb (o + 4) z) ok t cs' o ∧ ∀ {a n : Nat} {x : List Value}, a + n ≤ o ∨ o + 13 ≤ a → takeN cs a n = some x → takeN cs' a n = some x := by
  have y4 : y.length = 4 := by obtain ⟨p, n, c, rfl, _⟩ := hy.ex; rfl
  have z9 : z.length = 9 := by obtain ⟨p, c, rfl, _⟩ := hz.ex; rfl
  have hne : ∀ k, ok k → ¬ k = tb := fun k hk e => hok (e ▸ hk)
  obtain ⟨c1, P1⟩ := put_to (cs := cs) (o := o) (ys := y) (by omega)
  have b1 := hb.putAt P1.put
  obtain ⟨c2, P2⟩ := put_to (cs := c1) (o := o + 4) (ys := z) (by rw [P1.len]; omega)
  have b2 := b1.putAt P2.put
  obtain ⟨c3, P3⟩ := put_to (cs := cs) (o := o) (ys := y ++ z) (by rw [List.length_append]; omega)
  have b3 := hb.putAt P3.put
  have w3 := hb.wrAt P3.put
  rw [List.length_append, y4, z9] at w3
  have w1 := hb.wrAt P1.put
  rw [y4] at w1
  have w2 := b1.wrAt P2.put
  rw [z9] at w2
  have u1 := upd_put (u := w) tb o y
  have u2 := upd_put (u := putCells w tb o y) tb (o + 4) z
  have u3 := upd_put (u := w) tb o (y ++ z)
  obtain ⟨g1, _, g3⟩ := putN_get _ _ _ _ P1.put
  obtain ⟨h1, _, h3⟩ := putN_get _ _ _ _ P2.put
  obtain ⟨i1, _, i3⟩ := putN_get _ _ _ _ P3.put
  refine ⟨y4, z9, w3, w1, w2, ⟨c3, b3, P3.len, ⟨⟨y, takeN_mk _ _ _ _ y4 fun j hj => ?_, hy.upd u3 hne⟩, z, takeN_mk _ _ _ _ z9 fun j hj => ?_, hz.upd u3 hne⟩, fun hd hx => P3.off (by rw [List.length_append]; omega) hx⟩, c2, b2, by rw [P2.len, P1.len], ⟨⟨y, ?_, (hy.upd u1 hne).upd u2 hne⟩, z, takeN_mk _ _ _ _ z9 fun j hj => ?_, (hz.upd u1 hne).upd u2 hne⟩, fun hd hx => P2.off (by omega) (P1.off (by omega) hx)⟩
  · rw [i3, if_pos (by rw [List.length_append]; omega), show o + j - o = j by omega, List.getElem?_append_left (by omega)]
  · rw [i3, if_pos (by rw [List.length_append]; omega), show o + 4 + j - o = 4 + j by omega, List.getElem?_append_right (by omega), y4, show 4 + j - 4 = j by omega]
  · refine P2.off (by omega) (takeN_mk _ _ _ _ y4 fun j hj => ?_)
    rw [g3, if_pos (by omega), show o + j - o = j by omega]
  · rw [h3, if_pos (by omega), show o + 4 + j - (o + 4) = j by omega]

/-- Bytes have come to a terminal. -/
structure GetTo (u : World) (tb o : Nat) (ok : Nat → Prop) (t : Tm) (cs : List Value) (e : Ending) (u' : World) : Prop where
  e : e = .returned (.bool true)
  mem : ∃ cs', Blk u' tb cs' ∧ cs'.length = cs.length ∧ TmAt u' ok t cs' o ∧ ∀ {a n : Nat} {x : List Value}, a + n ≤ o ∨ o + 13 ≤ a → takeN cs a n = some x → takeN cs' a n = some x
  upd : Upd (· = tb) u u'

set_option maxHeartbeats 1000000 in
theorem get_ok {u : World} {tb o : Nat} {ok : Nat → Prop} {t : Tm} {cs : List Value} (hb : Blk u tb cs) (ho : o + 13 ≤ cs.length) (h : TmAt u ok t cs o) (hok : ¬ ok tb) (hnew : ∀ k, u.heap.size ≤ k → ok k) (hp : GoodP t.p) (hg : GoodG t.g) {l : Bs} {s : ByteArray} (hs : s.data.toList = l) (hl : l.length ≤ 1048576) :
    Spec Tryd.prog fn_fenestratop_terminal_get #[.pointer (some ⟨tb, o, none⟩), .string s] u (GetTo u tb o ok (getT t l) cs) := by
  apply vc_fenestratop_terminal_get_spec
  unfold vc_fenestratop_terminal_get
  simp only [decide_eq_true_eq, decide_eq_false_iff_not, true_and, Bool.not_eq_true', Bool.not_eq_false']
  have hsz : s.size = l.length := by rw [← hs]; rfl
  obtain ⟨⟨y, y1, yp, yn, yc, rfl, yN, yk⟩, z, z1, Z⟩ := h
  obtain ⟨⟨gp, gc, rfl, gC, gk, gcap⟩, gfew⟩ := Z
  refine ⟨_, _, _, _, _, _, rfl, by rw [Nat.add_zero]; exact hb.rdAt y1, ?_⟩
  refine (feed_far t.p yp yn yc s yN (by omega)).mono fun e u1 hf => ?_
  rcases hf with ⟨_, q, n, c, lp, ln, lc, he, hq, hev, ⟨hqk, hlk⟩, hu1⟩ | ⟨hbad, _⟩
  case inr => exact (hbad hp).elim
  rw [hs] at he hq hev
  have hln := hev.len
  subst hln
  have ha : Ext u1 (allocW u1 hole) := (Upd.refl _).alloc _
  have xu := hu1.ext ha
  have gg := hg
  have hfl := feed_len l t.p
  refine ⟨_, _, _, _, _, _, _, _, _, _, he, _, _, _, _, _, _, _, _, _, _, _, rfl, xu.rd (hb.rdAt z1) fun h => h, ?_⟩
  refine (gall_far (g := t.g) (gC.ext xu) gc (by omega) (hev.ext ha) lc (by omega) (fun e he => ⟨by have := feed_few _ _ hp e he; omega, by have := feed_pay _ _ hp e he; omega⟩)).mono fun e u2 ⟨⟨p3, c3, he, hC3, hfar3, hcap3⟩, hu2⟩ => ?_
  have hd : Ext u2 (drewW (allocW u2 hole)) := ((Upd.refl _).alloc _).drew
  have xw := (xu.ext hu2).ext hd
  have hres := all_feed hg t.p l
  have h1s := hu1.size
  have h2s := xu.size
  have Y : PrAt (drewW (allocW u2 hole)) ok (feedP t.p l).1 [.int .i64 (feedP t.p l).1.at_, .slice q n c, .string (feedP t.p l).1.pl, .bool (feedP t.p l).1.long] := ⟨⟨q, n, c, rfl, ((hq.ext ha).ext hu2).ext hd, fun _ k hk => hnew k (hqk k hk)⟩⟩
  have Z : GrAt (drewW (allocW u2 hole)) ok (allG t.g (feedP t.p l).2).1 (grV (allG t.g (feedP t.p l).2).1 p3 (allG t.g (feedP t.p l).2).1.cells.length c3) := ⟨⟨p3, c3, rfl, hC3.ext hd, fun _ k hk => (hfar3 k hk).elim (gk gg.pos k) fun h8 => hnew k (by omega), hcap3 gcap⟩, by have := few_cells hres.2.1; omega⟩
  obtain ⟨_, _, _, w1, w2, _, m⟩ := tm_put (t := getT t l) (hb.ext xw) ho hok Y Z
  refine ⟨_, _, _, _, _, _, _, _, _, _, _, _, he, rfl, w1, rfl, w2, ?_⟩
  refine ⟨fun _ => ⟨by rw [decide_eq_true hres.1], m, ((xw.any (S := (· = tb))).put (fun _ => rfl) _ _).put (fun _ => rfl) _ _⟩, fun hn => (hn rfl).elim⟩

/-- The terminals of all who look. -/
structure TmM (u : World) (tb : Nat) (B : Nat → Prop) (t : List Tm) : Prop where
  ex : ∃ cs, Blk u tb cs ∧ cs.length = 39 ∧ ∀ c, c < 3 → TmAt u (fun k => ¬ B k) (tmOf t c) cs (c * 13)
  own : B tb
  old : ∀ k, B k → k < u.heap.size

theorem TmM.upd {S : Nat → Prop} {u u' : World} {tb : Nat} {B : Nat → Prop} {t : List Tm} (h : TmM u tb B t) (hu : Upd S u u') (hS : ∀ k, k < u.heap.size → S k → B k ∧ k ≠ tb) : TmM u' tb B t := by
  obtain ⟨⟨cs, h1, h2, h5⟩, h3, h4⟩ := h
  have hu' : Upd (fun k => B k ∧ k ≠ tb) u u' := hu.mono hS
  exact ⟨⟨cs, h1.upd hu' fun h => h.2 rfl, h2, fun c hc => (h5 c hc).upd hu' fun k hk h => hk h.1⟩, h3, fun k hk => by have := h4 k hk; have := hu.size; omega⟩

theorem TmM.ext {u u' : World} {tb : Nat} {B : Nat → Prop} {t : List Tm} (h : TmM u tb B t) (hu : Ext u u') : TmM u' tb B t := h.upd hu fun _ _ h => h.elim

theorem TmM.over {S : Nat → Prop} {u u1 u' : World} {tb : Nat} {B : Nat → Prop} {t : List Tm} (h : TmM u tb B t) (hu : Ext u u1) (hw : Upd S u1 u') (hS : ∀ k, S k → u.heap.size ≤ k) : TmM u' tb B t := by
  have hs := hu.size
  have hs' := hw.size
  have hlt := h.old tb h.own
  obtain ⟨⟨cs, h1, h2, h5⟩, h3, h4⟩ := h
  refine ⟨⟨cs, (h1.ext hu).upd hw fun h => by have := hS _ h; omega, h2, fun c hc => ?_⟩, h3, fun k hk => by have := h4 k hk; omega⟩
  have : TmAt u (fun k => ¬ B k ∧ k < u.heap.size) (tmOf t c) cs (c * 13) := (h5 c hc).mono fun k hk hl => ⟨hk, hl⟩
  have := (this.upd hu fun _ _ h => h).upd hw fun k hk h => by have := hS k h; omega
  exact this.mono fun k hk _ => hk.1

theorem TmM.new {u : World} {tb : Nat} {B : Nat → Prop} {t : List Tm} (h : TmM u tb B t) {k : Nat} (hk : u.heap.size ≤ k) : ¬ B k := fun hb => by have := h.old k hb; omega

/-- One terminal is another one. -/
theorem TmM.set {u : World} {tb : Nat} {B : Nat → Prop} {t : List Tm} (h : TmM u tb B t) (hl : t.length = 3) {c : Nat} (hc : c < 3) {x : Tm} {y z : List Value} (hy : PrAt u (fun k => ¬ B k) x.p y) (hz : GrAt u (fun k => ¬ B k) x.g z) {o : Nat} (ho : o = c * 13) :
    Wr u tb o 13 ∧ TmM (putCells u tb o (y ++ z)) tb B (t.set c x) := by
  obtain ⟨⟨cs, h1, h2, h5⟩, h3, h4⟩ := h
  subst ho
  obtain ⟨_, _, w, _, _, ⟨cs', b', l', m', off⟩, _⟩ := tm_put (t := x) (o := c * 13) h1 (by omega) (fun hk => hk h3) hy hz
  refine ⟨w, ⟨cs', b', by rw [l', h2], fun d hd => ?_⟩, h3, fun k hk => by have := h4 k hk; have := (upd_put (u := u) tb (c * 13) (y ++ z)).size; omega⟩
  rw [tm_set (by omega)]
  split
  · next e => subst e; exact m'
  · next e => exact ((h5 d hd).upd (upd_put (u := u) tb (c * 13) (y ++ z)) fun k hk e => hk (e ▸ h3)).cells fun ha1 ha2 hx => off (by omega) hx

/-- Bytes have come to one of them. -/
structure GetM (u : World) (tb : Nat) (B : Nat → Prop) (t : List Tm) (e : Ending) (u' : World) : Prop where
  e : e = .returned (.bool true)
  mem : TmM u' tb B t
  upd : Upd (· = tb) u u'

theorem TmM.get {u : World} {tb : Nat} {B : Nat → Prop} {t : List Tm} (h : TmM u tb B t) (hlen : t.length = 3) {c : Nat} (hc : c < 3) {o : Nat} (ho : o = c * 13) (hp : GoodP (tmOf t c).p) (hg : GoodG (tmOf t c).g) {l : Bs} {s : ByteArray} (hs : s.data.toList = l) (hl : l.length ≤ 1048576) :
    Spec Tryd.prog fn_fenestratop_terminal_get #[.pointer (some ⟨tb, o, none⟩), .string s] u (GetM u tb B (t.set c (getT (tmOf t c) l))) := by
  subst ho
  have hn := fun k (hk : u.heap.size ≤ k) => h.new hk
  obtain ⟨⟨cs, h1, h2, h5⟩, h3, h4⟩ := h
  refine (get_ok h1 (by omega) (h5 c hc) (fun hk => hk h3) hn hp hg hs hl).mono fun e u' ⟨he, ⟨cs', b', l', m', off⟩, hu⟩ => ⟨he, ⟨⟨cs', b', by rw [l', h2], fun d hd => ?_⟩, h3, fun k hk => by have := h4 k hk; have := hu.size; omega⟩, hu⟩
  rw [tm_set (by omega)]
  split
  · next e => subst e; exact m'
  · next e => exact ((h5 d hd).upd hu fun k hk e => hk (e ▸ h3)).cells fun ha1 ha2 hx => off (by omega) hx

end Go.Proofs.YtkmmphkjmamckabDoor
