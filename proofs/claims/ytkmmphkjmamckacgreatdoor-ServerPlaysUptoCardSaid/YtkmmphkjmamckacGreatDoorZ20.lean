/- Texts joined: RMem, TKill, SFit, TRef, PSameN, TSameR. -/
import Derived.Test.YtkmmphkjmamckacGreatDoorZ19
import Derived.Test.YtkmmphkjmamckacGreatDoorZ08
namespace Go.Proofs.YtkmmphkjmamckacGreatDoor
open Go
set_option linter.all false
structure HQ (u : World) (ok : Nat -> Prop) (g : Gr) (x : List Value) : Prop where
 ex : ∃ p c, x = grV g p g.cells.length c /\ Cells u p g.cells /\ (0 < g.cells.length -> ∀ k, At p k -> ok k)
 few : g.cells.length <= 1000
structure RvC (u : World) (ok : Nat -> Prop) (s : Sv) (cs : List Value) : Prop where
 len : cs.length = 86
 oY : ∃ p c, takeN cs 0 1 = some [.slice p s.v.aj.length c] /\ TlF u ok p s.v.aj
 qz : ∀ i, i < 6 -> ∃ x, takeN cs (1 + i * 9) 9 = some x /\ HQ u ok (aq s.v i) x
 wide : takeN cs 55 1 = some [.int .i64 s.v.wide]
 high : takeN cs 56 1 = some [.int .i64 s.v.high]
 focus : takeN cs 57 1 = some [.int .i64 s.v.focus]
 parser : ∀ i, i < 6 -> ∃ x, takeN cs (58 + i * 4) 4 = some x /\ Fo u ok (an s i) x
 ue : ∀ i, i < 3 -> takeN cs (82 + i) 1 = some [.bool (ag s i).here]
 ay : takeN cs 85 1 = some [.int .i64 s.ay]
structure RvM (u : World) (sb : Nat) (B : Nat -> Prop) (s : Sv) : Prop where
 ex : ∃ cs, Blk u sb cs /\ RvC u (fun k => ¬ B k) s cs
 own : B sb
 old : ∀ k, B k -> k < u.heap.size
theorem RvC.upd {S : Nat -> Prop} {u u' : World} {ok : Nat -> Prop} {s : Sv} {cs : List Value} (h : RvC u ok s cs) (hu : Upd S u u') (hk : ∀ k, ok k -> ¬ S k) : RvC u' ok s cs := by
 obtain ⟨h1, ⟨p, c, h2, h3⟩, h4, h5, h6, h7, h8, h9, h10⟩ := h
 refine ⟨h1, ⟨p, c, h2, h3.upd hu hk⟩, fun i hi => ?_, h5, h6, h7, fun i hi => ?_, h9, h10⟩
 ·obtain ⟨x, k1, ⟨p, c, k2, k3, k4⟩, k6⟩ := h4 i hi
  exact ⟨x, k1, ⟨p, c, k2, k3.EU hu fun h0 k hk1 => hk k (k4 h0 k hk1), k4⟩, k6⟩
 ·obtain ⟨x, k1, ⟨p, n, c, k2, k3, k4⟩⟩ := h8 i hi
  exact ⟨x, k1, ⟨p, n, c, k2, k3.EU hu fun h0 k hk1 => hk k (k4 h0 k hk1), k4⟩⟩
theorem RvC.mono {u : World} {ok ok' : Nat -> Prop} {s : Sv} {cs : List Value} (h : RvC u ok s cs) (hc : cF s.v.aj) (hk : ∀ k, ok k -> k < u.heap.size -> ok' k) : RvC u ok' s cs := by
 obtain ⟨h1, ⟨p, c, h2, ls, t1, t2, t3⟩, h4, h5, h6, h7, h8, h9, h10⟩ := h
 refine ⟨h1, ⟨p, c, h2, ls, t1, ?_, fun k hk1 => hk k (t3 k hk1) ?_⟩, fun i hi => ?_, h5, h6, h7, fun i hi => ?_, h9, h10⟩
 ·exact rz hk (fun l hl => (hc.each l hl).1) t2
 ·obtain ⟨b, o, rfl, hr⟩ := t1.at (i := 0) (List.length_pos_iff.2 hc.some) (by decide)
  have := ar hk1
  simp only at this
  subst this
  obtain ⟨q, c, hx, _⟩ := cH.at t2 (i := 0) (List.length_pos_iff.2 hc.some)
  rw [hx] at hr
  exact uL hr
 ·obtain ⟨x, k1, ⟨p, c, k2, k3, k4⟩, k6⟩ := h4 i hi
  exact ⟨x, k1, ⟨p, c, k2, k3, fun h0 k hk1 => hk k (k4 h0 k hk1) (k3.lt h0 hk1)⟩, k6⟩
 ·obtain ⟨x, k1, ⟨p, n, c, k2, k3, k4⟩⟩ := h8 i hi
  exact ⟨x, k1, ⟨p, n, c, k2, k3, fun h0 k hk1 => hk k (k4 h0 k hk1) (k3.lt0 h0 hk1)⟩⟩
theorem RvM.lt {u : World} {sb : Nat} {B : Nat -> Prop} {s : Sv} (h : RvM u sb B s) : sb < u.heap.size := h.old sb h.own
theorem RvM.new {u : World} {sb : Nat} {B : Nat -> Prop} {s : Sv} (h : RvM u sb B s) {k : Nat} (hk : u.heap.size <= k) : ¬ B k := fun hb => by have := h.old k hb; omega
theorem RvM.upd {S : Nat -> Prop} {u u' : World} {sb : Nat} {B : Nat -> Prop} {s : Sv} (h : RvM u sb B s) (hu : Upd S u u') (hS : ∀ k, k < u.heap.size -> S k -> B k /\ k ≠ sb) : RvM u' sb B s := by
 have hlt := h.lt
 obtain ⟨⟨cs, h1, h2⟩, h3, h4⟩ := h
 have hu' : Upd (fun k => B k /\ k ≠ sb) u u' := hu.mono hS
 exact ⟨⟨cs, h1.upd hu' fun h => h.2 rfl, h2.upd hu' fun k hk h => hk h.1⟩, h3, fun k hk => by have := h4 k hk; have := hu.size; omega⟩
theorem RvM.ext {u u' : World} {sb : Nat} {B : Nat -> Prop} {s : Sv} (h : RvM u sb B s) (hu : Ext u u') : RvM u' sb B s := h.upd hu fun _ _ h => h.elim
theorem RvM.more {u u' : World} {sb : Nat} {B B' : Nat -> Prop} {s : Sv} (h : RvM u sb B s) (hc : cF s.v.aj) (hu : Ext u u') (h1 : B' sb) (h2 : ∀ k, B' k -> (B k \/ u.heap.size <= k) /\ k < u'.heap.size) : RvM u' sb B' s := by
 obtain ⟨⟨cs, k1, k2⟩, k3, k4⟩ := h
 refine ⟨⟨cs, k1.ext hu, (k2.mono hc fun k hk hl hb => ?_).upd hu fun _ _ h => h⟩, h1, fun k hk => (h2 k hk).2⟩
 rcases (h2 k hb).1 with h | h
 ·exact hk h
 ·omega
theorem RvM.over {S : Nat -> Prop} {u u1 u' : World} {sb : Nat} {B : Nat -> Prop} {s : Sv} (h : RvM u sb B s) (hc : cF s.v.aj) (hu : Ext u u1) (hw : Upd S u1 u') (hS : ∀ k, S k -> u.heap.size <= k) : RvM u' sb B s := by
 have hlt := h.lt
 have hs := hu.size
 have hs' := hw.size
 obtain ⟨⟨cs, k1, k2⟩, k3, k4⟩ := h
 refine ⟨⟨cs, (k1.ext hu).upd hw fun h => by have := hS _ h; omega, ?_⟩, k3, fun k hk => by have := k4 k hk; omega⟩
 have : RvC u (fun k => ¬ B k /\ k < u.heap.size) s cs := k2.mono hc fun k hk hl => ⟨hk, hl⟩
 have := (this.upd hu fun _ _ h => h).upd hw fun k hk h => by have := hS k h; omega
 exact this.mono hc fun k hk _ => hk.1
theorem RvM.rd {u : World} {sb : Nat} {B : Nat -> Prop} {s : Sv} (h : RvM u sb B s) : ∃ cs, RvC u (fun k => ¬ B k) s cs /\ (∀ {o n x}, takeN cs o n = some x -> Rd u sb o x) := by
 obtain ⟨⟨cs, h1, h2⟩, _⟩ := h
 exact ⟨cs, h2, fun hx => h1.dL hx⟩
theorem RvM.lS {u : World} {sb : Nat} {B : Nat -> Prop} {s : Sv} (h : RvM u sb B s) (hl : s.v.aG.length = 6) {i : Nat} (hi : i < 6) {g : Gr} {x : List Value} (hx : HQ u (fun k => ¬ B k) g x) {o : Nat} (ho : o = 1 + i * 9) :
  Wr u sb o 9 /\ RvM (ae u sb o x) sb B { s with v := { s.v with aG := s.v.aG.set i g } } := by
 obtain ⟨⟨cs, hb, hc⟩, hB, hold⟩ := h
 obtain ⟨p, c, rfl, k3, k4⟩ := hx.ex
 have hxl : (grV g p g.cells.length c).length = 9 := rfl
 obtain ⟨cs', P⟩ := cZ (cs := cs) (o := o) (ys := grV g p g.cells.length c) (by rw [hc.len, hxl]; omega)
 have hup := aI (u := u) sb o (grV g p g.cells.length c)
 refine ⟨by have := hb.oF P.put; rwa [hxl] at this, ⟨cs', hb.putAt P.put, ?_⟩, hB, fun k hk => by have := hold k hk; have := hup.size; omega⟩
 refine RvC.upd (S := (· = sb)) (u := u) ?_ hup fun k hk e => hk (e ▸ hB)
 obtain ⟨h1, ⟨p', c', h2, h3⟩, h4, h5, h6, h7, h8, h9, h10⟩ := hc
 have off := fun {a n : Nat} {y : List Value} (hd : a + n <= o \/ o + 9 <= a) (hy : takeN cs a n = some y) => P.off (x := y) (by rw [hxl]; exact hd) hy
 refine ⟨by rw [P.len, h1], ⟨p', c', off (by omega) h2, h3⟩, fun j hj => ?_, off (by omega) h5, off (by omega) h6, off (by omega) h7, fun j hj => ?_, fun j hj => off (by omega) (h9 j hj), off (by omega) h10⟩
 ·by_cases e : j = i
  ·subst e
   obtain ⟨y, k1, _⟩ := h4 j hj
   have ylen := (cQ _ _ _ _ k1).1
   refine ⟨_, P.on k1 (by omega) (by rw [hxl]; omega) (by rw [show o - (1 + j * 9) = 0 by omega]; exact bP (by rw [ylen, hxl])), ?_⟩
   have : aq { s.v with aG := s.v.aG.set j g } j = g := by show (s.v.aG.set j g).getD j .zero = g; simp [List.getD_eq_getElem?_getD, hl, hj]
   rw [this]
   exact hx
  ·obtain ⟨y, k1, k2⟩ := h4 j hj
   refine ⟨y, off (by omega) k1, ?_⟩
   have : aq { s.v with aG := s.v.aG.set i g } j = aq s.v j := by show (s.v.aG.set i g).getD j .zero = _; simp [List.getD_eq_getElem?_getD, List.getElem?_set_ne (fun h => e h.symm)]
   rw [this]
   exact k2
 ·obtain ⟨y, k1, k2⟩ := h8 j hj
  exact ⟨y, off (by omega) k1, k2⟩
theorem RvM.z6 {u : World} {sb : Nat} {B : Nat -> Prop} {s : Sv} (h : RvM u sb B s) (n : Int) {o : Nat} (ho : o = 55) :
  Wr u sb o 1 /\ RvM (ae u sb o [.int .i64 n]) sb B { s with v := { s.v with wide := n } } := by
 obtain ⟨⟨cs, hb, hc⟩, hB, hold⟩ := h
 have hxl : ([.int .i64 n] : List Value).length = 1 := rfl
 obtain ⟨cs', P⟩ := cZ (cs := cs) (o := o) (ys := [.int .i64 n]) (by rw [hc.len, hxl]; omega)
 have hup := aI (u := u) sb o [.int .i64 n]
 refine ⟨by have := hb.oF P.put; exact this, ⟨cs', hb.putAt P.put, ?_⟩, hB, fun k hk => by have := hold k hk; have := hup.size; omega⟩
 refine RvC.upd (S := (· = sb)) (u := u) ?_ hup fun k hk e => hk (e ▸ hB)
 obtain ⟨h1, ⟨p', c', h2, h3⟩, h4, h5, h6, h7, h8, h9, h10⟩ := hc
 have off := fun {a n : Nat} {y : List Value} (hd : a + n <= o \/ o + 1 <= a) (hy : takeN cs a n = some y) => P.off (x := y) (by rw [hxl]; exact hd) hy
 have on1 : takeN cs' 55 1 = some [.int .i64 n] := P.on h5 (by omega) (by rw [hxl]; omega) (by rw [show o - 55 = 0 by omega]; exact bP rfl)
 exact ⟨by rw [P.len, h1], ⟨p', c', off (by omega) h2, h3⟩, fun j hj => (h4 j hj).imp fun y k => ⟨off (by omega) k.1, k.2⟩, on1, off (by omega) h6, off (by omega) h7, fun j hj => (h8 j hj).imp fun y k => ⟨off (by omega) k.1, k.2⟩, fun j hj => off (by omega) (h9 j hj), off (by omega) h10⟩
theorem RvM.Bl {u : World} {sb : Nat} {B : Nat -> Prop} {s : Sv} (h : RvM u sb B s) (n : Int) {o : Nat} (ho : o = 56) :
  Wr u sb o 1 /\ RvM (ae u sb o [.int .i64 n]) sb B { s with v := { s.v with high := n } } := by
 obtain ⟨⟨cs, hb, hc⟩, hB, hold⟩ := h
 have hxl : ([.int .i64 n] : List Value).length = 1 := rfl
 obtain ⟨cs', P⟩ := cZ (cs := cs) (o := o) (ys := [.int .i64 n]) (by rw [hc.len, hxl]; omega)
 have hup := aI (u := u) sb o [.int .i64 n]
 refine ⟨by have := hb.oF P.put; exact this, ⟨cs', hb.putAt P.put, ?_⟩, hB, fun k hk => by have := hold k hk; have := hup.size; omega⟩
 refine RvC.upd (S := (· = sb)) (u := u) ?_ hup fun k hk e => hk (e ▸ hB)
 obtain ⟨h1, ⟨p', c', h2, h3⟩, h4, h5, h6, h7, h8, h9, h10⟩ := hc
 have off := fun {a n : Nat} {y : List Value} (hd : a + n <= o \/ o + 1 <= a) (hy : takeN cs a n = some y) => P.off (x := y) (by rw [hxl]; exact hd) hy
 have on1 : takeN cs' 56 1 = some [.int .i64 n] := P.on h6 (by omega) (by rw [hxl]; omega) (by rw [show o - 56 = 0 by omega]; exact bP rfl)
 exact ⟨by rw [P.len, h1], ⟨p', c', off (by omega) h2, h3⟩, fun j hj => (h4 j hj).imp fun y k => ⟨off (by omega) k.1, k.2⟩, off (by omega) h5, on1, off (by omega) h7, fun j hj => (h8 j hj).imp fun y k => ⟨off (by omega) k.1, k.2⟩, fun j hj => off (by omega) (h9 j hj), off (by omega) h10⟩
theorem RvM.g6 {u : World} {sb : Nat} {B : Nat -> Prop} {s : Sv} (h : RvM u sb B s) (n : Int) {o : Nat} (ho : o = 57) :
  Wr u sb o 1 /\ RvM (ae u sb o [.int .i64 n]) sb B { s with v := { s.v with focus := n } } := by
 obtain ⟨⟨cs, hb, hc⟩, hB, hold⟩ := h
 have hxl : ([.int .i64 n] : List Value).length = 1 := rfl
 obtain ⟨cs', P⟩ := cZ (cs := cs) (o := o) (ys := [.int .i64 n]) (by rw [hc.len, hxl]; omega)
 have hup := aI (u := u) sb o [.int .i64 n]
 refine ⟨by have := hb.oF P.put; exact this, ⟨cs', hb.putAt P.put, ?_⟩, hB, fun k hk => by have := hold k hk; have := hup.size; omega⟩
 refine RvC.upd (S := (· = sb)) (u := u) ?_ hup fun k hk e => hk (e ▸ hB)
 obtain ⟨h1, ⟨p', c', h2, h3⟩, h4, h5, h6, h7, h8, h9, h10⟩ := hc
 have off := fun {a n : Nat} {y : List Value} (hd : a + n <= o \/ o + 1 <= a) (hy : takeN cs a n = some y) => P.off (x := y) (by rw [hxl]; exact hd) hy
 have on1 : takeN cs' 57 1 = some [.int .i64 n] := P.on h7 (by omega) (by rw [hxl]; omega) (by rw [show o - 57 = 0 by omega]; exact bP rfl)
 exact ⟨by rw [P.len, h1], ⟨p', c', off (by omega) h2, h3⟩, fun j hj => (h4 j hj).imp fun y k => ⟨off (by omega) k.1, k.2⟩, off (by omega) h5, off (by omega) h6, on1, fun j hj => (h8 j hj).imp fun y k => ⟨off (by omega) k.1, k.2⟩, fun j hj => off (by omega) (h9 j hj), off (by omega) h10⟩
theorem RvM.AO {u : World} {sb : Nat} {B : Nat -> Prop} {s : Sv} (h : RvM u sb B s) (n : Int) {o : Nat} (ho : o = 85) :
  Wr u sb o 1 /\ RvM (ae u sb o [.int .i64 n]) sb B { s with ay := n } := by
 obtain ⟨⟨cs, hb, hc⟩, hB, hold⟩ := h
 have hxl : ([.int .i64 n] : List Value).length = 1 := rfl
 obtain ⟨cs', P⟩ := cZ (cs := cs) (o := o) (ys := [.int .i64 n]) (by rw [hc.len, hxl]; omega)
 have hup := aI (u := u) sb o [.int .i64 n]
 refine ⟨by have := hb.oF P.put; exact this, ⟨cs', hb.putAt P.put, ?_⟩, hB, fun k hk => by have := hold k hk; have := hup.size; omega⟩
 refine RvC.upd (S := (· = sb)) (u := u) ?_ hup fun k hk e => hk (e ▸ hB)
 obtain ⟨h1, ⟨p', c', h2, h3⟩, h4, h5, h6, h7, h8, h9, h10⟩ := hc
 have off := fun {a n : Nat} {y : List Value} (hd : a + n <= o \/ o + 1 <= a) (hy : takeN cs a n = some y) => P.off (x := y) (by rw [hxl]; exact hd) hy
 have on1 : takeN cs' 85 1 = some [.int .i64 n] := P.on h10 (by omega) (by rw [hxl]; omega) (by rw [show o - 85 = 0 by omega]; exact bP rfl)
 exact ⟨by rw [P.len, h1], ⟨p', c', off (by omega) h2, h3⟩, fun j hj => (h4 j hj).imp fun y k => ⟨off (by omega) k.1, k.2⟩, off (by omega) h5, off (by omega) h6, off (by omega) h7, fun j hj => (h8 j hj).imp fun y k => ⟨off (by omega) k.1, k.2⟩, fun j hj => off (by omega) (h9 j hj), on1⟩
theorem RvM.mP {u : World} {sb : Nat} {B : Nat -> Prop} {s : Sv} (h : RvM u sb B s) {t : aD} {p : Option Addr} (c : Nat) (ht : TlF u (fun k => ¬ B k) p t) {o : Nat} (ho : o = 0) :
  Wr u sb o 1 /\ RvM (ae u sb o [.slice p t.length c]) sb B { s with v := { s.v with aj := t } } := by
 obtain ⟨⟨cs, hb, hc⟩, hB, hold⟩ := h
 have hxl : ([.slice p t.length c] : List Value).length = 1 := rfl
 obtain ⟨cs', P⟩ := cZ (cs := cs) (o := o) (ys := [.slice p t.length c]) (by rw [hc.len, hxl]; omega)
 have hup := aI (u := u) sb o [.slice p t.length c]
 refine ⟨by have := hb.oF P.put; exact this, ⟨cs', hb.putAt P.put, ?_⟩, hB, fun k hk => by have := hold k hk; have := hup.size; omega⟩
 refine RvC.upd (S := (· = sb)) (u := u) ?_ hup fun k hk e => hk (e ▸ hB)
 obtain ⟨h1, ⟨p', c', h2, h3⟩, h4, h5, h6, h7, h8, h9, h10⟩ := hc
 have off := fun {a n : Nat} {y : List Value} (hd : a + n <= o \/ o + 1 <= a) (hy : takeN cs a n = some y) => P.off (x := y) (by rw [hxl]; exact hd) hy
 have on1 : takeN cs' 0 1 = some [.slice p t.length c] := P.on h2 (by omega) (by rw [hxl]; omega) (by rw [show o - 0 = 0 by omega]; exact bP rfl)
 exact ⟨by rw [P.len, h1], ⟨p, c, on1, ht⟩, fun j hj => (h4 j hj).imp fun y k => ⟨off (by omega) k.1, k.2⟩, off (by omega) h5, off (by omega) h6, off (by omega) h7, fun j hj => (h8 j hj).imp fun y k => ⟨off (by omega) k.1, k.2⟩, fun j hj => off (by omega) (h9 j hj), off (by omega) h10⟩
theorem RvM.mS {u : World} {sb : Nat} {B : Nat -> Prop} {s : Sv} (h : RvM u sb B s) (hl : s.az.length = 6) {i : Nat} (hi : i < 6) {r : Pr} {x : List Value} (hx : Fo u (fun k => ¬ B k) r x) {o : Nat} (ho : o = 58 + i * 4) :
  Wr u sb o 4 /\ RvM (ae u sb o x) sb B { s with az := s.az.set i r } := by
 obtain ⟨⟨cs, hb, hc⟩, hB, hold⟩ := h
 obtain ⟨p, n, c, rfl, k3, k4⟩ := hx.ex
 have hxl : ([.int .i64 r.at_, .slice p n c, .string r.pl, .bool r.fA] : List Value).length = 4 := rfl
 obtain ⟨cs', P⟩ := cZ (cs := cs) (o := o) (ys := [.int .i64 r.at_, .slice p n c, .string r.pl, .bool r.fA]) (by rw [hc.len, hxl]; omega)
 have hup := aI (u := u) sb o [.int .i64 r.at_, .slice p n c, .string r.pl, .bool r.fA]
 refine ⟨by have := hb.oF P.put; exact this, ⟨cs', hb.putAt P.put, ?_⟩, hB, fun k hk => by have := hold k hk; have := hup.size; omega⟩
 refine RvC.upd (S := (· = sb)) (u := u) ?_ hup fun k hk e => hk (e ▸ hB)
 obtain ⟨h1, ⟨p', c', h2, h3⟩, h4, h5, h6, h7, h8, h9, h10⟩ := hc
 have off := fun {a n : Nat} {y : List Value} (hd : a + n <= o \/ o + 4 <= a) (hy : takeN cs a n = some y) => P.off (x := y) (by rw [hxl]; exact hd) hy
 refine ⟨by rw [P.len, h1], ⟨p', c', off (by omega) h2, h3⟩, fun j hj => (h4 j hj).imp fun y k => ⟨off (by omega) k.1, k.2⟩, off (by omega) h5, off (by omega) h6, off (by omega) h7, fun j hj => ?_, fun j hj => off (by omega) (h9 j hj), off (by omega) h10⟩
 by_cases e : j = i
 ·subst e
  obtain ⟨y, k1, _⟩ := h8 j hj
  have ylen := (cQ _ _ _ _ k1).1
  refine ⟨_, P.on k1 (by omega) (by rw [hxl]; omega) (by rw [show o - (58 + j * 4) = 0 by omega]; exact bP (by rw [ylen, hxl])), ?_⟩
  have : an { s with az := s.az.set j r } j = r := by show (s.az.set j r).getD j .zero = r; simp [List.getD_eq_getElem?_getD, hl, hj]
  rw [this]
  exact hx
 ·obtain ⟨y, k1, k2⟩ := h8 j hj
  refine ⟨y, off (by omega) k1, ?_⟩
  have : an { s with az := s.az.set i r } j = an s j := by show (s.az.set i r).getD j .zero = _; simp [List.getD_eq_getElem?_getD, List.getElem?_set_ne (fun h => e h.symm)]
  rw [this]
  exact k2
theorem RvM.Hq {u : World} {sb : Nat} {B : Nat -> Prop} {s : Sv} (h : RvM u sb B s) (hl : s.ak.length = 3) {i : Nat} (hi : i < 3) {r : Ct} {o : Nat} (ho : o = 82 + i) :
  Wr u sb o 1 /\ RvM (ae u sb o [.bool r.here]) sb B { s with ak := s.ak.set i r } := by
 obtain ⟨⟨cs, hb, hc⟩, hB, hold⟩ := h
 have hxl : ([.bool r.here] : List Value).length = 1 := rfl
 obtain ⟨cs', P⟩ := cZ (cs := cs) (o := o) (ys := [.bool r.here]) (by rw [hc.len, hxl]; omega)
 have hup := aI (u := u) sb o [.bool r.here]
 refine ⟨by have := hb.oF P.put; exact this, ⟨cs', hb.putAt P.put, ?_⟩, hB, fun k hk => by have := hold k hk; have := hup.size; omega⟩
 refine RvC.upd (S := (· = sb)) (u := u) ?_ hup fun k hk e => hk (e ▸ hB)
 obtain ⟨h1, ⟨p', c', h2, h3⟩, h4, h5, h6, h7, h8, h9, h10⟩ := hc
 have off := fun {a n : Nat} {y : List Value} (hd : a + n <= o \/ o + 1 <= a) (hy : takeN cs a n = some y) => P.off (x := y) (by rw [hxl]; exact hd) hy
 refine ⟨by rw [P.len, h1], ⟨p', c', off (by omega) h2, h3⟩, fun j hj => (h4 j hj).imp fun y k => ⟨off (by omega) k.1, k.2⟩, off (by omega) h5, off (by omega) h6, off (by omega) h7, fun j hj => (h8 j hj).imp fun y k => ⟨off (by omega) k.1, k.2⟩, fun j hj => ?_, off (by omega) h10⟩
 have hset : ag { s with ak := s.ak.set i r } j = if j = i then r else ag s j := mE _ _ (by omega)
 rw [hset]
 by_cases e : j = i
 ·subst e
  rw [if_pos rfl]
  exact P.on (h9 j hj) (by omega) (by rw [hxl]; omega) (by rw [show o - (82 + j) = 0 by omega]; exact bP rfl)
 ·rw [if_neg e]
  exact off (by omega) (h9 j hj)
theorem RvM.ak {u : World} {sb : Nat} {B : Nat -> Prop} {s : Sv} (h : RvM u sb B s) {l : List Ct} (hl : ∀ i : Nat, i < 3 -> (l.getD i .zero).here = (ag s i).here) : RvM u sb B { s with ak := l } := by
 obtain ⟨⟨cs, hb, h1, h2, h4, h5, h6, h7, h8, h9, h10⟩, hB, hold⟩ := h
 exact ⟨⟨cs, hb, h1, h2, h4, h5, h6, h7, h8, fun j hj => by rw [h9 j hj]; show _ = some [Value.bool (l.getD j .zero).here]; rw [hl j hj], h10⟩, hB, hold⟩
theorem DI (l : List Int) (k : Nat) : (bg l).take k ++ (bg l).drop (k + 1) = bg (l.eraseIdx k) := by
 rw [List.eraseIdx_eq_take_drop_succ]; simp [bg, List.map_take, List.map_drop]
theorem Ig {u : World} {b : Nat} {cs : List Value} {i : Nat} {x : Value} (h : Gets u (some ⟨b, 0, none⟩) cs) (hx : cs[i]? = some x) : Rd u b (0 + i * 1) [x] := by
 obtain ⟨_, hr⟩ := h
 obtain ⟨hi, rfl⟩ := List.getElem?_eq_some_iff.1 hx
 have e : cs = cs.take i ++ ([cs[i]] ++ cs.drop (i + 1)) := by
  conv => lhs; rw [<- List.take_append_drop i cs, List.drop_eq_getElem_cons hi]
  simp
 rw [e] at hr
 have h1 := (fw _ _ _ hr).2
 have h2 := (fw _ _ _ h1).1
 rw [List.length_take] at h2
 rwa [show 0 + min i cs.length = 0 + i * 1 by omega] at h2
set_option maxHeartbeats 1000000 in
theorem Gt {u : World} {q : Option Addr} {t : aD} (h : Tl u q t) (c : Nat) (p : Int) (hl : dO 10000000 t) :
  Spec Tryz.prog qV #[TlV q t c, .int .i64 p] u (nX u (bk t p)) := by
 apply rl
 delta qE Bg cnd iI lq
 simp only [decide_eq_true_eq, decide_eq_false_iff_not, Bool.not_eq_true', Bool.not_eq_false', true_and]
 have hu : Ext u (ab (ab u hole) hole) := ((Upd.refl u).alloc _).alloc _
 refine (wB (h.ext hu) c p hl).mono fun e u1 ⟨he, hu1⟩ => ?_
 have x1 := hu.ext hu1
 obtain ⟨a, b, f, hf, hab, he⟩ : ∃ (a b : Int) (f : Bool), (f = true ↔ findT t p ≠ none) /\ (∀ i k : Nat, findT t p = some (i, k) -> a = i /\ b = k) /\ e = .returned (.tuple #[.int .i64 a, .int .i64 b, .bool f]) := by
  unfold vC at he
  cases hff : findT t p with
  | none =>
   rw [hff] at he
   exact ⟨0, 0, false, by simp, fun i k hik => (by cases hik), he⟩
  | some z =>
   obtain ⟨i, k⟩ := z
   rw [hff] at he
   exact ⟨i, k, true, by simp, fun i' k' hik => (by cases hik; exact ⟨rfl, rfl⟩), he⟩
 refine ⟨a, b, f, he, (xG (h.ext x1) c hl).mono fun e u2 ⟨he, hu2⟩ => ⟨_, he, fun hb => ?_, fun hb => ?_⟩⟩
 ·have : bk t p = (t, 1) := by unfold bk; rw [if_pos hb]
  rw [this]
  exact nX.same (by decide) h c (x1.ext hu2)
 have hg := bI.1 hb
 have x2 := x1.ext hu2
 have hs : bk t p = match findT t p with
   | none => (t, 3)
   | some (i, k) =>
    if t.length = 1 /\ (t.getD 0 []).length = 1 then (t, 5)
    else if (t.getD i []).length = 1 then (t.eraseIdx i, 0)
    else (t.set i ((t.getD i []).eraseIdx k), 0) := by
  unfold bk
  rw [if_neg (by rw [hb]; simp)]
  cases findT t p <;> rfl
 rw [hs]
 cases hff : findT t p with
 | none =>
  have hf0 : f = false := by
   cases f with
   | false => rfl
   | true => exact (hf.1 rfl hff).elim
  refine ⟨fun _ => nX.same (by decide) h c x2, fun hn => ?_⟩
  rw [hf0] at hn; cases hn
 | some z =>
  obtain ⟨i, k⟩ := z
  obtain ⟨rfl, rfl⟩ := hab i k hff
  have hf1 : f = true := hf.2 (by rw [hff]; simp)
  obtain ⟨hi, hk, hpk⟩ := db hff
  dsimp only
  have hfew := hg.few
  have hei := hg.each _ (cA (l := t) (d := []) hi)
  refine ⟨fun hn => (by rw [hf1] at hn; cases hn), fun _ => ⟨fun h1 => ?_, fun h1 => ?_⟩⟩
  obtain ⟨b0, o0, q0, c0, hp0, hr0, hn0⟩ := (h.ext x2).at (i := 0) (by omega)
  refine ⟨b0, o0, hp0, by omega, by omega, _, _, _, rfl, hr0, fun h5 => ?_, fun h5 => ?_⟩
  ·rw [if_pos ⟨by omega, by omega⟩]
   exact nX.same (by decide) h c x2
  have hne : ¬ (t.length = 1 /\ (t.getD 0 []).length = 1) := fun hh => h5 (by omega)
  rotate_left 1
  have hne : ¬ (t.length = 1 /\ (t.getD 0 []).length = 1) := fun hh => h1 (by omega)
  all_goals
   rw [if_neg hne]
   refine (DD (h.ext x2) hg c).mono fun e u5 ⟨b, c', bf, cf, he, hO, hu5⟩ => ⟨_, _, _, he, ?_⟩
   have x5 := x2.ext hu5
   have hd : Ext u5 (af u5) := (Upd.refl u5).drew
   have O2 := hO.ext hd
   have hb5 : b < u5.heap.size := (hO.own.at ⟨_, rfl, rfl⟩).1
   refine ⟨b, 0, rfl, by omega, by omega, _, _, _, rfl, O2.rd hi, by simp only [inK]; omega, ?_⟩
   refine (E3 (O2.col i hi) (iY _) hk (by omega)).mono fun e u6 ⟨⟨p6, c6, he, ho6, hk6⟩, hu6⟩ => ⟨_, _, _, he, b, 0, rfl, by omega, by omega, rfl, ?_⟩
   rw [DI] at ho6
   have hlen : (t.getD i []).length - 1 = ((t.getD i []).eraseIdx k).length := by rw [List.length_eraseIdx, if_pos hk]
   rw [hlen] at ho6 ⊢
   obtain ⟨w1, vs, w2, w3, w4, w5⟩ := O2.store hi (c' := c6) ho6.iG hu6 (fun k' hk' => by
    rcases hk6 k' hk' with h7 | h7
    ·have e1 := ar h7
     simp only at e1
     have := hO.out i hi
     omega
    ·have := hu5.size
     have e : (af u5).heap.size = u5.heap.size := rfl
     omega)
   have hnew := (hO.out i hi).2
   have hnb := hO.new
   have hsx := x2.size
   have e6 := x5.ext hd
   have e7 : Upd (fun k => k = bf i \/ k = b) u (ae u6 b (0 + i * 1) [.slice p6 ((t.getD i []).eraseIdx k).length c6]) := ((e6.any (S := fun k => k = bf i \/ k = b)).trans hu6 fun k' _ hk' => .inl (ar hk')).put (fun _ => .inr rfl) _ _
   have e8 : Ext u (ae u6 b (0 + i * 1) [.slice p6 ((t.getD i []).eraseIdx k).length c6]) := ⟨e7.size, fun k' hk' _ => e7.old k' hk' (fun hh => by rcases hh with hh | hh <;> omega), e7.os, e7.output, e7.tape⟩
   have hrd : Rd (ae u6 b (0 + i * 1) [.slice p6 ((t.getD i []).eraseIdx k).length c6]) b (0 + i * 1) [.slice p6 ((t.getD i []).eraseIdx k).length c6] := Ig w3.aH w5
   refine ⟨w1, b, 0, rfl, by omega, by omega, _, _, _, rfl, hrd, fun h0 => ?_, fun h0 => ?_⟩
   ·have ek : ((i : Nat) : Int) + 1 = ((i : Nat) : Int) + 1 := rfl
    refine ⟨by simp only [inK]; omega, (DW w3 w4 hi (by omega)).mono fun e u7 ⟨⟨p7, c7, he, ho7, hk7⟩, hu7⟩ => ⟨_, _, _, he, ?_⟩⟩
    rw [if_pos (by omega)]
    have C := w2 _ hu7
    have C7 := (C.take i).append (C.drop (i + 1))
    have hse : (t.set i ((t.getD i []).eraseIdx k)).take i ++ (t.set i ((t.getD i []).eraseIdx k)).drop (i + 1) = t.eraseIdx i := by
     rw [List.take_set_of_le (by omega), List.drop_set_of_lt (by omega), List.eraseIdx_eq_take_drop_succ]
    rw [hse] at C7
    have hle : t.length - 1 = (t.eraseIdx i).length := by rw [List.length_eraseIdx, if_pos hi]
    have TF := C7.tlF ho7.aH fun k hk => (hk7 k hk).elim (fun h7 => by have := ar h7; simp only at this; rw [this]; exact hO.new) fun h7 => by have := (w3.at (k := b) ⟨_, rfl, rfl⟩).1; omega
    refine ⟨⟨p7, c7, ?_, TF.tl, fun _ => TF.mono fun k hk => by omega⟩, ?_⟩
    ·show _ = Ending.returned (.tuple #[.agg #[.slice _ (t.eraseIdx i).length _], _])
     rw [<- hle]
    ·exact (e8.trans hu7 fun k' hk' hat => by have := ar hat; simp only at this; omega).mono fun _ _ h => h
   ·rw [if_neg (by omega)]
    have TF := (w2 _ (Upd.refl _)).tlF w3.aH fun k hk => by have := ar hk; simp only at this; rw [this]; exact hO.new
    refine ⟨⟨some ⟨b, 0, none⟩, c', ?_, TF.tl, fun _ => TF.mono fun k hk => by omega⟩, e8⟩
    show _ = Ending.returned (.tuple #[.agg #[.slice _ (t.set i _).length _], _])
    rw [List.length_set]
theorem map_set {α : Type} {f g : Nat -> α} {n x : Nat} (hx : x < n) (hfg : ∀ j, j ≠ x -> f j = g j) {v : α} (hv : g x = v) : ((List.range n).map f).set x v = (List.range n).map g := by
 refine List.ext_getElem (by simp) fun j h1 h2 => ?_
 rw [List.getElem_set]
 split
 ·next e => subst e; simp [hv]
 ·next e => simp [hfg j (fun h => e h.symm)]
theorem tN {α : Type} {l : List α} {n : Nat} (hl : l.length = n) (d : α) : (List.range n).map (fun i => l.getD i d) = l := by
 refine List.ext_getElem (by simp [hl]) fun j h1 h2 => ?_
 simp [List.getD_eq_getElem?_getD, h2]
def eJ (s : Sv) (x : Nat) : Sv := { s with v := { s.v with aG := (List.range 6).map fun p => if p < x then g9 s.v.aj s.v.wide s.v.high p (aq s.v p) else aq s.v p }, az := (List.range 6).map fun p : Nat => if p < x then (if br s.v.aj p = true then an s p else .zero) else an s p }
theorem yZ {s : Sv} (hg : s.v.aG.length = 6) (hp : s.az.length = 6) : eJ s 0 = s := by
 unfold eJ
 simp only [Nat.not_lt_zero, if_false]
 have e1 := tN hg Gr.zero
 have e2 := tN hp Pr.zero
 show ({ s with v := { s.v with aG := (List.range 6).map fun i => s.v.aG.getD i .zero }, az := (List.range 6).map fun i => s.az.getD i .zero } : Sv) = s
 rw [e1, e2]
theorem CS (s : Sv) : eJ s 6 = kN s := by
 have e1 : ((List.range 6).map fun p : Nat => if p < 6 then g9 s.v.aj s.v.wide s.v.high p (aq s.v p) else aq s.v p) = yf s.v := List.map_congr_left fun j hj => if_pos (List.mem_range.1 hj)
 have e2 : ((List.range 6).map fun p : Nat => if p < 6 then (if br s.v.aj p = true then an s p else Pr.zero) else an s p) = rI s.v.aj s.az := List.map_congr_left fun j hj => if_pos (List.mem_range.1 hj)
 unfold eJ kN
 rw [e1, e2]
theorem Ec {s : Sv} {x : Nat} (hx : x < 6) (h : br s.v.aj (x : Nat) = false) : ({ eJ s x with v := { (eJ s x).v with aG := (eJ s x).v.aG.set x .zero }, az := (eJ s x).az.set x .zero } : Sv) = eJ s (x + 1) := by
 have e1 : ((List.range 6).map fun p : Nat => if p < x then g9 s.v.aj s.v.wide s.v.high p (aq s.v p) else aq s.v p).set x .zero = (List.range 6).map fun p : Nat => if p < x + 1 then g9 s.v.aj s.v.wide s.v.high p (aq s.v p) else aq s.v p := by
  refine map_set hx (fun j hj => ?_) ?_
  ·by_cases h7 : j < x
   ·rw [if_pos h7, if_pos (show j < x + 1 by omega)]
   ·rw [if_neg h7, if_neg (by omega)]
  ·rw [if_pos (by omega)]
   unfold g9
   rw [if_pos h]
 have e2 : ((List.range 6).map fun p : Nat => if p < x then (if br s.v.aj p = true then an s p else Pr.zero) else an s p).set x .zero = (List.range 6).map fun p : Nat => if p < x + 1 then (if br s.v.aj p = true then an s p else Pr.zero) else an s p := by
  refine map_set hx (fun j hj => ?_) ?_
  ·by_cases h7 : j < x
   ·rw [if_pos h7, if_pos (show j < x + 1 by omega)]
   ·rw [if_neg h7, if_neg (by omega)]
  ·rw [if_pos (by omega), if_neg (by rw [h]; simp)]
 unfold eJ
 dsimp only
 rw [e1, e2]
theorem xj {s : Sv} {x : Nat} (hx : x < 6) (h : br s.v.aj (x : Nat) = true) {g : Gr} (hg : g9 s.v.aj s.v.wide s.v.high x (aq s.v x) = g) : ({ eJ s x with v := { (eJ s x).v with aG := (eJ s x).v.aG.set x g } } : Sv) = eJ s (x + 1) := by
 have e1 : ((List.range 6).map fun p : Nat => if p < x then g9 s.v.aj s.v.wide s.v.high p (aq s.v p) else aq s.v p).set x g = (List.range 6).map fun p : Nat => if p < x + 1 then g9 s.v.aj s.v.wide s.v.high p (aq s.v p) else aq s.v p := by
  refine map_set hx (fun j hj => ?_) ?_
  ·by_cases h7 : j < x
   ·rw [if_pos h7, if_pos (show j < x + 1 by omega)]
   ·rw [if_neg h7, if_neg (by omega)]
  ·rw [if_pos (by omega)]
   exact hg
 have e2 : ((List.range 6).map fun p : Nat => if p < x then (if br s.v.aj p = true then an s p else Pr.zero) else an s p) = (List.range 6).map fun p : Nat => if p < x + 1 then (if br s.v.aj p = true then an s p else Pr.zero) else an s p := by
  refine List.map_congr_left fun j hj => ?_
  by_cases e : j = x
  ·subst e
   rw [if_neg (by omega), if_pos (by omega), if_pos h]
  ·by_cases h7 : j < x
   ·rw [if_pos h7, if_pos (show j < x + 1 by omega)]
   ·rw [if_neg h7, if_neg (by omega)]
 unfold eJ
 dsimp only
 rw [e1, e2]
theorem FK {s : Sv} {x : Nat} : (eJ s x).v.aG.length = 6 := by simp [eJ]
theorem HN {s : Sv} {x : Nat} : (eJ s x).az.length = 6 := by simp [eJ]
theorem Eu {s : Sv} {x i : Nat} (h : ¬ i < x) (hi : i < 6) : aq (eJ s x).v i = aq s.v i := by
 unfold aq eJ
 simp [List.getD_eq_getElem?_getD, hi, h]
theorem jr {g : Gr} (h : ao g) (w hi : Int) : (bM g w hi).2 = 0 := by
 unfold bM
 rw [if_neg (by rw [bH.2 h]; simp)]
set_option maxHeartbeats 2000000 in
theorem qg {u : World} {sb : Nat} {B : Nat -> Prop} {s : Sv} (h : SvM u sb B s) (few : dO 10000000 s.v.aj) (hgl : s.v.aG.length = 6) (hpl : s.az.length = 6) (hgr : ∀ i, i < 6 -> ao (aq s.v i) \/ aq s.v i = .zero) :
  Spec Tryz.prog dR #[.pointer (some ⟨sb, 0, none⟩)] u fun e u' => e = .returned (.tuple #[]) /\ SvM u' sb B (kN s) /\ Upd (· = sb) u u' := by
 apply lC
 delta jn AL A2 vT Ax cnd iI lq
 simp only [decide_eq_true_eq, decide_eq_false_iff_not, true_and, Bool.not_eq_true', Bool.not_eq_false']
 refine ⟨fun x v => SvM v sb B (eJ s x.toNat) /\ 0 <= x /\ x <= 6 /\ Upd (· = sb) u v, fun x _ => (6 - x).toNat, ⟨by rw [show (0 : Int).toNat = 0 from rfl, yZ hgl hpl]; exact h, by omega, by omega, Upd.refl _⟩, ?_⟩
 rintro x v ⟨hp, h0, h6, hv⟩
 refine ⟨fun hx => ?_, fun hx => ?_⟩
 rotate_left 1
 ·have : x.toNat = 6 := by omega
  rw [this, CS] at hp
  exact ⟨hp, hv⟩
 have hx6 : x.toNat < 6 := by omega
 have hx1 : (x + 1).toNat = x.toNat + 1 := by omega
 have ho : 0 + 0 + 1 + x.toNat * 9 = 1 + x.toNat * 9 := by omega
 obtain ⟨cs, hc, hrd⟩ := hp.rd
 obtain ⟨tp, tc, kt, TF⟩ := hc.oY
 have TF : TlF v (fun k => ¬ B k) tp s.v.aj := TF
 have kt : takeN cs 0 1 = some [.slice tp s.v.aj.length tc] := kt
 have hxc : ((x.toNat : Nat) : Int) = x := by omega
 refine ⟨tp, _, tc, rfl, hrd kt, (ya TF.tl tc x few).mono fun e v1 ⟨he, hv1⟩ => ⟨_, he, fun hno => ?_, fun hhas => ?_⟩⟩
 ·have hd : Ext v (af v1) := hv1.drew
  have hno' : br s.v.aj (x.toNat : Nat) = false := by rw [hxc]; exact hno
  obtain ⟨k1, k2⟩ := (hp.ext hd).lS FK hx6 (g := .zero) (x := [.int .i64 0, .int .i64 0, .slice none 0 0, .int .i64 0, .int .i64 0, .int .i64 0, .bool false, .int .i64 0, .int .i64 0]) ⟨⟨none, 0, rfl, Cells.nil _, fun _ k hk => (aJ hk).elim, Nat.le_refl _⟩, by decide⟩ ho
  obtain ⟨m1, m2⟩ := k2.mS HN hx6 (r := .zero) (x := [.int .i64 0, .slice none 0 0, .string (ByteArray.mk #[]), .bool false]) ⟨⟨none, 0, 0, rfl, ⟨rfl, rfl⟩, fun _ k hk => (aJ hk).elim⟩⟩ (o := 0 + 58 + x.toNat * 4) (by omega)
  refine ⟨by omega, by omega, rfl, k1, by omega, by omega, rfl, m1, by simp only [inK]; omega, ⟨?_, by omega, by omega, ((hv.ext hd).put (fun _ => rfl) _ _).put (fun _ => rfl) _ _⟩, by first | omega | (dsimp only; omega)⟩
  rw [hx1, <- Ec hx6 hno']
  exact m2
 have hhas' : br s.v.aj (x.toNat : Nat) = true := by rw [hxc]; exact hhas
 have hd : Ext v (af v1) := hv1.drew
 have hr := fun {w : World} (hw : Ext v w) => (hp.ext hw).rd
 have rd : ∀ {w : World}, Ext v w -> Rd w sb (0 + 0 + 0) [.slice tp s.v.aj.length tc] /\ Rd w sb (0 + 0 + 55) [.int .i64 s.v.wide] /\ Rd w sb (0 + 0 + 56) [.int .i64 s.v.high] := fun hw => ⟨hw.rd (hrd kt) fun h => h, hw.rd (hrd hc.wide) fun h => h, hw.rd (hrd hc.high) fun h => h⟩
 obtain ⟨r1, r2, r3⟩ := rd hd
 have heqs : True \/ ((x.toNat : Nat) : Int) = x := .inl trivial
 refine ⟨tp, _, tc, rfl, r1, _, rfl, r2, _, rfl, r3, ⟨?_, ?_⟩⟩
 ·refine (js (TF.tl.ext hd) tc s.v.wide s.v.high x few).mono fun e w1 ⟨he, hw1⟩ => ?_
  have hWv1 : Ext v (ab w1 hole) := (hd.ext hw1).alloc _
  obtain ⟨q1, q2, q3⟩ := rd hWv1
  refine ⟨_, _, _, _, he, q3, q2, q1, by omega, by omega, ?_⟩
  have hWv : Ext v (af (ab w1 hole)) := hWv1.drew
  have SW : SvM (af (ab w1 hole)) sb B (eJ s x.toNat) := hp.ext hWv
  obtain ⟨cs2, hc2, hrd2⟩ := SW.rd
  obtain ⟨y, ky, GA⟩ := hc2.qz x.toNat hx6
  rw [Eu (Nat.lt_irrefl _) hx6] at GA
  obtain ⟨⟨gp, gc, rfl, gC, gk, gcap⟩, gfew⟩ := GA
  have ky' := hrd2 ky
  rw [<- ho] at ky'
  refine ⟨_, _, _, _, _, _, _, _, _, _, _, rfl, ky', ?_⟩
  have eqs := fun g' => @xj s x.toNat hx6 hhas' g'
  rw [<- hx1] at eqs
  have store : ∀ {w : World} {g' : Gr} {p' : Option Addr} {c' : Nat}, Ext (af (ab w1 hole)) w -> g9 s.v.aj s.v.wide s.v.high x.toNat (aq s.v x.toNat) = g' -> Cells w p' g'.cells -> (0 < g'.cells.length -> ∀ k, At p' k -> ¬ B k) -> g'.cells.length <= c' -> g'.cells.length <= 1000 ->
    Wr w sb (0 + 0 + 1 + x.toNat * 9) 9 /\ inK .i64 (x + 1) /\ (SvM (ae w sb (0 + 0 + 1 + x.toNat * 9) (grV g' p' g'.cells.length c')) sb B (eJ s (x + 1).toNat) /\ 0 <= x + 1 /\ x + 1 <= 6 /\ Upd (· = sb) u (ae w sb (0 + 0 + 1 + x.toNat * 9) (grV g' p' g'.cells.length c'))) /\ (6 - (x + 1)).toNat < (6 - x).toNat := fun {w g' p' c'} hw hg' hC hk hc hf => by
   obtain ⟨k1, k2⟩ := (SW.ext hw).lS FK hx6 (g := g') ⟨⟨p', c', rfl, hC, hk, hc⟩, hf⟩ ho
   rw [eqs g' hg'] at k2
   exact ⟨k1, by simp only [inK]; omega, ⟨k2, by omega, by omega, ((hv.trans (hWv.any (S := (· = sb))) fun _ _ h => h).trans (hw.any (S := (· = sb))) fun _ _ h => h).put (fun _ => rfl) _ _⟩, by omega⟩
  have hal : Ext (af (ab w1 hole)) (ab (af (ab w1 hole)) hole) := (Upd.refl _).alloc _
  have ff := hgr x.toNat hx6
  refine ⟨fun hz => ?_, fun hz => ⟨fun hne => ?_, fun heqw => ⟨fun hne => ?_, fun heqh => ?_⟩⟩⟩
  ·refine (lP _ _).mono fun e w2 ⟨⟨nb, he, hco, hnb⟩, hw2⟩ => ⟨_, _, _, _, _, _, _, _, _, _, _, he, by omega, by omega, rfl, ?_⟩
   have hd2 : Ext w2 (af w2) := (Upd.refl _).drew
   refine store ((hal.ext hw2).ext hd2) ?_ (hco.ext hd2).cells (fun _ k hk => SW.new (by have := ar hk; simp only at this; have := hal.size; omega)) (Nat.le_refl _) (by have := aK (dr (max 1 (whereT s.v.aj s.v.wide s.v.high x).wide) (max 1 (whereT s.v.aj s.v.wide s.v.high x).high)); omega)
   unfold g9
   rw [if_neg (by rw [hhas']; simp), hxc]
   exact if_pos hz
  ·have gg : ao (aq s.v x.toNat) := ff.resolve_right fun h0 => hz (by rw [h0])
   refine (m7 (gC.ext hal) gcap (by omega) _ _).mono fun e w2 ⟨⟨p2, c2, he, hC2, hf2, hk2⟩, hw2⟩ => ⟨_, _, _, _, _, _, _, _, _, _, _, _, he, by omega, by omega, rfl, ?_⟩
   have h0 := jr gg (max 1 (whereT s.v.aj s.v.wide s.v.high x).wide) (max 1 (whereT s.v.aj s.v.wide s.v.high x).high)
   have hd2 : Ext w2 (af w2) := (Upd.refl _).drew
   refine store ((hal.ext hw2).ext hd2) ?_ (hC2.ext hd2) (fun _ k hk => SW.new (by have := (hk2 h0).2 k hk; have := hal.size; omega)) (hk2 h0).1 (by have := hf2 h0; omega)
   unfold g9
   rw [if_neg (by rw [hhas']; simp), hxc]
   simp only
   rw [if_neg hz, if_pos (.inl hne)]
  ·have gg : ao (aq s.v x.toNat) := ff.resolve_right fun h0 => hz (by rw [h0])
   refine (m7 (gC.ext hal) gcap (by omega) _ _).mono fun e w2 ⟨⟨p2, c2, he, hC2, hf2, hk2⟩, hw2⟩ => ⟨_, _, _, _, _, _, _, _, _, _, _, _, he, by omega, by omega, rfl, ?_⟩
   have h0 := jr gg (max 1 (whereT s.v.aj s.v.wide s.v.high x).wide) (max 1 (whereT s.v.aj s.v.wide s.v.high x).high)
   have hd2 : Ext w2 (af w2) := (Upd.refl _).drew
   refine store ((hal.ext hw2).ext hd2) ?_ (hC2.ext hd2) (fun _ k hk => SW.new (by have := (hk2 h0).2 k hk; have := hal.size; omega)) (hk2 h0).1 (by have := hf2 h0; omega)
   unfold g9
   rw [if_neg (by rw [hhas']; simp), hxc]
   simp only
   rw [if_neg hz, if_pos (.inr hne)]
  ·have hd2 : Ext (ab (af (ab w1 hole)) hole) (af (ab (af (ab w1 hole)) hole)) := (Upd.refl _).drew
   refine ⟨by omega, by omega, rfl, store (hal.ext hd2) ?_ (gC.ext (hal.ext hd2)) gk gcap gfew⟩
   unfold g9
   rw [if_neg (by rw [hhas']; simp), hxc]
   simp only
   rw [if_neg hz, if_neg (fun hh => hh.elim (fun h7 => h7 heqw) fun h7 => h7 heqh)]
 ·have ha : Ext v (ab (af v1) hole) := hd.alloc _
  obtain ⟨q1, q2, q3⟩ := rd ha
  refine ⟨q3, q2, q1, (js (TF.tl.ext ha) tc s.v.wide s.v.high x few).mono fun e w1 ⟨he, hw1⟩ => ⟨_, _, _, _, he, by omega, by omega, ?_⟩⟩
  have hWv : Ext v (af w1) := (ha.ext hw1).drew
  have SW : SvM (af w1) sb B (eJ s x.toNat) := hp.ext hWv
  obtain ⟨cs2, hc2, hrd2⟩ := SW.rd
  obtain ⟨y, ky, GA⟩ := hc2.qz x.toNat hx6
  rw [Eu (Nat.lt_irrefl _) hx6] at GA
  obtain ⟨⟨gp, gc, rfl, gC, gk, gcap⟩, gfew⟩ := GA
  have ky' := hrd2 ky
  rw [<- ho] at ky'
  refine ⟨_, _, _, _, _, _, _, _, _, _, _, rfl, ky', ?_⟩
  have eqs := fun g' => @xj s x.toNat hx6 hhas' g'
  rw [<- hx1] at eqs
  have store : ∀ {w : World} {g' : Gr} {p' : Option Addr} {c' : Nat}, Ext (af w1) w -> g9 s.v.aj s.v.wide s.v.high x.toNat (aq s.v x.toNat) = g' -> Cells w p' g'.cells -> (0 < g'.cells.length -> ∀ k, At p' k -> ¬ B k) -> g'.cells.length <= c' -> g'.cells.length <= 1000 ->
    Wr w sb (0 + 0 + 1 + x.toNat * 9) 9 /\ inK .i64 (x + 1) /\ (SvM (ae w sb (0 + 0 + 1 + x.toNat * 9) (grV g' p' g'.cells.length c')) sb B (eJ s (x + 1).toNat) /\ 0 <= x + 1 /\ x + 1 <= 6 /\ Upd (· = sb) u (ae w sb (0 + 0 + 1 + x.toNat * 9) (grV g' p' g'.cells.length c'))) /\ (6 - (x + 1)).toNat < (6 - x).toNat := fun {w g' p' c'} hw hg' hC hk hc hf => by
   obtain ⟨k1, k2⟩ := (SW.ext hw).lS FK hx6 (g := g') ⟨⟨p', c', rfl, hC, hk, hc⟩, hf⟩ ho
   rw [eqs g' hg'] at k2
   exact ⟨k1, by simp only [inK]; omega, ⟨k2, by omega, by omega, ((hv.trans (hWv.any (S := (· = sb))) fun _ _ h => h).trans (hw.any (S := (· = sb))) fun _ _ h => h).put (fun _ => rfl) _ _⟩, by omega⟩
  have hal : Ext (af w1) (ab (af w1) hole) := (Upd.refl _).alloc _
  have ff := hgr x.toNat hx6
  refine ⟨fun hz => ?_, fun hz => ⟨fun hne => ?_, fun heqw => ⟨fun hne => ?_, fun heqh => ?_⟩⟩⟩
  ·refine (lP _ _).mono fun e w2 ⟨⟨nb, he, hco, hnb⟩, hw2⟩ => ⟨_, _, _, _, _, _, _, _, _, _, _, he, by omega, by omega, rfl, ?_⟩
   have hd2 : Ext w2 (af w2) := (Upd.refl _).drew
   refine store ((hal.ext hw2).ext hd2) ?_ (hco.ext hd2).cells (fun _ k hk => SW.new (by have := ar hk; simp only at this; have := hal.size; omega)) (Nat.le_refl _) (by have := aK (dr (max 1 (whereT s.v.aj s.v.wide s.v.high x).wide) (max 1 (whereT s.v.aj s.v.wide s.v.high x).high)); omega)
   unfold g9
   rw [if_neg (by rw [hhas']; simp), hxc]
   exact if_pos hz
  ·have gg : ao (aq s.v x.toNat) := ff.resolve_right fun h0 => hz (by rw [h0])
   refine (m7 (gC.ext hal) gcap (by omega) _ _).mono fun e w2 ⟨⟨p2, c2, he, hC2, hf2, hk2⟩, hw2⟩ => ⟨_, _, _, _, _, _, _, _, _, _, _, _, he, by omega, by omega, rfl, ?_⟩
   have h0 := jr gg (max 1 (whereT s.v.aj s.v.wide s.v.high x).wide) (max 1 (whereT s.v.aj s.v.wide s.v.high x).high)
   have hd2 : Ext w2 (af w2) := (Upd.refl _).drew
   refine store ((hal.ext hw2).ext hd2) ?_ (hC2.ext hd2) (fun _ k hk => SW.new (by have := (hk2 h0).2 k hk; have := hal.size; omega)) (hk2 h0).1 (by have := hf2 h0; omega)
   unfold g9
   rw [if_neg (by rw [hhas']; simp), hxc]
   simp only
   rw [if_neg hz, if_pos (.inl hne)]
  ·have gg : ao (aq s.v x.toNat) := ff.resolve_right fun h0 => hz (by rw [h0])
   refine (m7 (gC.ext hal) gcap (by omega) _ _).mono fun e w2 ⟨⟨p2, c2, he, hC2, hf2, hk2⟩, hw2⟩ => ⟨_, _, _, _, _, _, _, _, _, _, _, _, he, by omega, by omega, rfl, ?_⟩
   have h0 := jr gg (max 1 (whereT s.v.aj s.v.wide s.v.high x).wide) (max 1 (whereT s.v.aj s.v.wide s.v.high x).high)
   have hd2 : Ext w2 (af w2) := (Upd.refl _).drew
   refine store ((hal.ext hw2).ext hd2) ?_ (hC2.ext hd2) (fun _ k hk => SW.new (by have := (hk2 h0).2 k hk; have := hal.size; omega)) (hk2 h0).1 (by have := hf2 h0; omega)
   unfold g9
   rw [if_neg (by rw [hhas']; simp), hxc]
   simp only
   rw [if_neg hz, if_pos (.inr hne)]
  ·have hd2 : Ext (ab (af w1) hole) (af (ab (af w1) hole)) := (Upd.refl _).drew
   refine ⟨by omega, by omega, rfl, store (hal.ext hd2) ?_ (gC.ext (hal.ext hd2)) gk gcap gfew⟩
   unfold g9
   rw [if_neg (by rw [hhas']; simp), hxc]
   simp only
   rw [if_neg hz, if_neg (fun hh => hh.elim (fun h7 => h7 heqw) fun h7 => h7 heqh)]
theorem zj (p : Int) {u : World} : Spec Tryz.prog iw #[.int .i64 p] u (Told u (cy p)) := by
 apply kJ
 delta ie cnd iI lq
 simp only [decide_eq_true_eq, decide_eq_false_iff_not]
 refine ⟨fun h => ⟨?_, Upd.refl u⟩, fun h => ⟨?_, Upd.refl u⟩⟩
 ·congr 2
  unfold cy
  exact decide_eq_decide.2 (by omega)
 ·congr 2
  symm
  unfold cy
  exact decide_eq_false (by omega)
theorem vw (l m : List Int) : bg (l ++ m) = bg l ++ bg m := by simp [bg]
theorem Ap {u : World} {q : Option Addr} {t : aD} (h : Tl u q t) (c : Nat) (hl : dO 1048576 t) :
  Spec Tryz.prog kH #[TlV q t c] u fun e u' => ∃ p c', e = .returned (.slice p t.flatten.length c') /\ Own u' 1 p t.flatten.length c' (bg t.flatten) /\ (∀ k, At p k -> u.heap.size <= k) /\ Ext u u' := by
 apply ml
 delta kZ r7 cnd iI lq
 simp only [decide_eq_true_eq, decide_eq_false_iff_not, true_and]
 have hu : Ext u (ab u hole) := (Upd.refl u).alloc _
 have hn := hl.n
 refine ⟨fun p n cap x u1 => Ext u u1 /\ 0 <= x /\ x <= t.length /\ n = ((t.take x.toNat).flatten).length /\ Own u1 1 p n cap (bg ((t.take x.toNat).flatten)) /\ (∀ k, At p k -> u.heap.size <= k), fun _ _ _ x _ => (t.length - x).toNat,
  ⟨hu, Int.le_refl _, by omega, rfl, Own.nil _ _, fun k hk => (aJ hk).elim⟩, ?_⟩
 rintro p n cap x u1 ⟨hu1, h0, h1, rfl, ho, hk⟩
 refine ⟨fun hx => ?_, fun hx => ?_⟩
 ·obtain ⟨b, o, q', c', hp, hr, hnum⟩ := (h.ext hu1).at (i := x.toNat) (by omega)
  have hb := hl.flat x.toNat (by omega)
  have hb2 := hl.getD x.toNat
  have hm : x.toNat * 1048576 <= 1048576 * 1048576 := Nat.mul_le_mul_right _ (by omega)
  refine ⟨b, o, hp, h0, hx, _, _, _, rfl, hr, bg ((t.take x.toNat).flatten), bg (t.getD x.toNat []), by rw [bF]; omega, ho.aH, by rw [bF]; omega, hnum.1, by decide, by omega, iY _, fun hcc => ho.wrs (by omega), fun p' cap' u2 hr2 => ?_⟩
  obtain ⟨a1, a2, a3⟩ := ho.app hr2 (by rw [bF]; omega) ho.aH (by rw [bF]; omega) rfl
  have hfl : (t.take (x + 1).toNat).flatten = (t.take x.toNat).flatten ++ t.getD x.toNat [] := by
   rw [show (x + 1).toNat = x.toNat + 1 by omega, bN t [] (by omega), List.flatten_append]
   simp
  refine ⟨by simp only [inK]; omega, ⟨(hu1.trans a2 fun k hk' hat => by have := hk k hat; omega).mono fun _ _ h => h, by omega, by omega, ?_, ?_, fun k hk' => ?_⟩, by first | omega | (dsimp only; omega)⟩
  ·rw [hfl, List.length_append]
  ·rw [hfl, vw]
   exact a1
  ·rcases a3 with ⟨rfl, _⟩ | ⟨rfl, _⟩
   ·exact hk k hk'
   ·rw [ar hk']; exact hu1.size
 ·rw [List.take_of_length_le (by omega)] at ho ⊢
  exact ⟨p, cap, rfl, ho, hk, hu1⟩
theorem nn {u : World} {q : Option Addr} {t : aD} (h : Tl u q t) (c : Nat) (hl : dO 1048576 t) :
  Spec Tryz.prog fe #[TlV q t c] u (Told u (mV t)) := by
 apply jq
 delta eP AV gH cnd iI lq
 simp only [decide_eq_true_eq, decide_eq_false_iff_not, Bool.not_eq_true', Bool.not_eq_false', true_and]
 have hu : Ext u (ab u hole) := (Upd.refl u).alloc _
 have hn := hl.n
 have no : ∀ {v : World}, Ext u v -> ¬ cF t -> Told u (mV t) (.returned (.bool false)) v := fun hv hn => ⟨by
  congr 2
  symm
  rw [<- Bool.not_eq_true, bI]
  exact hn, hv⟩
 refine ⟨fun x u1 => Ext u u1 /\ 0 <= x /\ x <= t.length /\ ∀ i : Nat, i < x.toNat -> 1 <= (t.getD i []).length /\ (t.getD i []).length <= 3, fun x _ => (t.length - x).toNat, ⟨hu, by omega, by omega, by omega⟩, fun x u1 ⟨hu1, h0, h1, hi⟩ => ⟨fun hx => ?_, fun hx => ?_⟩⟩
 ·obtain ⟨b, o, q', c', hp, hr, hnum⟩ := (h.ext hu1).at (i := x.toNat) (by omega)
  have hcm : t.getD x.toNat [] ∈ t := cA (by omega)
  refine ⟨b, o, hp, h0, hx, _, _, _, rfl, hr, fun hb => no hu1 fun hg => by have := (hg.each _ hcm).1; omega, fun hb => ⟨fun hb => no hu1 fun hg => by have := (hg.each _ hcm).2; omega, fun hb2 => ⟨by simp only [inK]; omega, ⟨hu1, by omega, by omega, fun i hi' => ?_⟩, by first | omega | (dsimp only; omega)⟩⟩⟩
  rcases (by omega : i < x.toNat \/ i = x.toNat) with h | rfl
  ·exact hi i h
  ·omega
 ·have heach : ∀ c ∈ t, 1 <= c.length /\ c.length <= 3 := fun c hc => by
   obtain ⟨i, hi', rfl⟩ := List.getElem_of_mem hc
   have := hi i (by omega)
   rwa [List.getD_eq_getElem?_getD, List.getElem?_eq_getElem hi'] at this
  refine (Ap (h.ext hu1) c hl).mono fun e u2 ⟨lp, lc, he, ho, hk, hu2⟩ => ⟨_, _, _, he, ?_⟩
  have x2 := hu1.ext hu2
  have hfl : t.flatten.length <= 1048576 * 1048576 := by
   have := hl.flat t.length (Nat.le_refl _)
   rw [List.take_length] at this
   exact Nat.le_trans this (Nat.mul_le_mul_right _ hn)
  refine ⟨fun x v => Ext u v /\ Ext u2 v /\ 0 <= x /\ x <= t.flatten.length /\ (∀ p ∈ t.flatten.take x.toNat, cy p = true) /\ (t.flatten.take x.toNat).Nodup, fun x _ => (t.flatten.length - x).toNat, ⟨x2, Upd.refl _, by omega, by omega, by simp, by simp⟩, fun x v ⟨hv, hv2, y0, y1, j1, j2⟩ => ⟨fun hx => ?_, fun hx => ?_⟩⟩
  ·obtain ⟨bb, rfl⟩ := ho.uV (by omega)
   have hN := ho.iG
   obtain ⟨b1, o1, hp1, hr1⟩ := (hN.ext hv2).at (i := x.toNat) (by omega)
   have hpre := Ah (c := t.flatten) (j := x.toNat) (by omega)
   have htk := bN t.flatten 0 (i := x.toNat) (by omega)
   have hpm : t.flatten.getD x.toNat 0 ∈ t.flatten := cA (by omega)
   generalize t.flatten.getD x.toNat 0 = w at hr1 hpre htk hpm
   have hle := ho.le
   refine ⟨b1, o1, hp1, y0, hx, _, rfl, hr1, (zj w).mono fun e u3 ⟨he, hu3⟩ => ⟨_, he, fun hb => no (hv.ext hu3) fun hg => (by rw [hg.E6 _ hpm] at hb; cases hb), fun hw => ⟨Int.le_refl _, y0, by omega, ?_⟩⟩⟩
   have hcut : (if lc = (0 : Int).toNat then some (Addr.mk bb 0 none) else Option.map (fun a => Addr.add a ((0 : Int).toNat * 1)) (some (Addr.mk bb 0 none))) = some ⟨bb, 0, none⟩ := by
    split
    ·rfl
    ·rfl
   refine ⟨fun y v2 => Ext u v2 /\ Ext u2 v2 /\ 0 <= y /\ y <= x /\ ∀ i : Nat, i < y.toNat -> t.flatten.getD i 0 ≠ w, fun y _ => (x - y).toNat, ⟨hv.ext hu3, hv2.ext hu3, Int.le_refl _, y0, by omega⟩, fun y v2 ⟨hv3, hv4, z0, z1, k1⟩ => ⟨fun hy => ?_, fun hy => ⟨by simp only [inK]; omega, ⟨hv3, hv4, by omega, by omega, ?_, ?_⟩, by first | omega | (dsimp only; omega)⟩⟩⟩
   ·obtain ⟨b2, o2, hp2, hr2⟩ := (hN.ext hv4).at (i := y.toNat) (by omega)
    rw [hcut]
    refine ⟨b2, o2, hp2, z0, hy, _, rfl, hr2, fun heq => no hv3 fun hg => ?_, fun hne => ⟨by simp only [inK]; omega, ⟨hv3, hv4, by omega, by omega, fun i hi' => ?_⟩, by first | omega | (dsimp only; omega)⟩⟩
    ·have := hg.nodup
     rw [hpre, List.nodup_append] at this
     refine this.2.2 w ?_ w (by simp) rfl
     rw [heq]
     have : (t.flatten.take x.toNat).getD y.toNat 0 = t.flatten.getD y.toNat 0 := by
      rw [List.getD_eq_getElem?_getD, List.getElem?_take_of_lt (by omega), <- List.getD_eq_getElem?_getD]
     rw [<- this]
     exact cA (by rw [List.length_take]; omega)
    ·rcases (by omega : i < y.toNat \/ i = y.toNat) with h | rfl
     ·exact k1 i h
     ·exact fun h => hne h.symm
   all_goals rw [show (x + 1).toNat = x.toNat + 1 by omega, htk]
   ·intro p hp
    rcases List.mem_append.1 hp with hp | hp
    ·exact j1 p hp
    ·simp only [List.mem_cons, List.not_mem_nil, or_false] at hp
     rw [hp]; exact hw
   ·rw [List.nodup_append]
    refine ⟨j2, by simp, fun a ha b' hb' hab => ?_⟩
    simp only [List.mem_cons, List.not_mem_nil, or_false] at hb'
    subst hb' hab
    obtain ⟨i, hi', hie⟩ := List.getElem_of_mem ha
    rw [List.length_take] at hi'
    refine k1 i (by omega) ?_
    rw [List.getElem_take] at hie
    rw [List.getD_eq_getElem?_getD, List.getElem?_eq_getElem (by omega), <- hie]
    rfl
  ·have hx' : t.flatten.take x.toNat = t.flatten := List.take_of_length_le (by omega)
   rw [hx'] at j1 j2
   refine ⟨?_, hv⟩
   congr 2
   rw [Bool.eq_iff_iff, decide_eq_true_eq, bI]
   exact ⟨fun hp => ⟨heach, j1, j2, fun e => by subst e; simp at hp⟩, fun hg => by
    have := pD fun c hc => (hg.each c hc).1
    have h2 := hg.some
    have : t.length ≠ 0 := fun e => h2 (List.length_eq_zero_iff.1 e)
    omega⟩
theorem w6 (length n k : Int) {u : World} : Spec Tryz.prog gT #[.int .i64 length, .int .i64 n, .int .i64 k] u fun e u' => e = .returned (ShV (aw length n k)) /\ Ext u u' := by
 apply jT
 delta gJ cnd iI lq
 simp only [decide_eq_true_eq, decide_eq_false_iff_not]
 have no : ¬ (1 <= n /\ n <= 6 /\ 0 <= k /\ k < n /\ 2 * n - 1 <= length /\ length <= 24) -> Ending.returned (.tuple #[.int .i64 0, .int .i64 0]) = .returned (ShV (aw length n k)) /\ Ext u u := fun hn => by
  rw [pX hn]
  exact ⟨rfl, Upd.refl u⟩
 refine ⟨fun _ => no (by omega), fun a1 => ⟨fun _ => no (by omega), fun a2 => ⟨fun _ => no (by omega), fun a3 => ⟨fun _ => no (by omega), fun a4 => ⟨by simp only [inK]; omega, by simp only [inK]; omega, fun _ => no (by omega), fun a5 => ⟨fun _ => no (by omega), fun a6 => ⟨by simp only [inK]; omega, by simp only [inK]; omega, ?_⟩⟩⟩⟩⟩⟩⟩
 have s := uS (length := length) (n := n) (k := k) (by omega)
 have e : aw length n k = (k * ((length - (n - 1)) / n + 1) + min k ((length - (n - 1)) % n), (length - (n - 1)) / n + if k < (length - (n - 1)) % n then 1 else 0) := by
  unfold aw
  rw [if_neg (by omega), if_neg (by omega)]
 rw [e, show length - n + 1 = length - (n - 1) by omega]
 have hL : 0 <= length - (n - 1) /\ length - (n - 1) <= 24 := by omega
 generalize length - (n - 1) = L at s hL ⊢
 generalize L / n = D at s ⊢
 generalize L % n = M at s ⊢
 refine ⟨fun a i v => Ext u v /\ 0 <= i /\ i <= k /\ a = i * (D + 1) + min i M /\ 0 <= a /\ a <= i * 30, fun _ i _ => (k - i).toNat, ⟨Upd.refl u, Int.le_refl _, by omega, by rw [Int.zero_mul]; omega, Int.le_refl _, by omega⟩, ?_⟩
 rintro a i v ⟨hv, i0, i1, ha, b0, b1⟩
 have e2 : (i + 1) * (D + 1) = i * (D + 1) + (D + 1) := by rw [Int.add_mul, Int.one_mul]
 refine ⟨by omega, by omega, by simp only [inK]; omega, by omega, by omega, fun hM => ⟨by simp only [inK]; omega, fun hk => ?_, fun hk => ⟨by simp only [inK]; omega, by simp only [inK]; omega, by simp only [inK]; omega, ⟨hv, by omega, by omega, by rw [e2]; omega, by omega, by omega⟩, by first | omega | (dsimp only; omega)⟩⟩, fun hM => ⟨fun hk => ?_, fun hk => ⟨by simp only [inK]; omega, by simp only [inK]; omega, by simp only [inK]; omega, ⟨hv, by omega, by omega, by rw [e2]; omega, by omega, by omega⟩, by first | omega | (dsimp only; omega)⟩⟩⟩
 ·subst hk
  rw [if_pos hM, <- ha]
  exact ⟨rfl, hv⟩
 ·subst hk
  rw [if_neg hM, <- ha, Int.add_zero]
  exact ⟨rfl, hv⟩
theorem CM {t : aD} (hg : cF t) {p : Int} {i k : Nat} (hi : i < t.length) (hk : k < (t.getD i []).length) (hp : (t.getD i []).getD k 0 = p) : findT t p = some (i, k) := by
 have hfl := C8 hi
 have hpre := Ah hk
 rw [hp] at hpre
 have hn := hg.nodup
 rw [hfl, hpre, List.nodup_append] at hn
 have h1 : ∀ j : Nat, j < k -> (t.getD i []).getD j 0 ≠ p := fun j hj e => by
  have h2 := hn.2.1
  rw [List.append_assoc, List.nodup_append] at h2
  refine h2.2.2 p ?_ p (by simp) rfl
  rw [<- e]
  have : ((t.getD i []).take k).getD j 0 = (t.getD i []).getD j 0 := by
   rw [List.getD_eq_getElem?_getD, List.getElem?_take_of_lt (by omega), <- List.getD_eq_getElem?_getD]
  rw [<- this]
  exact cA (by rw [List.length_take]; omega)
 have f := ub hk hp h1
 rw [zO hi f.1 fun j hj => ?_, f.2]
 rw [<- Bool.not_eq_true, List.contains_iff_mem]
 intro hm
 refine hn.2.2 p ?_ p (by simp) rfl
 rw [List.mem_flatten]
 refine ⟨t.getD j [], ?_, hm⟩
 have : (t.take i).getD j [] = t.getD j [] := by
  rw [List.getD_eq_getElem?_getD, List.getElem?_take_of_lt (by omega), <- List.getD_eq_getElem?_getD]
 rw [<- this]
 exact cA (by rw [List.length_take]; omega)
theorem CQ {t : aD} (hg : cF t) {wide high p : Int} {i k : Nat} (hf : findT t p = some (i, k)) : whereT t wide high p = if (aw wide t.length i).2 = 0 \/ (aw high (t.getD i []).length k).2 = 0 then .zero else ⟨(aw high (t.getD i []).length k).1, (aw wide t.length i).1, (aw high (t.getD i []).length k).2, (aw wide t.length i).2⟩ := by
 unfold whereT
 rw [hf]
 dsimp only
 rw [if_neg (by rw [bI.2 hg]; simp)]
theorem xE {u : World} {q : Option Addr} {t : aD} (h : Tl u q t) (c : Nat) (wide high p : Int) (hl : dO 1048576 t) :
  Spec Tryz.prog gR #[TlV q t c, .int .i64 wide, .int .i64 high, .int .i64 p] u fun e u' => e = .returned (RcV (whereT t wide high p)) /\ Ext u u' := by
 apply jV
 delta gy AY gO cnd iI lq
 simp only [decide_eq_true_eq, decide_eq_false_iff_not, Bool.not_eq_true', Bool.not_eq_false', true_and]
 have hu : Ext u (ab (ab u hole) hole) := ((Upd.refl u).alloc _).alloc _
 refine (nn (h.ext hu) c hl).mono fun e u1 ⟨he, hu1⟩ => ⟨_, he, fun hb => ?_, fun hb => ?_⟩
 ·have hz : whereT t wide high p = .zero := by
   unfold whereT
   split
   ·rfl
   ·rw [if_pos hb]
  rw [hz]
  exact ⟨rfl, hu.ext hu1⟩
 have hg := bI.1 hb
 have x1 := hu.ext hu1
 have hn := hl.n
 refine ⟨fun x a b c d v => Ext u v /\ 0 <= x /\ x <= t.length /\ ∀ i k : Nat, i < x.toNat -> findT t p = some (i, k) -> (aw wide t.length i).2 = 0 \/ (aw high (t.getD i []).length k).2 = 0, fun x _ _ _ _ _ => (t.length - x).toNat, ⟨x1, Int.le_refl _, by omega, by omega⟩, ?_⟩
 rintro x a1 a2 a3 a4 v ⟨hv, h0, h1, hi⟩
 refine ⟨fun hx => ?_, fun hx => ⟨?_, hv⟩⟩
 ·obtain ⟨b, o, q', c', hp, hr, hnum⟩ := (h.ext hv).at (i := x.toNat) (by omega)
  have hcl := hl.getD x.toNat
  refine ⟨b, o, hp, h0, hx, _, _, _, rfl, hr, ?_⟩
  refine ⟨fun y a b c d w => Ext u w /\ Ext v w /\ 0 <= y /\ y <= (t.getD x.toNat []).length /\ ∀ k : Nat, k < y.toNat -> findT t p = some (x.toNat, k) -> (aw wide t.length x.toNat).2 = 0 \/ (aw high (t.getD x.toNat []).length k).2 = 0, fun y _ _ _ _ _ => ((t.getD x.toNat []).length - y).toNat, ⟨hv, Upd.refl _, Int.le_refl _, by omega, by omega⟩, ?_⟩
  rintro y b1 b2 b3 b4 w ⟨hw, hvw, y0, y1, hk⟩
  refine ⟨fun hy => ?_, fun hy => ⟨by simp only [inK]; omega, ⟨hw, by omega, by omega, fun i k hi' hf => ?_⟩, by first | omega | (dsimp only; omega)⟩⟩
  ·obtain ⟨b5, o5, hp5, hr5⟩ := (hnum.ext hvw).at (i := y.toNat) (by omega)
   refine ⟨b5, o5, hp5, y0, hy, _, rfl, hr5, fun hne => ⟨by simp only [inK]; omega, ⟨hw, hvw, by omega, by omega, fun k hk' hf => ?_⟩, by first | omega | (dsimp only; omega)⟩, fun heq => ?_⟩
   ·rcases (by omega : k < y.toNat \/ k = y.toNat) with h | rfl
    ·exact hk k h hf
    ·exact (hne (db hf).2.2).elim
   ·have hf := CM hg (by omega) (by omega) heq
    refine (w6 wide t.length x).mono fun e u3 ⟨he, hu3⟩ => ⟨_, _, he, (w6 high (t.getD x.toNat []).length y).mono fun e u4 ⟨he, hu4⟩ => ⟨_, _, he, ?_⟩⟩
    have ex : x = ((x.toNat : Nat) : Int) := by omega
    have ey : y = ((y.toNat : Nat) : Int) := by omega
    have xw := (hw.ext hu3).ext hu4
    have xv := (hvw.ext hu3).ext hu4
    have s1 := (dw wide t.length x).2
    have s2 := (dw high (t.getD x.toNat []).length y).2
    have next : (aw wide t.length x).2 = 0 \/ (aw high (t.getD x.toNat []).length y).2 = 0 -> inK .i64 (y + 1) /\ (Ext u u4 /\ Ext v u4 /\ 0 <= y + 1 /\ y + 1 <= (t.getD x.toNat []).length /\ ∀ k : Nat, k < (y + 1).toNat -> findT t p = some (x.toNat, k) -> (aw wide t.length x.toNat).2 = 0 \/ (aw high (t.getD x.toNat []).length k).2 = 0) /\ (((t.getD x.toNat []).length : Int) - (y + 1)).toNat < (((t.getD x.toNat []).length : Int) - y).toNat := fun hz => by
     refine ⟨by simp only [inK]; omega, ⟨xw, xv, by omega, by omega, fun k hk' hf' => ?_⟩, by omega⟩
     rw [hf] at hf'
     cases hf'
     rw [<- ex, <- ey]
     exact hz
    refine ⟨fun p1 => ⟨fun p2 => ⟨?_, xw⟩, fun p2 => next (.inr (by omega))⟩, fun p1 => next (.inl (by omega))⟩
    rw [CQ hg hf, <- ex, <- ey, if_neg (by omega)]
  ·rcases (by omega : i < x.toNat \/ i = x.toNat) with h | rfl
   ·exact hi i k h hf
   ·exact hk k (by have := (db hf).2.1; omega) hf
 ·cases hf : findT t p with
  | none =>
   unfold whereT
   rw [hf]
  | some z =>
   obtain ⟨i, k⟩ := z
   have hlt := (db hf).1
   rw [CQ hg hf, if_pos (hi i k (by omega) hf)]
theorem ye (a_p : Option Addr) (a_n a_c : Nat) (b_p : Option Addr) (b_n b_c : Nat) {u : World} {l m : List Int} (hl : bY u a_p a_n l) (hm : bY u b_p b_n m) (hb : a_n <= 100000000) :
  Spec Tryz.prog dS #[.slice a_p a_n a_c, .slice b_p b_n b_c] u fun e u' => e = .returned (.bool (decide (l = m))) /\ Ext u u' := by
 apply g7
 delta dQ cnd iI lq
 simp only [Bool.not_eq_true', decide_eq_false_iff_not, Bool.not_eq_false', decide_eq_true_eq]
 refine ⟨fun hne => ⟨by congr; rw [eq_comm, decide_eq_false_iff_not]; rintro rfl; have := hl.2; have := hm.2; omega, Upd.refl _⟩, fun he => ?_⟩
 have hlm : l.length = m.length := by have := hl.2; have := hm.2; omega
 refine ⟨fun x u1 => Ext u u1 /\ 0 <= x /\ x <= a_n /\ ∀ i : Nat, i < x.toNat -> l.getD i 0 = m.getD i 0, fun x _ => (a_n - x).toNat, ⟨Upd.refl _, by omega, by omega, by omega⟩, fun x u1 ⟨hu, h0, h1, hi⟩ => ⟨fun hx => ?_, fun hx => ?_⟩⟩
 ·have hu2 : Ext u (af u1) := hu.drew
  obtain ⟨b, o, hp, hr⟩ := (hl.ext hu2).at (i := x.toNat) (by omega)
  obtain ⟨b1, o1, hp1, hr1⟩ := (hm.ext hu2).at (i := x.toNat) (by omega)
  refine ⟨b, o, hp, h0, hx, _, rfl, hr, b1, o1, hp1, h0, by omega, _, rfl, hr1, fun hne => ⟨?_, hu2⟩, fun heq => ⟨by simp only [inK]; omega, ⟨hu2, by omega, by omega, fun i hi' => ?_⟩, by first | omega | (dsimp only; omega)⟩⟩
  ·congr
   rw [eq_comm, decide_eq_false_iff_not]
   rintro rfl
   exact hne rfl
  ·rcases (by omega : i < x.toNat \/ i = x.toNat) with h | rfl
   ·exact hi i h
   ·exact heq
 ·refine ⟨?_, hu⟩
  congr
  rw [eq_comm, decide_eq_true_eq, CR hlm]
  intro i hi'
  exact hi i (by have := hl.2; omega)
def B9 (a b : aD) : Bool := decide (a = b)
theorem zW {u : World} {p q : Option Addr} {a b : aD} (ha : Tl u p a) (hb : Tl u q b) (c d : Nat) (hl : dO 10000000 a) :
  Spec Tryz.prog eU #[TlV p a c, TlV q b d] u (Told u (B9 a b)) := by
 apply jC
 delta eW jU cnd iI lq
 simp only [decide_eq_true_eq, decide_eq_false_iff_not, true_and, Bool.not_eq_true', Bool.not_eq_false']
 have hu : Ext u (ab (ab u hole) hole) := ((Upd.refl u).alloc _).alloc _
 have hn := hl.n
 have no : ∀ {v : World}, Ext u v -> a ≠ b -> Told u (B9 a b) (.returned (.bool false)) v := fun hv hn => ⟨by unfold B9; rw [decide_eq_false hn], hv⟩
 refine ⟨fun hne => no hu fun h => hne (by rw [h]), fun heq => ?_⟩
 refine ⟨fun x v => Ext u v /\ 0 <= x /\ x <= a.length /\ ∀ i : Nat, i < x.toNat -> a.getD i [] = b.getD i [], fun x _ => (a.length - x).toNat, ⟨hu, Int.le_refl _, by omega, by omega⟩, fun x v ⟨hv, h0, h1, hi⟩ => ⟨fun hx => ?_, fun hx => ⟨?_, hv⟩⟩⟩
 ·have hd : Ext v (af v) := (Upd.refl v).drew
  obtain ⟨b1, o1, q1, c1, hp1, hr1, hn1⟩ := (ha.ext (hv.ext hd)).at (i := x.toNat) (by omega)
  obtain ⟨b2, o2, q2, c2, hp2, hr2, hn2⟩ := (hb.ext (hv.ext hd)).at (i := x.toNat) (by omega)
  have hcl := hl.getD x.toNat
  refine ⟨b1, o1, hp1, h0, hx, _, _, _, rfl, hr1, b2, o2, hp2, h0, by omega, _, _, _, rfl, hr2, (ye q1 _ c1 q2 _ c2 hn1 hn2 (by omega)).mono fun e w ⟨he, hw⟩ => ⟨_, he, fun hf => no ((hv.ext hd).ext hw) fun h => ?_, fun ht => ⟨by simp only [inK]; omega, ⟨(hv.ext hd).ext hw, by omega, by omega, fun i hi' => ?_⟩, by first | omega | (dsimp only; omega)⟩⟩⟩
  ·rw [decide_eq_false_iff_not] at hf
   exact hf (by rw [h])
  ·rw [decide_eq_true_eq] at ht
   rcases (by omega : i < x.toNat \/ i = x.toNat) with h | rfl
   ·exact hi i h
   ·exact ht
 ·unfold B9
  rw [decide_eq_true]
  exact (Cm [] (by omega)).2 fun i hi' => hi i (by omega)
end Go.Proofs.YtkmmphkjmamckacGreatDoor
