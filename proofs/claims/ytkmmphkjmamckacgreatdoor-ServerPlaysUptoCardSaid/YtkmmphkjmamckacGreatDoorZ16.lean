/- Texts joined: PWalk2, DWalk, DWalk2, DAnew, GRef, GCell. -/
import Derived.Test.YtkmmphkjmamckacGreatDoorZ15
import Derived.Test.YtkmmphkjmamckacGreatDoorZ11
namespace Go.Proofs.YtkmmphkjmamckacGreatDoor
open Go
set_option linter.all false
theorem bu.ext {u v u' : World} {pp : Option Addr} {r : Pr × Ev} {e : Ending} (hu : Ext u v) (h : bu v pp r e u') : bu u pp r e u' := by
 obtain ⟨q, n, c, ep, en, ec, h1, h2, h3, h4, h5, h6⟩ := h
 exact ⟨q, n, c, ep, en, ec, h1, h2, h3, hu.any.trans h4 fun _ _ h => h, fun k hk => (h5 k hk).imp id fun h => Nat.le_trans hu.size h, h6⟩
theorem tg {c : Int} (h0 : 0 <= c) (h1 : c <= 255) : aV (iq c) = [.int .u8 c] := by
 unfold aV iq
 simp only [List.map_cons, List.map_nil, List.cons.injEq, Value.int.injEq, true_and, and_true]
 have : (UInt8.ofNat c.toNat).toNat = c.toNat := by
  rw [UInt8.toNat_ofNat']
  omega
 rw [this]
 omega
theorem Hv (pr : Pr) (pp : Option Addr) (pn pc : Nat) (c : Int) {u : World} (h : Own u 1 pp pn pc (bg pr.ps)) (hg : bB pr) (h0 : 0 <= c) (h1 : c <= 255) :
  Spec Tryz.prog qH #[PrV pr pp pn pc, .int .i64 c] u (bu u pp (aC pr c)) := by
 apply rq
 delta qY DT A4 Dd D7 yr Bo cnd iI lq
 have hu : Ext u (ab (ab (ab (ab u hole) hole) hole) hole) := ((((Upd.refl u).alloc _).alloc _).alloc _).alloc _
 have hud := hu.drew
 have hudd := hud.drew
 have hpay := hg.pay
 have aa : ∀ {u1 : World} (q : Pr) (ev : Ev), Ext u u1 -> aC pr c = (q, ev) -> q.ps = pr.ps -> ev.ps = [] -> bu u pp (aC pr c) (.returned (.tuple #[PrV q pp pn pc, EvV ev none 0 0])) u1 := fun q ev hu1 hs hq he => by
  rw [hs]
  exact bu.plain he (by rw [hq]; exact h.ext hu1) hu1.any fun k hk => .inl hk
 have zero : ∀ {u1 : World} (ev : Ev), Ext u u1 -> aC pr c = (.zero, ev) -> ev.ps = [] -> bu u pp (aC pr c) (.returned (.tuple #[.agg #[.int .i64 0, .slice none 0 0, .string (ByteArray.mk #[]), .bool false], EvV ev none 0 0])) u1 := fun ev hu1 hs he => by
  rw [hs]
  exact bu.plain (p := .zero) he (Own.nil _ _) hu1.any fun _ h => (aJ h).elim
 obtain ⟨a, ps, pl, lg⟩ := pr
 have ha0 := hg.lo
 have ha4 := hg.hi
 simp only at ha0 ha4 hpay
 rcases (by omega : a = 0 \/ a = 1 \/ a = 2 \/ a = 3 \/ a = 4) with rfl | rfl | rfl | rfl | rfl
 ·refine ⟨fun _ => ?_, fun h => by simp at h⟩
  have e1 : c = 27 -> aC ⟨0, ps, pl, lg⟩ c = (⟨1, ps, pl, lg⟩, .none) := fun h => by subst h; rfl
  have e2 : 32 <= c -> c < 127 -> aC ⟨0, ps, pl, lg⟩ c = (⟨0, ps, pl, lg⟩, ⟨1, c, [], au⟩) := fun h h' => by
   unfold aC; rw [if_pos rfl, if_neg (by omega), if_pos ⟨h, h'⟩]
  have e3 : ((8 <= c /\ c <= 10) \/ c = 13) -> aC ⟨0, ps, pl, lg⟩ c = (⟨0, ps, pl, lg⟩, ⟨2, c, [], au⟩) := fun h => by
   unfold aC; rw [if_pos rfl, if_neg (by omega), if_neg (by omega), if_pos h]
  have e4 : c ≠ 27 -> ¬ (32 <= c /\ c < 127) -> ¬ ((8 <= c /\ c <= 10) \/ c = 13) -> aC ⟨0, ps, pl, lg⟩ c = (⟨0, ps, pl, lg⟩, .none) := fun h1 h2 h3 => by
   unfold aC; rw [if_pos rfl, if_neg h1, if_neg h2, if_neg h3]
  simp only [decide_eq_true_eq, decide_eq_false_iff_not]
  repeat' (refine And.intro (fun _ => ?_) (fun _ => ?_))
  all_goals first
   | (exfalso; omega)
   | exact aa _ _ hud (e1 (by omega)) rfl rfl
   | exact aa _ _ hu (e2 (by omega) (by omega)) rfl rfl
   | exact aa _ _ hu (e3 (by omega)) rfl rfl
   | exact aa _ _ hud (e4 (by omega) (by omega) (by omega)) rfl rfl
 ·refine ⟨fun h => by simp at h, fun _ => ⟨fun _ => ?_, fun h => by simp at h⟩⟩
  have e1 : c = 27 -> aC ⟨1, ps, pl, lg⟩ c = (⟨1, ps, pl, lg⟩, .none) := fun h => by subst h; rfl
  have e2 : c = 91 -> aC ⟨1, ps, pl, lg⟩ c = (⟨2, [0], pl, lg⟩, .none) := fun h => by subst h; rfl
  have e3 : c = 80 -> aC ⟨1, ps, pl, lg⟩ c = (⟨3, ps, pl, lg⟩, .none) := fun h => by subst h; rfl
  have e4 : c = 99 -> aC ⟨1, ps, pl, lg⟩ c = (⟨0, ps, pl, lg⟩, ⟨5, 0, [], au⟩) := fun h => by subst h; rfl
  have e5 : c ≠ 27 -> c ≠ 91 -> c ≠ 80 -> c ≠ 99 -> aC ⟨1, ps, pl, lg⟩ c = (⟨0, ps, pl, lg⟩, .none) := fun h1 h2 h3 h4 => by
   unfold aC; rw [if_neg (by simp), if_pos rfl, if_neg h1, if_neg h2, if_neg h3, if_neg h4]
  have e2' : c = 91 -> bu u pp (aC ⟨1, ps, pl, lg⟩ c) (.returned (.tuple #[.agg #[.int .i64 2, .slice (some (Addr.mk (ab (ab (ab (ab u hole) hole) hole) hole).heap.size 0 none)) 1 1, .string pl, .bool lg], .agg #[.int .i64 0, .int .i64 0, .slice none 0 0, .string (ByteArray.mk #[])]])) (af (ab (ab (ab (ab (ab u hole) hole) hole) hole) (.cells #[.int .i64 0] aF))) := fun h91 => by
   rw [e2 h91]
   have ef : Own (ab (ab (ab (ab (ab u hole) hole) hole) hole) (.cells #[.int .i64 0] aF)) 1 _ 1 1 [.int .i64 0] := Own.fresh (ab (ab (ab (ab u hole) hole) hole) hole) (cs := [.int .i64 0]) rfl
   refine bu.plain (p := ⟨2, [0], pl, lg⟩) rfl (ef.ext ((Upd.refl _).drew)) ((hu.alloc _).drew).any fun k hk => .inr ?_
   rw [ar hk]
   exact hu.size
  simp only [decide_eq_true_eq, decide_eq_false_iff_not]
  repeat' (refine And.intro (fun _ => ?_) (fun _ => ?_))
  all_goals first
   | (exfalso; omega)
   | exact aa _ _ hud (e1 (by omega)) rfl rfl
   | exact e2' (by omega)
   | exact aa _ _ hud (e3 (by omega)) rfl rfl
   | exact aa _ _ hu (e4 (by omega)) rfl rfl
   | exact aa _ _ hud (e5 (by omega) (by omega) (by omega) (by omega)) rfl rfl
 ·refine ⟨fun h => by simp at h, fun _ => ⟨fun h => by simp at h, fun _ => ⟨fun _ => ?_, fun h => by simp at h⟩⟩⟩
  refine (DL ⟨2, ps, pl, lg⟩ pp pn pc c (h.ext hu) hg rfl h0 h1).mono fun e u1 hp => ?_
  have hp := hp.ext hu
  obtain ⟨q, n, c', ep, en, ec, he, hrest⟩ := hp
  exact ⟨_, _, _, _, _, _, _, _, _, _, _, _, he, q, n, c', ep, en, ec, rfl, hrest⟩
 ·refine ⟨fun h => by simp at h, fun _ => ⟨fun h => by simp at h, fun _ => ⟨fun h => by simp at h, fun _ => ⟨fun _ => ?_, fun h => by simp at h⟩⟩⟩⟩
  have e1 : c = 27 -> aC ⟨3, ps, pl, lg⟩ c = (⟨4, ps, pl, lg⟩, .none) := fun h => by subst h; rfl
  have e2 : c = 24 -> aC ⟨3, ps, pl, lg⟩ c = (.zero, .none) := fun h => by subst h; rfl
  have e3 : 32 <= c -> c < 127 -> 48 <= pl.size -> aC ⟨3, ps, pl, lg⟩ c = (⟨3, ps, pl, true⟩, .none) := fun h h' h'' => by
   unfold aC; rw [if_neg (by simp), if_neg (by simp), if_neg (by simp), if_pos rfl, if_neg (by omega), if_neg (by omega), if_pos ⟨h, h'⟩, if_pos h'']
  have e4 : 32 <= c -> c < 127 -> ¬ 48 <= pl.size -> aC ⟨3, ps, pl, lg⟩ c = (⟨3, ps, pl ++ iq c, lg⟩, .none) := fun h h' h'' => by
   unfold aC; rw [if_neg (by simp), if_neg (by simp), if_neg (by simp), if_pos rfl, if_neg (by omega), if_neg (by omega), if_pos ⟨h, h'⟩, if_neg h'']
  have e5 : c ≠ 27 -> c ≠ 24 -> ¬ (32 <= c /\ c < 127) -> aC ⟨3, ps, pl, lg⟩ c = (⟨3, ps, pl, lg⟩, .none) := fun h h' h'' => by
   unfold aC; rw [if_neg (by simp), if_neg (by simp), if_neg (by simp), if_pos rfl, if_neg h, if_neg h', if_neg h'']
  have e4' : 32 <= c -> c < 127 -> ¬ 48 <= pl.size -> inK .u8 c /\ ∃ s : ByteArray, s.size = 1 /\ Gets (ab (ab (ab (ab (ab u hole) hole) hole) hole) (.cells #[.int .u8 c] sx)) (some (Addr.mk (ab (ab (ab (ab u hole) hole) hole) hole).heap.size 0 none)) (aV s) /\
    ((pl.size + s.size : Nat) : Int) <= 9223372036854775807 /\
    bu u pp (aC ⟨3, ps, pl, lg⟩ c) (.returned (.tuple #[.agg #[.int .i64 3, .slice pp pn pc, .string (pl ++ s), .bool lg], .agg #[.int .i64 0, .int .i64 0, .slice none 0 0, .string (ByteArray.mk #[])]])) (af (ab (ab (ab (ab (ab u hole) hole) hole) hole) (.cells #[.int .u8 c] sx))) := fun h2 h3 h4 => by
   have ef : Own (ab (ab (ab (ab (ab u hole) hole) hole) hole) (.cells #[.int .u8 c] sx)) 1 _ 1 1 [.int .u8 c] := Own.fresh (ab (ab (ab (ab u hole) hole) hole) hole) (cs := [.int .u8 c]) rfl
   refine ⟨by simp only [inK]; omega, iq c, rfl, by rw [tg h0 h1]; exact ef.aH, by rw [rC]; omega, ?_⟩
   exact aa ⟨3, ps, pl ++ iq c, lg⟩ .none (hu.alloc _).drew (e4 h2 h3 h4) rfl rfl
  simp only [decide_eq_true_eq, decide_eq_false_iff_not]
  repeat' (first | exact e4' (by omega) (by omega) (by omega) | refine And.intro (fun _ => ?_) (fun _ => ?_))
  all_goals first
   | (exfalso; omega)
   | exact aa _ _ hud (e1 (by omega)) rfl rfl
   | exact zero .none hud (e2 (by omega)) rfl
   | exact aa _ _ hud (e3 (by omega) (by omega) (by omega)) rfl rfl
   | exact e4' (by omega) (by omega) (by omega)
   | exact aa _ _ hud (e5 (by omega) (by omega) (by omega)) rfl rfl
 ·refine ⟨fun h => by simp at h, fun _ => ⟨fun h => by simp at h, fun _ => ⟨fun h => by simp at h, fun _ => ⟨fun h => by simp at h, fun _ => ⟨fun _ => ?_, fun h => by simp at h⟩⟩⟩⟩⟩
  refine ⟨fun h92 => ⟨fun hl => ?_, fun hl => ?_⟩, fun h92 => ?_⟩
  ·have hs : aC ⟨4, ps, pl, lg⟩ c = (.zero, ⟨4, 0, [], pl⟩) := by
    simp only [Bool.not_eq_true', decide_eq_true_eq] at hl h92
    unfold aC; rw [if_neg (by simp), if_neg (by simp), if_neg (by simp), if_neg (by simp), if_pos rfl, if_pos ⟨h92, hl⟩]
   exact zero ⟨4, 0, [], pl⟩ hud hs rfl
  ·have hs : aC ⟨4, ps, pl, lg⟩ c = (.zero, .none) := by
    simp only [Bool.not_eq_false', decide_eq_true_eq] at hl h92
    unfold aC; rw [if_neg (by simp), if_neg (by simp), if_neg (by simp), if_neg (by simp), if_pos rfl, if_neg (by simp [hl])]
   exact zero .none hudd hs rfl
  ·have hs : aC ⟨4, ps, pl, lg⟩ c = (.zero, .none) := by
    simp only [decide_eq_false_iff_not] at h92
    unfold aC; rw [if_neg (by simp), if_neg (by simp), if_neg (by simp), if_neg (by simp), if_pos rfl, if_neg (by simp [h92])]
   exact zero .none hudd hs rfl
structure xg (u : World) (pr0 : Pr) (s : ByteArray) (lp : Option Addr) (ln lc : Nat) (x : Int) (pr : Pr) (pp : Option Addr) (pn pc : Nat) (evs : List Ev) (xs : List (List Value)) (u1 : World) : Prop where
 uv : bB pr
 lo : 0 <= x
 hi : x <= (s.size : Nat)
 own : Own u1 1 pp pn pc (bg pr.ps)
 list : Own u1 4 lp ln lc xs.flatten
 told : Evs u1 (fun k => k < u1.heap.size /\ ¬ At lp k /\ ¬ At pp k /\ u.heap.size <= k) xs evs
 eq : feedP pr0 s.data.toList = ((feedP pr (s.data.toList.drop x.toNat)).1, evs ++ (feedP pr (s.data.toList.drop x.toNat)).2)
 few : (ln : Int) <= x
 ext : Ext u u1
 Iw : ∀ k, At pp k -> u.heap.size <= k
 Iy : ∀ k, At lp k -> u.heap.size <= k
 apart : ∀ k, At pp k -> ¬ At lp k
theorem mr (s : ByteArray) : s.data.toList.length = s.size := by rw [Array.length_toList]; rfl
def sV (e : Ev) (ep : Option Addr) (en ec : Nat) : List Value := [.int .i64 e.kind, .int .i64 e.b, .slice ep en ec, .string e.pl]
theorem Evs.flat {u : World} {ok : Nat -> Prop} {xs : List (List Value)} {es : List Ev} (h : Evs u ok xs es) : xs.flatten.length = es.length * 4 := by
 rw [jg xs h.each, h.len]
def Cf (u : World) (r : Pr × List Ev) (e : Ending) (u' : World) : Prop :=
 ∃ (q : Option Addr) (n c : Nat) (lp : Option Addr) (ln lc : Nat), e = .returned (.tuple #[PrV r.1 q n c, .slice lp ln lc, .int .i64 0]) /\ bY u' q n r.1.ps /\ EvL u' (fun _ => True) lp ln r.2 /\ Ext u u'
def tw (u : World) (r : Pr × List Ev) (e : Ending) (u' : World) : Prop :=
 ∃ (q : Option Addr) (n c : Nat) (lp : Option Addr) (ln lc : Nat), e = .returned (.tuple #[PrV r.1 q n c, .slice lp ln lc, .int .i64 0]) /\ bY u' q n r.1.ps /\ EvL u' (fun k => u.heap.size <= k) lp ln r.2 /\ ((∀ k, At q k -> u.heap.size <= k) /\ ∀ k, At lp k -> u.heap.size <= k) /\ Ext u u'
theorem tw.post {u u' : World} {r : Pr × List Ev} {e : Ending} (h : tw u r e u') : Cf u r e u' := by
 obtain ⟨q, n, c, lp, ln, lc, h1, h2, h3, _, h5⟩ := h
 obtain ⟨xs, k1, k2⟩ := h3
 exact ⟨q, n, c, lp, ln, lc, h1, h2, ⟨xs, k1, k2.upd (Upd.refl _) (S := fun _ => False) fun _ _ => ⟨fun h => h, trivial⟩⟩, h5⟩
theorem xg.post {u : World} {pr0 : Pr} {s : ByteArray} {lp : Option Addr} {ln lc : Nat} {x : Int} {pr : Pr} {pp : Option Addr} {pn pc : Nat} {evs : List Ev} {xs : List (List Value)} {u1 : World} (h : xg u pr0 s lp ln lc x pr pp pn pc evs xs u1) (hx : x = (s.size : Nat)) :
  tw u (feedP pr0 s.data.toList) (.returned (.tuple #[PrV pr pp pn pc, .slice lp ln lc, .int .i64 0])) u1 := by
 have hd : s.data.toList.drop x.toNat = [] := by
  apply List.drop_eq_nil_of_le
  rw [mr]
  omega
 have heq := h.eq
 rw [hd] at heq
 simp only [feedP, List.append_nil] at heq
 rw [heq]
 refine ⟨pp, pn, pc, lp, ln, lc, rfl, h.own.iG, ⟨xs, ⟨h.list.aH, ?_, h.told.each⟩, h.told.upd (Upd.refl _) (S := fun _ => False) fun _ hk => ⟨fun h => h, hk.2.2.2⟩⟩, ⟨h.Iw, h.Iy⟩, h.ext⟩
 have := h.list.len
 rw [jg xs h.told.each] at this
 omega
theorem drop_cons {l : List UInt8} {i : Nat} {b : UInt8} (h : l[i]? = some b) : l.drop i = b :: l.drop (i + 1) := by
 obtain ⟨hi, rfl⟩ := List.getElem?_eq_some_iff.1 h
 exact List.drop_eq_getElem_cons hi
theorem xg.step {u : World} {pr0 : Pr} {s : ByteArray} {lp : Option Addr} {ln lc : Nat} {x : Int} {pr : Pr} {pp : Option Addr} {pn pc : Nat} {evs : List Ev} {xs : List (List Value)} {u1 : World} (h : xg u pr0 s lp ln lc x pr pp pn pc evs xs u1)
  {b : UInt8} (hb : s.data.toList[x.toNat]? = some b) {e : Ending} {u2 v : World} (hv : Ext u1 v) (hs : bu v pp (aC pr b.toNat) e u2) :
  ∃ q n c ep en ec, e = .returned (.tuple #[PrV (aC pr b.toNat).1 q n c, EvV (aC pr b.toNat).2 ep en ec]) /\ Own u2 4 lp ln lc xs.flatten /\ 
   ((aC pr b.toNat).2.kind = 0 -> xg u pr0 s lp ln lc (x + 1) (aC pr b.toNat).1 q n c evs xs u2) /\
   ((aC pr b.toNat).2.kind ≠ 0 -> ∀ w w' lp' lc', Ext u2 w -> u2.heap.size <= w.heap.size -> Own w' 4 lp' (ln + 1) lc' (xs ++ [sV (aC pr b.toNat).2 ep en ec]).flatten -> Upd (At lp) w w' -> ((lp' = lp) \/ lp' = some ⟨w.heap.size, 0, none⟩) ->
    xg u pr0 s lp' (ln + 1) lc' (x + 1) (aC pr b.toNat).1 q n c (evs ++ [(aC pr b.toNat).2]) (xs ++ [sV (aC pr b.toNat).2 ep en ec]) w') := by
 obtain ⟨q, n, c, ep, en, ec, he, hown, hnums, hupd, hq, hep⟩ := hs
 obtain ⟨hgood, hlo, hhi, hO, hL, hE, heq, hfew, hext, hnP, hnL, hap⟩ := h
 have hlt : x.toNat < s.data.toList.length := (List.getElem?_eq_some_iff.1 hb).1
 have hsz : s.data.toList.length = s.size := mr s
 have hx1 : (x + 1).toNat = x.toNat + 1 := by omega
 have hext2 : Ext u v := hext.ext hv
 have hPv : ∀ k, At pp k -> k < u1.heap.size := fun k hk => (hO.at hk).1
 have hLv : ∀ k, At lp k -> k < u1.heap.size := fun k hk => (hL.at hk).1
 have hvs := hv.size
 have hus := hupd.size
 have hux := hext.size
 have hQ : ∀ k, At q k -> u.heap.size <= k := fun k hk => by
  rcases hq k hk with h | h
  ·exact hnP k h
  ·omega
 have hQL : ∀ k, At q k -> ¬ At lp k := fun k hk hl => by
  rcases hq k hk with h | h
  ·exact hap k h hl
  ·have := hLv k hl; omega
 have hE2 : Evs u2 (fun k => k < u1.heap.size /\ ¬ At lp k /\ ¬ At pp k /\ u.heap.size <= k) xs evs := (hE.upd hv (ok' := fun k => k < u1.heap.size /\ ¬ At lp k /\ ¬ At pp k /\ u.heap.size <= k) fun k hk => ⟨fun h => h, hk⟩).upd hupd fun k hk => ⟨hk.2.2.1, hk⟩
 have hL2 : Own u2 4 lp ln lc xs.flatten := (hL.ext hv).upd hupd fun k hk hp => hap k hp hk
 have hext3 : Ext u u2 := (hext2.trans hupd fun k hk hp => by have := hnP k hp; omega).mono fun _ _ h => h
 have hokQ : ∀ k, k < u1.heap.size /\ ¬ At lp k /\ ¬ At pp k /\ u.heap.size <= k -> ¬ At q k := fun k hk hqk => by
  rcases hq k hqk with h | h
  ·exact hk.2.2.1 h
  ·have := hk.1; omega
 have hf : feedP pr0 s.data.toList = ((feedP (aC pr b.toNat).1 (s.data.toList.drop (x + 1).toNat)).1, (evs ++ (if (aC pr b.toNat).2.kind = 0 then [] else [(aC pr b.toNat).2])) ++ (feedP (aC pr b.toNat).1 (s.data.toList.drop (x + 1).toNat)).2) := by
  rw [heq, drop_cons hb, hx1]
  simp only [feedP, List.append_assoc]
 refine ⟨q, n, c, ep, en, ec, he, hL2, fun hk => ?_, fun hk w w' lp' lc' hw hws hOw hUw hlp => ?_⟩
 ·rw [if_pos hk, List.append_nil] at hf
  exact ⟨kC hgood, by omega, by omega, hown, hL2, hE2.upd (Upd.refl _) (S := fun _ => False) fun k hk => ⟨fun h => h, by omega, hk.2.1, hokQ k hk, hk.2.2.2⟩, hf, by omega, hext3, hQ, hnL, hQL⟩
 ·rw [if_neg hk] at hf
  have hww := hUw.size
  have hw1 := hw.size
  have hlp' : ∀ k, k < w.heap.size -> At lp' k -> At lp k := fun k hk hl => by
   rcases hlp with rfl | rfl
   ·exact hl
   ·have := ar hl; simp only at this; omega
  have hok : ∀ k, k < u1.heap.size /\ ¬ At lp k /\ ¬ At pp k /\ u.heap.size <= k -> k < w'.heap.size /\ ¬ At lp' k /\ ¬ At q k /\ u.heap.size <= k := fun k hk => ⟨by have := hk.1; omega, fun h => hk.2.1 (hlp' k (by have := hk.1; omega) h), hokQ k hk, hk.2.2.2⟩
  have hEw : Evs w' (fun k => k < w'.heap.size /\ ¬ At lp' k /\ ¬ At q k /\ u.heap.size <= k) xs evs := (hE2.upd hw (ok' := fun k => k < u1.heap.size /\ ¬ At lp k /\ ¬ At pp k /\ u.heap.size <= k) fun k hk => ⟨fun h => h, hk⟩).upd hUw fun k hk => ⟨hk.2.1, hok k hk⟩
  refine ⟨kC hgood, by omega, by omega, (hown.ext hw).upd hUw hQL, hOw, hEw.snoc ⟨ep, en, ec, rfl, (hnums.ext hw).upd hUw fun k hk => hap k (hep k hk).1, fun k hk => ⟨by have := hPv k (hep k hk).1; omega, fun h => hap k (hep k hk).1 (hlp' k (by have := hPv k (hep k hk).1; omega) h), (hep k hk).2, hnP k (hep k hk).1⟩⟩, hf, by omega, ?_, hQ, ?_, fun k hk hl => ?_⟩
  ·exact ((hext3.ext hw).trans hUw fun k hk hl => by have := hnL k hl; omega).mono fun _ _ h => h
  ·intro k hl
   rcases hlp with rfl | rfl
   ·exact hnL k hl
   ·rw [ar hl]; have := hext3.size; simp only; omega
  ·rcases Nat.lt_or_ge k w.heap.size with h | h
   ·exact hQL k hk (hlp' k h hl)
   ·rcases hq k hk with h2 | h2
    ·have := hPv k h2; omega
    ·have := (hown.at hk).1; omega
theorem BC (pr : Pr) (pp : Option Addr) (pn pc : Nat) (s : ByteArray) {u : World} (h : bY u pp pn pr.ps) (hs : s.size <= 4194304) :
  Spec Tryz.prog l7 #[PrV pr pp pn pc, .string s] u fun e u' => (bB pr /\ tw u (feedP pr s.data.toList) e u') \/ (¬ bB pr /\ e = .returned (.tuple #[PrV pr pp pn pc, .slice none 0 0, .int .i64 1]) /\ Ext u u') := by
 apply rF
 delta qS nt cnd iI lq
 have hu : Ext u (ab (ab u hole) hole) := ((Upd.refl u).alloc _).alloc _
 refine (GU pr pp pn pc (h.ext hu)).mono fun e u1 ⟨g, he, hg, hu1⟩ => ⟨g, he, fun hn => .inr ⟨?_, rfl, hu.ext hu1⟩, fun hn => ?_⟩
 ·intro h
  rw [hg.2 h] at hn
  cases hn
 have hgood : bB pr := hg.1 (by simpa using hn)
 have hu2 := hu.ext hu1
 have hlen := hgood.len
 have hpn := h.2
 refine (Cd pp pn pc (h.ext hu2) (by omega)).mono fun e u2 ⟨q, c, he, ho, hu3, hq⟩ => ⟨q, pn, c, he, ?_⟩
 have hu4 := hu2.ext hu3
 refine ⟨fun lp ln lc x at_ pp' pn' pc' pl fA u1 => ∃ ps evs xs, xg u pr s lp ln lc x ⟨at_, ps, pl, fA⟩ pp' pn' pc' evs xs u1, fun _ _ _ x _ _ _ _ _ _ _ => ((s.size : Nat) - x).toNat, ⟨rfl, pr.ps, [], [], hgood, by omega, by omega, ho, Own.nil _ _, trivial, by simp, by omega, hu4, fun k hk => Nat.le_trans hu2.size (hq k hk), fun _ h => (aJ h).elim, fun _ _ h => aJ h⟩, ?_⟩
 intro lp ln lc x at_ pp' pn' pc' pl fA
 refine ⟨rfl, fun u5 ⟨ps, evs, xs, hI⟩ => ⟨fun hx => ?_, fun hx => ?_⟩⟩
 ·have hx' : x < (s.size : Nat) := by simpa using hx
  have h0 := hI.lo
  have hin : x.toNat < s.data.toList.length := by
   have := mr s
   omega
  have hb : s.data.toList[x.toNat]? = some (s.data.toList[x.toNat]) := List.getElem?_eq_getElem hin
  generalize s.data.toList[x.toNat] = b at hb
  have hb255 : b.toNat < 256 := b.toNat_lt
  refine ⟨h0, b, hb, by simp only [inK]; omega, ?_⟩
  have hv : Ext u5 (af (ab u5 hole)) := ((Upd.refl u5).alloc _).drew
  refine (Hv ⟨at_, ps, pl, fA⟩ pp' pn' pc' b.toNat (hI.own.ext hv) hI.uv (by omega) (by omega)).mono fun e u6 hs' => ?_
  obtain ⟨q, n, c, ep, en, ec, he, hL, hz, hnz⟩ := hI.step hb hv hs'
  generalize aC ⟨at_, ps, pl, fA⟩ b.toNat = r at *
  refine ⟨_, _, _, _, _, _, _, _, _, _, _, _, he, fun hk => ?_, fun hk => ?_⟩
  ·have hk' : r.2.kind ≠ 0 := by simpa using hk
   have hw : Ext u6 (ab u6 (.cells #[.int .i64 r.2.kind, .int .i64 r.2.b, .slice ep en ec, .string r.2.pl] gX)) := (Upd.refl u6).alloc _
   have hLw := hL.ext hw
   have ef : Own (ab u6 (.cells #[.int .i64 r.2.kind, .int .i64 r.2.b, .slice ep en ec, .string r.2.pl] gX)) 4 _ 1 1 [.int .i64 r.2.kind, .int .i64 r.2.b, .slice ep en ec, .string r.2.pl] := Own.fresh u6 (cs := [.int .i64 r.2.kind, .int .i64 r.2.b, .slice ep en ec, .string r.2.pl]) rfl
   have hfew := hI.few
   refine ⟨xs.flatten, _, hLw.len, hLw.aH, rfl, ef.aH, by decide, by omega, by simp [okCells], fun hc => hLw.wrs (by omega), fun p' cap u7 hr => ?_⟩
   obtain ⟨h1, h2, h3⟩ := hLw.app hr hLw.len hLw.aH rfl rfl
   refine ⟨by simp only [inK]; omega, rfl, ⟨r.1.ps, _, _, hnz hk' _ _ p' cap hw hw.size ?_ h2 (h3.imp (fun h => h.1) fun h => h.1)⟩, rfl, by dsimp only; omega⟩
   rw [List.flatten_append]
   simpa [sV] using h1
  ·have hk' : r.2.kind = 0 := by simpa using hk
   exact ⟨by simp only [inK]; omega, rfl, ⟨r.1.ps, _, _, hz hk'⟩, rfl, by dsimp only; omega⟩
 ·have hx' : ¬ x < (s.size : Nat) := by simpa using hx
  exact .inl ⟨hgood, hI.post (by have := hI.hi; omega)⟩
theorem Hz (pr : Pr) (pp : Option Addr) (pn pc : Nat) (s : ByteArray) {u : World} (h : bY u pp pn pr.ps) (hs : s.size <= 4194304) :
  Spec Tryz.prog l7 #[PrV pr pp pn pc, .string s] u fun e u' => (bB pr /\ Cf u (feedP pr s.data.toList) e u') \/ (¬ bB pr /\ e = .returned (.tuple #[PrV pr pp pn pc, .slice none 0 0, .int .i64 1]) /\ Ext u u') :=
 (BC pr pp pn pc s h hs).mono fun _ _ h => h.imp (fun h => ⟨h.1, h.2.post⟩) id
def bsV (s : Bs) : List Value := s.map fun b => .int .u8 b.toNat
theorem EG (s : Bs) : (bsV s).length = s.length := List.length_map ..
theorem Ds (a b : Bs) : bsV (a ++ b) = bsV a ++ bsV b := List.map_append ..
theorem H7 (s : Bs) : okCells (bsV s) True := by
 rw [bm]
 refine ⟨fun c hc => ?_, trivial⟩
 obtain ⟨i, _, rfl⟩ := List.mem_map.1 hc
 rfl
structure Pen (N : Nat) (F : Nat -> Prop) (u : World) (b : Nat) (x : Gr × Bs) : Prop where
 ex : ∃ gp gc op oc, Blk u b (grV x.1 gp x.1.cells.length gc ++ [.slice op x.2.length oc]) /\ Cells u gp x.1.cells /\ (∀ k, At gp k -> k ≠ b /\ ¬ At op k /\ k < u.heap.size /\ (F k \/ N <= k)) /\ Own u 1 op x.2.length oc (bsV x.2) /\ ∀ k, At op k -> k ≠ b /\ N <= k
 new : N <= b
theorem Pen.ext {N : Nat} {F : Nat -> Prop} {u u' : World} {b : Nat} {x : Gr × Bs} (h : Pen N F u b x) (hu : Ext u u') : Pen N F u' b x := by
 obtain ⟨gp, gc, op, oc, h1, h2, h3, h4, h5⟩ := h.ex
 exact ⟨⟨gp, gc, op, oc, h1.ext hu, h2.ext hu, fun k hk => ⟨(h3 k hk).1, (h3 k hk).2.1, by have := (h3 k hk).2.2.1; have := hu.size; omega, (h3 k hk).2.2.2⟩, h4.ext hu, h5⟩, h.new⟩
structure tC (N : Nat) (F : Nat -> Prop) (u : World) (b : Nat) (x : Gr × Bs) (e : Ending) (u' : World) : Prop where
 e : e = .returned (.tuple #[])
 pen : Pen N F u' b x
 upd : Upd (fun k => N <= k) u u'
theorem rW : ∀ (l : List UInt8) (p : Pr), bB p -> ∀ e ∈ (feedP p l).2, e.pl.size <= 48
 | [], _, _, _, he => by simp [feedP] at he
 | b :: l, p, h, e, he => by
  have hl := h.pay
  have key : ∀ c, (aC p c).2.pl.size <= 48 := fun c => by
   unfold aC lA
   repeat' split
   all_goals first | exact hl | exact Nat.zero_le _
  simp only [feedP, List.mem_append] at he
  rcases he with he | he
  ·split at he
   ·simp at he
   ·simp only [List.mem_singleton] at he
    rw [he]
    exact key _
  ·exact rW l _ (kC h) e he
theorem pA {N : Nat} {F : Nat -> Prop} {u : World} {b : Nat} {g : Gr} {out : Bs} (h : Pen N F u b (g, out)) {s : ByteArray} {l : Bs} (hsl : s.data.toList = l) (hs : l.length <= 1000) (ho : out.length <= 1000000) (hl : g.cells.length <= 10000000) (hn : 0 < (wrD (g, out) l).1.cells.length) :
  Spec Tryz.prog gU #[.pointer (some ⟨b, 0, none⟩), .string s] u (tC N F u b (wrD (g, out) l)) := by
 obtain ⟨gp, gc, op, oc, h1, h2, h3, h4, h5⟩ := h.ex
 dsimp only at h1 h2 h4
 have hsz : s.size = l.length := by rw [<- hsl]; rfl
 apply nk
 delta lN cnd iI lq
 refine (Hz .zero none 0 0 s (u := u) ⟨rfl, rfl⟩ (by omega)).mono fun e u1 he => ?_
 rcases he with ⟨_, q, n, c, lp, ln, lc, he, _, hev, hu1⟩ | ⟨hbad, _⟩
 case inr => exact (hbad bB.zero).elim
 rw [hsl] at hev he
 obtain ⟨xs, hA, hE⟩ := hev
 have hln : ln = (feedP .zero l).2.length := by rw [<- hE.len, hA.len]
 subst hln
 have ha : Ext u1 (ab u1 hole) := (Upd.refl _).alloc _
 have x1 := hu1.ext ha
 have B1 := h1.ext x1
 refine ⟨_, _, _, _, _, _, _, _, _, _, he, _, _, _, _, _, _, _, _, _, _, _, rfl, B1.dL (n := 9) rfl, ?_⟩
 have hfl := sL l .zero
 refine (Cr (h2.ext x1) gc hl (ok := fun _ => True) (EvL.ext ⟨xs, hA, hE⟩ ha) lc (by omega) (fun e he => ⟨by have := tz _ _ bB.zero e he; omega, by have := rW _ _ bB.zero e he; omega⟩)).mono fun e u2 ⟨⟨p2, c2, he, hc2, hfar, _⟩, hu2⟩ => ⟨_, _, _, _, _, _, _, _, _, _, _, _, he, rfl, ?_⟩
 have x2 := x1.ext hu2
 have B2 := h1.ext x2
 have hw : (allG g (feedP .zero l).2).1 = (wrD (g, out) l).1 := rfl
 have hw2 : (wrD (g, out) l).2 = out ++ l := rfl
 rw [hw] at hc2 ⊢
 generalize hg' : (wrD (g, out) l).1 = g' at *
 have hp2 : ∀ k, At p2 k -> k ≠ b /\ ¬ At op k /\ k < u2.heap.size /\ (F k \/ N <= k) := fun k hk => by
  have hlt := hc2.lt hn hk
  rcases hfar k hk with h7 | h7
  ·exact ⟨(h3 k h7).1, (h3 k h7).2.1, hlt, (h3 k h7).2.2.2⟩
  ·have hb1 := h1.lt
   have hx := x1.size
   refine ⟨by omega, fun hat => ?_, hlt, .inr (by have := h.new; omega)⟩
   have := (h4.at hat).1
   omega
 have O2 := h4.ext x2
 have P2 : putN (grV g gp g.cells.length gc ++ [.slice op out.length oc]) 0 (grV g' p2 g'.cells.length c2) = some (grV g' p2 g'.cells.length c2 ++ [.slice op out.length oc]) := rfl
 have W2 := B2.oF P2
 have B3 := B2.putAt P2
 refine ⟨W2, _, _, _, rfl, B3.dL (n := 1) rfl, ?_⟩
 have O3 : Own (ae u2 b (0 + 0) (grV g' p2 g'.cells.length c2)) 1 op out.length oc (bsV out) := O2.upd (aI b _ _) fun k hk => (h5 k hk).1
 have C3 : Cells (ae u2 b (0 + 0) (grV g' p2 g'.cells.length c2)) p2 g'.cells := hc2.upd (aI b _ _) fun k hk => (hp2 k hk).1
 refine ⟨bsV out, aV s, by rw [EG]; omega, O3.aH, by rw [<- hsl] at hsz; show (s.data.toList.map _).length = _; rw [List.length_map]; omega, ⟨rfl, rfl⟩, by decide, by omega, by have := H7 l; rw [<- hsl] at this; exact this, fun hc => O3.wrs (by omega), fun p' cap u3 hr => ?_⟩
 have hb : aV s = bsV l := by rw [<- hsl]; rfl
 rw [hb] at hr
 obtain ⟨a1, a2, a3⟩ := O3.app hr O3.len O3.aH (by rw [EG]; omega) rfl
 rw [<- Ds, hsz] at a1
 have B4 : Blk u3 b (grV g' p2 g'.cells.length c2 ++ [.slice op out.length oc]) := B3.upd a2 fun hat => (h5 b hat).1 rfl
 have P4 : putN (grV g' p2 g'.cells.length c2 ++ [.slice op out.length oc]) 9 [.slice p' (out.length + s.size) cap] = some (grV g' p2 g'.cells.length c2 ++ [.slice p' (out.length + s.size) cap]) := rfl
 have hs2 : (ae u2 b (0 + 0) (grV g' p2 g'.cells.length c2)).heap.size ≥ u2.heap.size := (aI _ _ _).size
 have hsz2 := x2.size
 have hsz3 := a2.size
 have hp' : ∀ k, At p' k -> k ≠ b /\ N <= k /\ ¬ At p2 k := fun k hk => by
  rcases a3 with ⟨rfl, _⟩ | ⟨rfl, _⟩
  ·exact ⟨(h5 k hk).1, (h5 k hk).2, fun hat => (hp2 k hat).2.1 hk⟩
  ·have hk := ar hk
   simp only at hk
   have hb1 := h1.lt
   have := h.new
   exact ⟨by omega, by omega, fun hat => by have := (hp2 k hat).2.2.1; omega⟩
 refine ⟨rfl, B4.oF P4, rfl, ⟨⟨p2, c2, p', cap, ?_, ?_, ?_, ?_, ?_⟩, h.new⟩, ?_⟩
 ·have := B4.putAt P4
  rw [hsz] at this ⊢
  rw [hw2, List.length_append, hg']
  exact this
 ·rw [hg']
  exact (C3.upd a2 fun k hk => (hp2 k hk).2.1).upd (aI b _ _) fun k hk => (hp2 k hk).1
 ·intro k hk
  have := hp2 k hk
  refine ⟨this.1, fun hat => (hp' k hat).2.2 hk, ?_, this.2.2.2⟩
  have := (aI (u := u3) b (0 + 9) [Value.slice p' (out.length + s.size) cap]).size
  omega
 ·rw [hw2, List.length_append]
  exact a1.upd (aI b _ _) fun k hk => (hp' k hk).1
 ·exact fun k hk => ⟨(hp' k hk).1, (hp' k hk).2.1⟩
 ·have hN := h.new
  exact ((((x2.any (S := fun k => N <= k)).put (fun _ => hN) _ _).trans a2 fun k _ hk => (h5 k hk).2)).put (fun _ => hN) _ _
theorem bD (s : Bs) : (aW s).size = s.length := by simp [aW, ByteArray.size]
theorem tC.same {N : Nat} {F : Nat -> Prop} {u u' : World} {b : Nat} {x : Gr × Bs} (h : Pen N F u b x) (hu : Ext u u') : tC N F u b x (.returned (.tuple #[])) u' := ⟨rfl, h.ext hu, hu.any⟩
theorem Ez {N : Nat} {F : Nat -> Prop} {u : World} {b : Nat} {g : Gr} {out : Bs} (h : Pen N F u b (g, out)) (hg : ao g) {r c : Int} (hr : 0 <= r /\ r < g.high) (hc : 0 <= c /\ c < g.wide) (ho : out.length <= 1000000) :
  Spec Tryz.prog mN #[.pointer (some ⟨b, 0, none⟩), .int .i64 r, .int .i64 c] u (tC N F u b (nY (g, out) r c)) := by
 obtain ⟨gp, gc, op, oc, h1, h2, h3, h4, h5⟩ := h.ex
 dsimp only at h1 h2 h4
 apply oG
 delta mw Bp cnd iI lq
 simp only [decide_eq_true_eq, decide_eq_false_iff_not, Bool.not_eq_true', Bool.not_eq_false']
 have hh := hg.h2
 have hw := hg.w2
 have hlen := iH hg
 have hfew := aK hg
 have hpos : 0 < g.cells.length := by
  have := hg.h1
  have := hg.w1
  have h1 : 1 <= g.high.toNat := by omega
  have h2 : 1 <= g.wide.toNat := by omega
  have := Nat.mul_le_mul h1 h2
  omega
 refine ⟨g.row, rfl, h1.dL (n := 1) rfl, fun hne => ?_, fun heq => ⟨g.col, rfl, h1.dL (n := 1) rfl, fun hne => ?_, fun heq2 => ?_⟩⟩
 rotate_left 2
 ·have : nY (g, out) r c = (g, out) := by unfold nY; rw [if_neg (fun hh => hh.elim (fun h7 => h7 heq) fun h7 => h7 heq2)]
  rw [this]
  exact tC.same h (Upd.refl _)
 have hm : nY (g, out) r c = wrD (g, out) (dB r c) := by unfold nY; rw [if_pos (.inl hne)]
 rotate_left 1
 have hm : nY (g, out) r c = wrD (g, out) (dB r c) := by unfold nY; rw [if_pos (.inr hne)]
 all_goals
  rw [hm]
  have d1 := qp (r + 1)
  have d2 := qp (c + 1)
  have z1 : (ByteArray.mk #[27, 91]).size = 2 := rfl
  have z2 : (ByteArray.mk #[59]).size = 1 := rfl
  have z3 : (ByteArray.mk #[72]).size = 1 := rfl
  refine ⟨by simp only [inK]; omega, (v7 (i := r + 1) (by omega) (by omega)).mono fun e u1 ⟨he, hu1⟩ => ⟨_, he, by rw [bD]; omega, by simp only [ByteArray.size_append, bD]; omega, by simp only [inK]; omega, ?_⟩⟩
  refine (v7 (i := c + 1) (by omega) (by omega)).mono fun e u2 ⟨he, hu2⟩ => ⟨_, he, by simp only [ByteArray.size_append, bD]; omega, by simp only [ByteArray.size_append, bD]; omega, ?_⟩
  have x2 := hu1.ext hu2
  refine (pA (h.ext x2) (l := dB r c) (by simp [dB, ByteArray.data_append, aZ]) (by have := qZ r c; omega) (by omega) (by omega) (by rw [me (tT hg hr hc)]; exact hpos)).mono fun e u3 h7 => ⟨h7.e, rfl, h7.pen, (x2.any).trans h7.upd fun _ _ h => h⟩
theorem Ii {N : Nat} {F : Nat -> Prop} {u : World} {b : Nat} {g : Gr} {out : Bs} (h : Pen N F u b (g, out)) (hg : ao g) {k : Cl} (hk0 : 0 <= k.ink) (hk1 : k.ink <= 8) (ho : out.length <= 1000000) :
  Spec Tryz.prog og #[.pointer (some ⟨b, 0, none⟩), .agg #[.int .i64 k.ch, .int .i64 k.ink, .int .i64 k.pic, .bool k.bold]] u (tC N F u b (yI (g, out) k)) := by
 obtain ⟨gp, gc, op, oc, h1, h2, h3, h4, h5⟩ := h.ex
 dsimp only at h1 h2 h4
 apply oZ
 delta nV As cnd iI lq
 simp only [decide_eq_true_eq, decide_eq_false_iff_not, Bool.not_eq_true', Bool.not_eq_false', beq_iff_eq, beq_eq_false_iff_ne]
 have hd : Ext u (af (ab u hole)) := ((Upd.refl u).alloc _).drew
 have B := h1.ext hd
 have hfew := aK hg
 have hlen := iH hg
 have hpos : 0 < g.cells.length := by
  have := hg.h1
  have := hg.w1
  have h1 : 1 <= g.high.toNat := by omega
  have h2 : 1 <= g.wide.toNat := by omega
  have := Nat.mul_le_mul h1 h2
  omega
 have d1 := qp (29 + k.ink)
 have z1 : (ByteArray.mk #[27, 91, 48]).size = 3 := rfl
 have z2 : (ByteArray.mk #[59, 49]).size = 2 := rfl
 have z3 : (ByteArray.mk #[59]).size = 1 := rfl
 have z4 : (ByteArray.mk #[109]).size = 1 := rfl
 have wr : ∀ {v : World} {s : ByteArray}, Ext u v -> s.data.toList = cR k -> Spec Tryz.prog gU #[.pointer (some ⟨b, 0, none⟩), .string s] v fun e u' => e = .returned (.tuple #[]) /\ tC N F u b (wrD (g, out) (cR k)) (.returned (.tuple #[])) u' := fun hv hs =>
  (pA (h.ext hv) hs (by have := sM k; omega) (by omega) (by omega) (by rw [me (wZ hg hk0 hk1)]; exact hpos)).mono fun e u3 h7 => ⟨h7.e, rfl, h7.pen, (hv.any).trans h7.upd fun _ _ h => h⟩
 refine ⟨g.ink, rfl, B.dL (n := 1) rfl, fun h7 => ⟨g.bold, rfl, B.dL (n := 1) rfl, fun h8 => ?_, fun h8 => ?_⟩, fun h7 => ?_⟩
 ·have : yI (g, out) k = (g, out) := by unfold yI; rw [if_pos ⟨h7, h8⟩]
  rw [this]
  exact tC.same h hd
 have hm : yI (g, out) k = wrD (g, out) (cR k) := by unfold yI; rw [if_neg (fun hh => h8 hh.2)]
 rotate_left 1
 have hm : yI (g, out) k = wrD (g, out) (cR k) := by unfold yI; rw [if_neg (fun hh => h7 hh.1)]
 all_goals
  rw [hm]
  refine ⟨fun hb => ⟨by omega, fun hi => ⟨by simp only [inK]; omega, ?_⟩, fun hi => ⟨by simp only [ByteArray.size_append]; omega, wr hd ?_⟩⟩, fun hb => ⟨fun hi => ⟨by simp only [inK]; omega, ?_⟩, fun hi => ⟨by omega, wr hd ?_⟩⟩⟩
  ·refine (v7 (i := 29 + k.ink) (by omega) (by omega)).mono fun e u1 ⟨he, hu1⟩ => ⟨_, he, by rw [bD]; omega, by simp only [ByteArray.size_append, bD]; omega, by simp only [ByteArray.size_append, bD]; omega, wr (hd.ext hu1) ?_⟩
   simp [cR, ByteArray.data_append, aZ, hb, hi]
  ·simp [cR, ByteArray.data_append, hb, hi]
  ·refine (v7 (i := 29 + k.ink) (by omega) (by omega)).mono fun e u1 ⟨he, hu1⟩ => ⟨_, he, by rw [bD]; omega, by simp only [ByteArray.size_append, bD]; omega, by simp only [ByteArray.size_append, bD]; omega, wr (hd.ext hu1) ?_⟩
   simp [cR, ByteArray.data_append, aZ, hb, hi]
  ·simp [cR, ByteArray.data_append, hb, hi]
theorem xR {g : Gr} (hg : ao g) : 0 < g.cells.length := by
 have hlen := iH hg
 have := hg.h1
 have := hg.w1
 have h1 : 1 <= g.high.toNat := by omega
 have h2 : 1 <= g.wide.toNat := by omega
 have := Nat.mul_le_mul h1 h2
 omega
theorem wP (u : World) (cs : List Value) (t : TypeId) : Gets (ab u (.cells cs.toArray t)) (some ⟨u.heap.size, 0, none⟩) cs := (Own.fresh u (cs := cs) (n := cs.length) (es := 1) (by omega)).aH
theorem vj {n : Int} (h0 : 0 <= n) (h1 : n <= 255) : aV (aW [fl n]) = [.int .u8 n] := by
 have := qo h0 h1
 show ((aW [fl n]).data.toList.map fun b => Value.int .u8 b.toNat) = _
 rw [aZ]
 simp [this]
theorem Hy {N : Nat} {F : Nat -> Prop} {u : World} {b : Nat} {g : Gr} {out : Bs} (h : Pen N F u b (g, out)) (hg : ao g) {r c : Int} (hr : 0 <= r /\ r < g.high) (hc : 0 <= c /\ c < g.wide) {k : Cl} (hk : cG k = true) (ho : out.length <= 100000) :
  Spec Tryz.prog mv #[.pointer (some ⟨b, 0, none⟩), .int .i64 r, .int .i64 c, .agg #[.int .i64 k.ch, .int .i64 k.ink, .int .i64 k.pic, .bool k.bold]] u (tC N F u b (zx (g, out) r c k)) := by
 apply oJ
 delta mF cnd iI lq
 simp only [decide_eq_true_eq, decide_eq_false_iff_not, true_and]
 have hu : Ext u (ab u hole) := (Upd.refl u).alloc _
 have hfew := aK hg
 have hpos := xR hg
 obtain ⟨s, hm, _, hs, _⟩ := xr (out := out) hg hr hc
 have hg1 : ao { g with row := r, col := c } := hg.with rfl hg.all hr ⟨hc.1, by omega⟩ ⟨hg.i1, hg.i2⟩ ⟨hg.t1, hg.t2, hg.b2⟩
 refine (Ez (h.ext hu) hg hr hc (by omega)).mono fun e u1 ⟨he, hp, hu1⟩ => ⟨he, ?_⟩
 have x1 : Upd (fun k => N <= k) u u1 := (hu.any).trans hu1 fun _ _ h => h
 unfold zx
 simp only [hm]
 rw [hm] at hp
 rcases vi hk with ⟨h1, h2, h3⟩ | ⟨h1, h2, h3⟩ | ⟨h1, h2, h3, h4, h5, h6, h7⟩
 ·rw [if_pos h1]
  refine ⟨fun _ => ⟨by simp only [inK]; omega, by simp only [inK]; omega, by simp only [inK]; omega, aW [fl (97 + k.pic - 1)], by rw [bD]; rfl, ?_, by rw [bD]; show ((2 + 1 : Nat) : Int) <= _; omega, by rw [ByteArray.size_append, bD]; show ((2 + 1 + 2 : Nat) : Int) <= _; omega, ?_⟩, fun hn => (hn h1).elim⟩
  ·rw [vj (by omega) (by omega)]
   exact wP u1 [.int .u8 (97 + k.pic - 1)] _
  ·have ha : Ext u1 (ab u1 (.cells #[.int .u8 (97 + k.pic - 1)] sx)) := (Upd.refl _).alloc _
   refine (pA (hp.ext ha) (l := eL k) (by simp [eL, ByteArray.data_append, aZ]) (by simp [eL]) (by rw [List.length_append]; omega) (by show g.cells.length <= _; omega) (by rw [me (CU hg1 hc.2 h1 h2)]; show 0 < (g.cells.set _ _).length; rw [List.length_set]; exact hpos)).mono fun e u2 h8 => ⟨h8.e, rfl, h8.pen, (x1.ext ha).trans h8.upd fun _ _ h => h⟩
 ·rw [if_neg (by omega), if_pos h2]
  refine ⟨fun hn => by omega, fun _ => ⟨fun _ => ?_, fun hn => (hn h2).elim⟩⟩
  exact (pA hp (l := [27, 91, 75]) rfl (by simp) (by rw [List.length_append]; omega) (by show g.cells.length <= _; omega) (by rw [me (xe hg1 hc.2)]; show 0 < (cY _ _ g.cells).length; rw [bO]; exact hpos)).mono fun e u2 h8 => ⟨h8.e, rfl, h8.pen, x1.trans h8.upd fun _ _ h => h⟩
 ·rw [if_neg (by omega), if_neg h2]
  obtain ⟨s2, he2, hrun2, hs2⟩ := Ef (out := out ++ s) hg1 h5 h6
  have hg2 : ao { g with row := r, col := c, ink := k.ink, bold := k.bold } := hg.with rfl hg.all hr ⟨hc.1, by omega⟩ ⟨h5, h6⟩ ⟨hg.t1, hg.t2, hg.b2⟩
  refine ⟨fun hn => by omega, fun _ => ⟨fun hn => (h2 hn).elim, fun _ => ?_⟩⟩
  refine (Ii hp hg1 h5 h6 (by rw [List.length_append]; omega)).mono fun e u2 ⟨he, hp2, hu2⟩ => ⟨he, by simp only [inK]; omega, aW [fl k.ch], by rw [bD]; rfl, ?_, ?_⟩
  ·rw [vj (by omega) (by omega)]
   exact wP u2 [.int .u8 k.ch] _
  ·have ha : Ext u2 (ab u2 (.cells #[.int .u8 k.ch] sx)) := (Upd.refl _).alloc _
   rw [he2] at hp2 ⊢
   exact (pA (hp2.ext ha) (l := [fl k.ch]) (aZ _) (by simp) (by simp only [List.length_append]; omega) (by show g.cells.length <= _; omega) (by rw [me (zf hg2 hc.2 h3 h4)]; show 0 < (g.cells.set _ _).length; rw [List.length_set]; exact hpos)).mono fun e u3 h8 => ⟨h8.e, rfl, h8.pen, ((x1.trans hu2 fun _ _ h => h).ext ha).trans h8.upd fun _ _ h => h⟩
structure EI (u : World) (frm to : Gr) (fp : Option Addr) (fc : Nat) (e : Ending) (u' : World) : Prop where
 no : ¬ iX frm to -> e = .returned (.tuple #[.string (ByteArray.mk #[]), GrV frm fp frm.cells.length fc, .int .i64 1])
 yes : iX frm to -> ∃ gp gc, e = .returned (.tuple #[.string (aW (bV frm to).2), GrV (bV frm to).1 gp (bV frm to).1.cells.length gc, .int .i64 0]) /\ Cells u' gp (bV frm to).1.cells /\ ∀ k, At gp k -> At fp k \/ u.heap.size <= k
 ext : Ext u u'
theorem H9 (a b : Cl) : (decide (a.ch = b.ch) && (decide (a.ink = b.ink) && (decide (a.pic = b.pic) && (a.bold == b.bold)))) = decide (a = b) := by
 rw [Bool.eq_iff_iff, decide_eq_true_eq, Cl.pq]
 simp only [Bool.and_eq_true, decide_eq_true_eq, beq_iff_eq]
set_option maxHeartbeats 1000000 in
theorem kL {u : World} {frm to : Gr} {fp tp : Option Addr} (hf : Cells u fp frm.cells) (ht : Cells u tp to.cells) (fc tc : Nat) (hfl : frm.cells.length <= 10000000) (htl : to.cells.length <= 10000000) :
  Spec Tryz.prog td #[GrV frm fp frm.cells.length fc, GrV to tp to.cells.length tc] u (EI u frm to fp fc) := by
 apply sU
 delta r4 vS Ag gM qs qj cnd iI lq
 simp only [decide_eq_true_eq, decide_eq_false_iff_not, Bool.not_eq_true', Bool.not_eq_false', true_and]
 have hu : Ext u (ab (ab (ab u hole) hole) hole) := (((Upd.refl u).alloc _).alloc _).alloc _
 have no : ∀ {v : World}, Ext u v -> ¬ iX frm to -> EI u frm to fp fc (.returned (.tuple #[.string (ByteArray.mk #[]), GrV frm fp frm.cells.length fc, .int .i64 1])) v := fun hv hn => ⟨fun _ => rfl, fun hy => (hn hy).elim, hv⟩
 refine (o9 (hf.ext hu) fc (by omega)).mono fun e u1 ⟨he, hu1⟩ => ⟨_, he, fun hb => no (hu.ext hu1).drew fun hm => (by rw [bH.2 hm.1] at hb; cases hb), fun hb => ?_⟩
 have gf := bH.1 hb
 have x1 := hu.ext hu1
 refine (o9 (ht.ext x1) tc (by omega)).mono fun e u2 ⟨he, hu2⟩ => ⟨_, he, fun hb => no (x1.ext hu2).drew fun hm => (by rw [bH.2 hm.2.1] at hb; cases hb), fun hb => ?_⟩
 have gt := bH.1 hb
 have x2 := x1.ext hu2
 refine ⟨fun hn => no x2.drew fun hm => hn hm.2.2.1, fun hw => ⟨fun hn => no x2.drew fun hm => hn hm.2.2.2.1, fun hh => ⟨fun hn => no x2.drew fun hm => by have := hm.2.2.2.2; omega, fun hcol => ?_⟩⟩⟩
 have hm : iX frm to := ⟨gf, gt, hw, hh, by omega⟩
 have hW1 := gt.w1
 have hW2 := gt.w2
 have hH1 := gt.h1
 have hH2 := gt.h2
 have hfpos := xR gf
 have htpos := xR gt
 obtain ⟨b, hb⟩ : ∃ b, b = u2.heap.size := ⟨_, rfl⟩
 rw [<- hb]
 have ha : Ext u2 (ab u2 (.cells ([.int .i64 frm.wide, .int .i64 frm.high, .slice fp frm.cells.length fc, .int .i64 frm.row, .int .i64 frm.col, .int .i64 frm.ink, .bool frm.bold, .int .i64 frm.top, .int .i64 frm.aA, .slice none 0 0] : List Value).toArray vB)) := (Upd.refl _).alloc _
 have hpen : Pen b (At fp) (ab u2 (.cells ([.int .i64 frm.wide, .int .i64 frm.high, .slice fp frm.cells.length fc, .int .i64 frm.row, .int .i64 frm.col, .int .i64 frm.ink, .bool frm.bold, .int .i64 frm.top, .int .i64 frm.aA, .slice none 0 0] : List Value).toArray vB)) b (frm, []) := by
  subst hb
  refine ⟨⟨fp, fc, none, 0, Blk.fresh u2 _ _, hf.ext (x2.ext ha), fun k hk => ?_, Own.nil _ _, fun k hk => (aJ hk).elim⟩, Nat.le_refl _⟩
  have := (hf.ext x2).lt hfpos hk
  have h7 := ha.size
  exact ⟨by omega, fun hat => aJ hat, by omega, .inl hk⟩
 have T2 := ht.ext x2
 have hkeep : ∀ {v : World}, Upd (fun k => b <= k) u2 v -> Cells v tp to.cells := fun hv => T2.upd hv fun k hk => by have := T2.lt htpos hk; omega
 have hext : ∀ {v : World}, Upd (fun k => b <= k) u2 v -> Ext u v := fun hv => (x2.trans hv fun k hk h7 => by have := x2.size; omega).mono fun _ _ h => h
 have hnW : ∀ r c : Nat, c < to.wide.toNat -> (r * to.wide.toNat + c) / to.wide.toNat = r /\ (r * to.wide.toNat + c) % to.wide.toNat = c := fun r c hc => by
  rw [Nat.mul_comm r]
  exact ⟨by rw [Nat.mul_add_div (by omega), Nat.div_eq_of_lt hc, Nat.add_zero], by rw [Nat.mul_add_mod, Nat.mod_eq_of_lt hc]⟩
 have inv : ∀ r c : Nat, c < to.wide.toNat -> (r < to.high.toNat \/ (r = to.high.toNat /\ c = 0)) -> zD frm to to.wide.toNat r c (turnCells to (frm, []) (r * to.wide.toNat + c)) := fun r c hc hr => by
  refine qh hm _ r c rfl hc ?_
  rw [Nat.mul_comm to.wide.toNat]
  rcases hr with hr | ⟨rfl, rfl⟩
  ·have := Nat.mul_le_mul_right to.wide.toNat (show r + 1 <= to.high.toNat by omega)
   rw [Nat.add_mul] at this
   omega
  ·omega
 have few : ∀ {r c : Nat} {x : Gr × Bs}, r <= 10 -> c <= 24 -> zD frm to to.wide.toNat r c x -> x.2.length <= 100000 := fun {r c x} hr hc hx => by
  have h7 := hx.few
  unfold uy at h7
  have := Nat.mul_le_mul hr (show 31 * to.wide.toNat + 5 <= 749 by omega)
  split at h7 <;> omega
 refine ⟨fun r v => 0 <= r /\ r <= to.high /\ Pen b (At fp) v b (turnCells to (frm, []) (r.toNat * to.wide.toNat)) /\ Upd (fun k => b <= k) u2 v, fun r _ => (to.high - r).toNat, ⟨Int.le_refl _, by omega, by simpa [turnCells] using hpen, ha.any⟩, ?_⟩
 rintro r v ⟨r0, r1, hp, hv⟩
 refine ⟨fun hr => ?_, fun hr => ?_⟩
 ·refine ⟨fun c w => 0 <= c /\ c <= to.wide /\ Pen b (At fp) w b (turnCells to (frm, []) (r.toNat * to.wide.toNat + c.toNat)) /\ Upd (fun k => b <= k) u2 w, fun c _ => (to.wide - c).toNat, ⟨Int.le_refl _, by omega, by simpa using hp, hv⟩, ?_⟩
  rintro c w ⟨c0, c1, hp, hw'⟩
  refine ⟨fun hc => ?_, fun hc => ?_⟩
  ·have hI := inv r.toNat c.toNat (by omega) (.inl (by omega))
   have hstep : turnCells to (frm, []) (r.toNat * to.wide.toNat + (c + 1).toNat) = jh to (turnCells to (frm, []) (r.toNat * to.wide.toNat + c.toNat)) (r.toNat * to.wide.toNat + c.toNat) := by
    rw [show r.toNat * to.wide.toNat + (c + 1).toNat = r.toNat * to.wide.toNat + c.toNat + 1 by omega]
    rfl
   have hf2 := few (r := r.toNat) (c := c.toNat) (by omega) (by omega) hI
   obtain ⟨q1, q2⟩ := hnW r.toNat c.toNat (by omega)
   generalize hx : turnCells to (frm, []) (r.toNat * to.wide.toNat + c.toNat) = x at *
   obtain ⟨g, out⟩ := x
   dsimp only at hf2
   have gg : ao g := hI.uv
   have gw : g.wide = to.wide := hI.wide.trans hw
   have gh : g.high = to.high := hI.high.trans hh
   have gfew := aK gg
   refine (D0 (hkeep hw') tc r c (by omega)).mono fun e w1 ⟨he, hw1⟩ => ⟨_, _, _, _, he, ?_⟩
   have hd : Ext w (af (ab w1 hole)) := (hw1.alloc _).drew
   obtain ⟨gp, gc, op, oc, h1, h2, h3, h4, h5⟩ := (hp.ext hd).ex
   dsimp only at h1 h2 h4
   refine ⟨_, _, _, _, _, _, _, _, _, _, _, rfl, h1.dL (n := 9) rfl, ?_⟩
   refine (D0 h2 gc r c (by omega)).mono fun e w2 ⟨he, hw2⟩ => ⟨_, _, _, _, he, ?_⟩
   have y2 := hd.ext hw2
   have hidx : (r * to.wide + c).toNat = r.toNat * to.wide.toNat + c.toNat := by
    have := ug gt r.toNat c.toNat
    rw [Int.toNat_of_nonneg r0, Int.toNat_of_nonneg c0] at this
    exact this
   have a1 : atG to r c = cg to.cells (r.toNat * to.wide.toNat + c.toNat) := by
    unfold atG
    rw [if_pos (by omega), hidx]
   have a2 : atG g r c = cg g.cells (r.toNat * to.wide.toNat + c.toNat) := by
    unfold atG
    rw [if_pos (by omega), gw, hidx]
   rw [a1, a2, H9]
   have hk : cG (cg to.cells (r.toNat * to.wide.toNat + c.toNat)) = true := cN.cg gt.all _
   generalize hkk : cg to.cells (r.toNat * to.wide.toNat + c.toNat) = k at *
   refine ⟨fun hne => ?_, fun heq => ?_⟩
   ·rw [decide_eq_false_iff_not] at hne
    refine (Hy (hp.ext y2) gg (r := r) (c := c) ⟨r0, by omega⟩ ⟨c0, by omega⟩ hk hf2).mono fun e w3 ⟨he, hp3, hw3⟩ => ⟨he, by simp only [inK]; omega, ⟨by omega, by omega, ?_, (hw'.ext y2).trans hw3 fun _ _ h => h⟩, by first | omega | (dsimp only; omega)⟩
    rw [hstep]
    unfold jh
    rw [if_neg (by rw [hkk]; exact hne), q1, q2, hkk, Int.toNat_of_nonneg r0, Int.toNat_of_nonneg c0]
    exact hp3
   ·rw [decide_eq_true_eq] at heq
    refine ⟨by simp only [inK]; omega, ⟨by omega, by omega, ?_, hw'.ext y2⟩, by first | omega | (dsimp only; omega)⟩
    rw [hstep]
    unfold jh
    rw [if_pos (by rw [hkk]; exact heq)]
    exact hp.ext y2
  ·have hcw : c = to.wide := by omega
   subst hcw
   refine ⟨by simp only [inK]; omega, ⟨by omega, by omega, ?_, hw'⟩, by first | omega | (dsimp only; omega)⟩
   rw [show (r + 1).toNat = r.toNat + 1 by omega, Nat.add_mul, Nat.one_mul]
   exact hp
 ·have hrh : r = to.high := by omega
  subst hrh
  have hI := inv to.high.toNat 0 (by omega) (.inr ⟨rfl, rfl⟩)
  rw [Nat.add_zero] at hI
  have hf2 := few (by omega) (by omega) hI
  have hD : bV frm to = nY (turnCells to (frm, []) (to.high.toNat * to.wide.toNat)) to.row to.col := by
   unfold bV
   rw [Nat.mul_comm to.wide.toNat]
  generalize turnCells to (frm, []) (to.high.toNat * to.wide.toNat) = x at *
  obtain ⟨g, out⟩ := x
  dsimp only at hf2
  have gg : ao g := hI.uv
  have gw : g.wide = to.wide := hI.wide.trans hw
  have gh : g.high = to.high := hI.high.trans hh
  refine (Ez hp gg (r := to.row) (c := to.col) ⟨gt.r1, by have := gt.r2; omega⟩ ⟨gt.c1, by omega⟩ (by omega)).mono fun e w1 ⟨he, hp1, hw1⟩ => ⟨he, ?_⟩
  have hd : Ext w1 (af w1) := (Upd.refl w1).drew
  rw [<- hD] at hp1
  obtain ⟨gp, gc, op, oc, h1, h2, h3, h4, h5⟩ := (hp1.ext hd).ex
  refine ⟨_, _, _, rfl, h1.dL (n := 1) rfl, _, _, _, _, _, _, _, _, _, _, _, rfl, h1.dL (n := 9) rfl, aW (bV frm to).2, bD _, ?_, h1.dL (n := 9) rfl, fun hn => (hn hm).elim, fun _ => ⟨gp, gc, rfl, h2, fun k hk => (h3 k hk).2.2.2.imp id fun h8 => by have := x2.size; omega⟩, hext ((hv.trans hw1 fun _ _ h => h).ext hd)⟩
  have : aV (aW (bV frm to).2) = bsV (bV frm to).2 := by
   show ((aW _).data.toList.map _) = _
   rw [aZ]
   rfl
  rw [this]
  exact h4.aH
structure Ak (u : World) (to : Gr) (tp : Option Addr) (tc : Nat) (e : Ending) (u' : World) : Prop where
 no : ¬ (ao to /\ to.col < to.wide) -> e = .returned (.tuple #[.string (ByteArray.mk #[]), GrV to tp to.cells.length tc, .int .i64 1])
 yes : ao to /\ to.col < to.wide -> ∃ gp gc s, s.data.toList = [27, 99] ++ (bV (aO to.wide to.high) to).2 /\ e = .returned (.tuple #[.string s, GrV (bV (aO to.wide to.high) to).1 gp (bV (aO to.wide to.high) to).1.cells.length gc, .int .i64 0]) /\ Cells u' gp (bV (aO to.wide to.high) to).1.cells /\ ∀ k, At gp k -> u.heap.size <= k
 ext : Ext u u'
theorem F6 {u : World} {to : Gr} {tp : Option Addr} (ht : Cells u tp to.cells) (tc : Nat) (htl : to.cells.length <= 10000000) :
  Spec Tryz.prog si #[GrV to tp to.cells.length tc] u (Ak u to tp tc) := by
 apply tG
 delta rT AH Bx cnd iI lq
 simp only [decide_eq_true_eq, decide_eq_false_iff_not, Bool.not_eq_true', Bool.not_eq_false', true_and]
 have hu : Ext u (ab (ab u hole) hole) := ((Upd.refl u).alloc _).alloc _
 have no : ∀ {v : World}, Ext u v -> ¬ (ao to /\ to.col < to.wide) -> Ak u to tp tc (.returned (.tuple #[.string (ByteArray.mk #[]), GrV to tp to.cells.length tc, .int .i64 1])) v := fun hv hn => ⟨fun _ => rfl, fun hy => (hn hy).elim, hv⟩
 refine (o9 (ht.ext hu) tc (by omega)).mono fun e u1 ⟨he, hu1⟩ => ⟨_, he, fun hb => no (hu.ext hu1).drew fun hm => (by rw [bH.2 hm.1] at hb; cases hb), fun hb => ⟨fun hc => no (hu.ext hu1).drew fun hm => by have := hm.2; omega, fun hc => ?_⟩⟩
 have gt := bH.1 hb
 have x1 := (hu.ext hu1).drew
 have hs := tY gt
 have hm : iX (aO to.wide to.high) to := ⟨dr _ _, gt, hs.wide, hs.high, by omega⟩
 have nl : (aO to.wide to.high).cells.length <= 240 := aK (dr _ _)
 have P := tH hm
 have hfew := P.few
 have z : (ByteArray.mk #[27, 99]).size = 2 := rfl
 have fin : ∀ {v w : World} {e : Ending}, Ext u v -> Ext v w -> ∀ gp gc, Cells v gp (bV (aO to.wide to.high) to).1.cells -> (∀ k, At gp k -> u.heap.size <= k) -> Ak u to tp tc (.returned (.tuple #[.string (ByteArray.mk #[27, 99] ++ aW (bV (aO to.wide to.high) to).2), GrV (bV (aO to.wide to.high) to).1 gp (bV (aO to.wide to.high) to).1.cells.length gc, .int .i64 0])) w := fun hv hw gp gc C hfar =>
  ⟨fun hn => (hn ⟨gt, by omega⟩).elim, fun _ => ⟨gp, gc, _, by simp [ByteArray.data_append, aZ], rfl, C.ext hw, hfar⟩, hv.ext hw⟩
 refine ⟨?_, ?_⟩
 ·refine (lP to.wide to.high).mono fun e u2 ⟨⟨b2, he, hco, hb2⟩, hu2⟩ => ⟨_, _, _, _, _, _, _, _, _, _, _, he, ⟨?_, ?_⟩⟩
  ·have x2 := x1.ext hu2
   refine (kL hco.cells (ht.ext x2) _ tc (by omega) htl).mono fun e u3 h7 => ?_
   obtain ⟨gp, gc, he, C, hfar⟩ := h7.yes hm
   have hfar2 : ∀ k, At gp k -> u.heap.size <= k := fun k hk => (hfar k hk).elim (fun h8 => by have := ar h8; simp only at this; have e9 : (af u1).heap.size = u1.heap.size := rfl; have := size_alloc (af u1) hole; have := (hu.ext hu1).size; omega) fun h8 => by have := x2.size; omega
   exact ⟨_, _, _, _, _, _, _, _, _, _, _, _, _, he, by rw [bD]; omega, fin (e := e) (x2.ext h7.ext) ((Upd.refl _).alloc _).drew gp gc C hfar2⟩
  ·have ha : Ext u2 (ab u2 hole) := (Upd.refl _).alloc _
   have x2 := (x1.ext hu2).ext ha
   refine (kL (hco.ext ha).cells (ht.ext x2) _ tc (by omega) htl).mono fun e u3 h7 => ?_
   obtain ⟨gp, gc, he, C, hfar⟩ := h7.yes hm
   have hfar2 : ∀ k, At gp k -> u.heap.size <= k := fun k hk => (hfar k hk).elim (fun h8 => by have := ar h8; simp only at this; have e9 : (af u1).heap.size = u1.heap.size := rfl; have := size_alloc (af u1) hole; have := (hu.ext hu1).size; omega) fun h8 => by have := x2.size; omega
   exact ⟨_, _, _, _, _, _, _, _, _, _, _, _, _, he, by rw [bD]; omega, fin (e := e) (x2.ext h7.ext) (Upd.refl _).drew gp gc C hfar2⟩
 ·have ha := (Upd.refl (S := fun _ => False) (af u1)).alloc hole
  refine (lP to.wide to.high).mono fun e u2 ⟨⟨b2, he, hco, hb2⟩, hu2⟩ => ⟨_, _, _, _, _, _, _, _, _, _, _, he, ?_⟩
  have x2 := (x1.ext ha).ext hu2
  refine (kL hco.cells (ht.ext x2) _ tc (by omega) htl).mono fun e u3 h7 => ?_
  obtain ⟨gp, gc, he, C, hfar⟩ := h7.yes hm
  have hfar2 : ∀ k, At gp k -> u.heap.size <= k := fun k hk => (hfar k hk).elim (fun h8 => by have := ar h8; simp only at this; have e9 : (af u1).heap.size = u1.heap.size := rfl; have := size_alloc (af u1) hole; have := (hu.ext hu1).size; omega) fun h8 => by have := x2.size; omega
  exact ⟨_, _, _, _, _, _, _, _, _, _, _, _, _, he, by rw [bD]; omega, fin (e := e) (x2.ext h7.ext) (Upd.refl _).drew gp gc C hfar2⟩
theorem E5 (k : Cl) {u : World} : Spec Tryz.prog ic #[ClV k] u (Told u (cG k)) := by
 apply lf
 delta iD cnd iI lq
 have hu : Ext u (ab u hole) := (Upd.refl u).alloc _
 have leaf : ∀ x : Bool, (x = true ↔ cG k = true) -> Told u (cG k) (.returned (.bool x)) (ab u hole) := fun x h => ⟨by rw [Bool.eq_iff_iff.2 h], hu⟩
 simp only [uJ] at leaf
 obtain ⟨ch, ink, pic, bold⟩ := k
 simp only [Bool.and_eq_true, Bool.and_eq_false_iff, decide_eq_true_eq, decide_eq_false_iff_not, beq_iff_eq, beq_eq_false_iff_ne, Bool.not_eq_true', Bool.not_eq_false', ne_eq] at leaf ⊢
 cases bold
 ·simp only [and_true, not_true, or_false, Bool.false_eq_true] at leaf ⊢
  repeat' (refine And.intro (fun _ => ?_) (fun _ => ?_))
  all_goals (refine leaf _ ?_; simp only [Bool.false_eq_true, decide_eq_true_eq, false_iff, true_iff, iff_true, iff_false]; omega)
 ·simp only [and_false, false_implies, true_and, not_false_iff, or_true, true_implies, Bool.true_eq_false, false_or, or_false] at leaf ⊢
  repeat' (refine And.intro (fun _ => ?_) (fun _ => ?_))
  all_goals (refine leaf _ ?_; simp only [Bool.false_eq_true, decide_eq_true_eq, false_iff, true_iff, iff_true, iff_false]; omega)
theorem iK (n a b : Int) {u : World} : Spec Tryz.prog dW #[.int .i64 n, .int .i64 a, .int .i64 b] u (Told u (decide (a <= n /\ n <= b))) := by
 apply ia
 delta dP cnd iI lq
 simp only [decide_eq_true_eq, decide_eq_false_iff_not]
 refine ⟨fun h => ⟨?_, Upd.refl u⟩, fun h => ⟨?_, Upd.refl u⟩⟩
 ·congr 2
  exact decide_eq_decide.2 (by omega)
 ·congr 2
  symm
  exact decide_eq_false (by omega)
theorem uO {u : World} {g : Gr} {p : Option Addr} (h : Cells u p g.cells) (c : Nat) (hl : g.cells.length <= 100000000) :
  Spec Tryz.prog gm #[GrV g p g.cells.length c] u (Told u (o8 g)) := by
 apply jJ
 delta fK sW cnd iI lq
 simp only [decide_eq_true_eq, decide_eq_false_iff_not, Bool.not_eq_true', Bool.not_eq_false', true_and]
 have hu : Ext u (ab u hole) := (Upd.refl u).alloc _
 have no : ∀ {v : World}, Ext u v -> ¬ ao g -> Told u (o8 g) (.returned (.bool false)) v := fun hv hn => ⟨by
  congr 2
  symm
  rw [<- Bool.not_eq_true, bH]
  exact hn, hv⟩
 refine ⟨fun x u1 => Ext u u1 /\ 0 <= x /\ x <= g.cells.length /\ ∀ i : Nat, i < x.toNat -> cG (cg g.cells i) = true, fun x _ => (g.cells.length - x).toNat, ⟨hu, by omega, by omega, by omega⟩, fun x u1 ⟨hu1, h0, h1, hi⟩ => ⟨fun hx => ?_, fun hx => ?_⟩⟩
 ·obtain ⟨b, o, hp, hr⟩ := (h.ext hu1).at (i := x.toNat) (by omega)
  refine ⟨b, o, hp, h0, hx, _, _, _, _, rfl, hr, ?_⟩
  have ha : Ext u1 (ab u1 hole) := (Upd.refl u1).alloc _
  refine (E5 (cg g.cells x.toNat)).mono fun e u2 ⟨he, hu2⟩ => ⟨_, he, fun hb => no (hu1.ext (ha.ext hu2)) fun hg => ?_, fun hb => ⟨by simp only [inK]; omega, ⟨hu1.ext (ha.ext hu2), by omega, by omega, fun i hi' => ?_⟩, by first | omega | (dsimp only; omega)⟩⟩
  ·rw [hg.all _ (xT (by omega))] at hb; cases hb
  ·rcases (by omega : i < x.toNat \/ i = x.toNat) with h | rfl
   ·exact hi i h
   ·exact hb
 ·have hall : cN g.cells := fun k hk => by
   obtain ⟨i, hi', rfl⟩ := uo hk
   exact hi i (by omega)
  refine (iK g.wide 1 24).mono fun e u2 ⟨he, hu2⟩ => ⟨_, he, fun hw => ?_, fun hw => no (hu1.ext hu2) fun hg => by have := hg.w1; have := hg.w2; simp at hw; omega⟩
  simp only [decide_eq_true_eq] at hw
  refine (iK g.high 1 10).mono fun e u3 ⟨he, hu3⟩ => ⟨_, he, fun hh => ?_, fun hh => no ((hu1.ext hu2).ext hu3) fun hg => by have := hg.h1; have := hg.h2; simp at hh; omega⟩
  simp only [decide_eq_true_eq] at hh
  have a : 0 <= g.wide * g.high := Int.mul_nonneg (by omega) (by omega)
  have b : g.wide * g.high <= 24 * g.high := Int.mul_le_mul_of_nonneg_right (by omega) (by omega)
  have x3 := (hu1.ext hu2).ext hu3
  refine ⟨by simp only [inK]; omega, fun hlen => ⟨by simp only [inK]; omega, ?_⟩, fun hlen => no x3 fun hg => hlen hg.len⟩
  refine (iK g.row 0 (g.high - 1)).mono fun e u4 ⟨he, hu4⟩ => ⟨_, he, fun hr => ?_, fun hr => no (x3.ext hu4) fun hg => by have := hg.r1; have := hg.r2; simp at hr; omega⟩
  simp only [decide_eq_true_eq] at hr
  refine (iK g.col 0 g.wide).mono fun e u5 ⟨he, hu5⟩ => ⟨_, he, fun hc => ?_, fun hc => no ((x3.ext hu4).ext hu5) fun hg => by have := hg.c1; have := hg.c2; simp at hc; omega⟩
  simp only [decide_eq_true_eq] at hc
  have x5 := (x3.ext hu4).ext hu5
  refine (iK g.ink 0 8).mono fun e u6 ⟨he, hu6⟩ => ⟨_, he, fun hi => ?_, fun hi => no (x5.ext hu6) fun hg => by have := hg.i1; have := hg.i2; simp at hi; omega⟩
  simp only [decide_eq_true_eq] at hi
  refine (iK g.aA 1 g.high).mono fun e u7 ⟨he, hu7⟩ => ⟨_, he, fun hb => ?_, fun hb => no ((x5.ext hu6).ext hu7) fun hg => by have := hg.t1; have := hg.t2; have := hg.b2; simp at hb; omega⟩
  simp only [decide_eq_true_eq] at hb
  have x7 := (x5.ext hu6).ext hu7
  refine ⟨by simp only [inK]; omega, (iK g.top 0 (g.aA - 1)).mono fun e u8 ⟨he, hu8⟩ => ⟨_, he, ?_, x7.ext hu8⟩⟩
  congr 2
  rw [Bool.eq_iff_iff, decide_eq_true_eq, bH]
  exact ⟨fun ht => ⟨hw.1, hw.2, hh.1, hh.2, hlen, hr.1, by omega, hc.1, hc.2, hi.1, hi.2, ht.1, by omega, hb.2, hall⟩, fun hg => ⟨hg.t1, by have := hg.t2; omega⟩⟩
structure wD (u : World) (g : Gr) (e : Ending) (u' : World) : Prop where
 ex : ∃ p c, e = .returned (GrV g p g.cells.length c) /\ Own u' 4 p g.cells.length c (aE g.cells) /\ ∀ k, At p k -> u.heap.size <= k
 ext : Ext u u'
theorem Own.cells {u : World} {p : Option Addr} {n c : Nat} {l : List Cl} (h : Own u 4 p n c (aE l)) : Cells u p l := ⟨h.aH⟩
theorem Cu {u : World} {g : Gr} {p : Option Addr} (h : Cells u p g.cells) (c : Nat) (hl : g.cells.length <= 100000000) :
  Spec Tryz.prog fJ #[GrV g p g.cells.length c] u (wD u g) := by
 apply jL
 delta fT cnd iI lq
 have hu : Ext u (ab (ab u hole) hole) := ((Upd.refl u).alloc _).alloc _
 have h' := h.ext hu
 refine ⟨[], aE g.cells, rfl, rfl, bq _, h'.aH, by decide, by omega, (fQ _ _).2 trivial, fun _ => trivial, fun p cap u1 hr => ?_⟩
 obtain ⟨h1, h2, h3⟩ := cD.none hr rfl (bq _) rfl
 rw [Nat.zero_add] at h1 ⊢
 refine ⟨⟨p, cap, rfl, h1, fun k hk => ?_⟩, hu.ext h2⟩
 rcases h3 with ⟨_, h3⟩ | h3
 ·rw [h3] at hk; exact (aJ hk).elim
 ·rw [h3] at hk; rw [ar hk]; exact hu.size
theorem rj (w h : Int) {u : World} : Spec Tryz.prog dp #[.int .i64 w, .int .i64 h] u (wD u (aO w h)) := by
 apply j5
 delta gS sJ cnd iI lq
 simp only [decide_eq_true_eq, decide_eq_false_iff_not, true_and]
 rw [show min (max w 1) 24 = max 1 (min w 24) by omega, show min (max h 1) 10 = max 1 (min h 10) by omega]
 have a : 0 <= max (1 : Int) (min w 24) * max (1 : Int) (min h 10) := Int.mul_nonneg (by omega) (by omega)
 have b : max (1 : Int) (min w 24) * max (1 : Int) (min h 10) <= 24 * max (1 : Int) (min h 10) := Int.mul_le_mul_of_nonneg_right (by omega) (by omega)
 have hlen : (aO w h).cells.length = (max (1 : Int) (min w 24) * max (1 : Int) (min h 10)).toNat := by simp [aO]
 have hnew : aO w h = ⟨max 1 (min w 24), max 1 (min h 10), List.replicate (max (1 : Int) (min w 24) * max (1 : Int) (min h 10)).toNat .z, 0, 0, 0, false, 0, max 1 (min h 10)⟩ := rfl
 generalize max (1 : Int) (min w 24) * max (1 : Int) (min h 10) = N at a b hlen hnew ⊢
 have hu : Ext u (ab (ab u hole) hole) := ((Upd.refl u).alloc _).alloc _
 refine ⟨by simp only [inK]; omega, fun x w' h' p n c row col ink bold top aA u1 => Ext u u1 /\ 0 <= x /\ x <= N /\ n = x.toNat /\ Own u1 4 p n c (aE (List.replicate n .z)) /\ (∀ k, At p k -> u.heap.size <= k) /\ w' = max 1 (min w 24) /\ h' = max 1 (min h 10) /\ row = 0 /\ col = 0 /\ ink = 0 /\ bold = false /\ top = 0, fun x _ _ _ _ _ _ _ _ _ _ _ _ => (N - x).toNat,
  ⟨hu, Int.le_refl _, a, rfl, Own.nil _ _, fun k hk => (aJ hk).elim, rfl, rfl, rfl, rfl, rfl, rfl, rfl⟩, ?_⟩
 rintro x w' h' p n c row col ink bold top aA u1 ⟨hu1, h0, h1, rfl, ho, hk, rfl, rfl, rfl, rfl, rfl, rfl, rfl⟩
 refine ⟨fun hx => ?_, fun hx => ?_⟩
 ·have hv : Ext u1 (ab u1 (.cells #[.int .i64 0, .int .i64 0, .int .i64 0, .bool false] dj)) := (Upd.refl u1).alloc _
  have ef : Own (ab u1 (.cells #[.int .i64 0, .int .i64 0, .int .i64 0, .bool false] dj)) 4 _ 1 1 (clV .z) := Own.fresh u1 (cs := clV .z) rfl
  have ho' := ho.ext hv
  refine ⟨aE (List.replicate x.toNat .z), clV .z, ho'.len, ho'.aH, rfl, ef.aH, by decide, by omega, by simp [okCells, clV], fun hc => ho'.wrs (by omega), fun p' cap u2 hr => ?_⟩
  obtain ⟨q1, q2, q3⟩ := ho'.app hr ho'.len ho'.aH rfl rfl
  have hx1 : (x + 1).toNat = x.toNat + 1 := by omega
  refine ⟨by simp only [inK]; omega, ⟨(hu1.ext hv).trans q2 (fun k hk' hat => by have := hk k hat; omega) |>.mono fun _ _ h => h, by omega, by omega, hx1.symm, ?_, fun k hk' => ?_, rfl, rfl, rfl, rfl, rfl, rfl, rfl⟩, by first | omega | (dsimp only; omega)⟩
  ·have : aE (List.replicate (x.toNat + 1) .z) = aE (List.replicate x.toNat .z) ++ clV .z := by
    rw [List.replicate_succ', dA]
    simp [aE]
   rw [this]
   exact q1
  ·rcases q3 with ⟨rfl, _⟩ | ⟨rfl, _⟩
   ·exact hk k hk'
   ·rw [ar hk']
    have := hu1.size
    have := hv.size
    show u.heap.size <= (ab u1 _).heap.size
    omega
 ·have hxN : x = N := by omega
  subst hxN
  rw [hnew]
  exact ⟨⟨p, c, by simp only [List.length_replicate], by simp only [List.length_replicate]; exact ho, hk⟩, hu1⟩
theorem tK {u : World} {p : Option Addr} {n c : Nat} {l : List Int} (h : bY u p n l) {k : Int} (hk : 0 <= k) :
  Spec Tryz.prog jD #[.slice p n c, .int .i64 k] u fun e u' => e = .returned (.int .i64 (aQ l k.toNat 0)) /\ Ext u u' := by
 apply lz
 delta jo cnd iI lq
 simp only [decide_eq_true_eq, decide_eq_false_iff_not]
 have hl := h.2
 refine ⟨fun hge => ⟨?_, Upd.refl u⟩, fun hlt => ?_⟩
 ·unfold aQ
  rw [show l.getD k.toNat 0 = 0 by rw [List.getD_eq_getElem?_getD, List.getElem?_eq_none (by omega)]; rfl]
  rfl
 ·obtain ⟨b, o, hp, hr⟩ := h.at (i := k.toNat) (by omega)
  refine ⟨b, o, hp, hk, by omega, _, rfl, hr, fun hneg => ⟨?_, Upd.refl u⟩, fun hpos => ⟨b, o, hp, hk, by omega, _, rfl, hr, ?_, Upd.refl u⟩⟩
  ·unfold aQ
   rw [show max 0 (min (l.getD k.toNat 0) 999) = 0 by omega]
  ·unfold aQ
   rw [show max 0 (min (l.getD k.toNat 0) 999) = min (l.getD k.toNat 0) 999 by omega]
theorem EL {u : World} {g : Gr} {p : Option Addr} (h : Cells u p g.cells) (c : Nat) (row col : Int) (hl : g.cells.length <= 100000000) :
  Spec Tryz.prog iA #[GrV g p g.cells.length c, .int .i64 row, .int .i64 col] u fun e u' => e = .returned (ClV (atG g row col)) /\ Ext u u' := by
 apply kT
 delta iy AE sF nI cnd iI lq
 simp only [decide_eq_true_eq, decide_eq_false_iff_not, true_and]
 have hu : Ext u (ab (ab u hole) hole) := ((Upd.refl u).alloc _).alloc _
 have no : ¬ (g.wide <= 24 /\ g.high <= 10 /\ 0 <= row /\ row < g.high /\ 0 <= col /\ col < g.wide) -> Ending.returned (.agg #[.int .i64 0, .int .i64 0, .int .i64 0, .bool false]) = .returned (ClV (atG g row col)) /\ Ext u (ab (ab u hole) hole) := fun hn => ⟨by
  unfold atG
  rw [if_neg hn], hu⟩
 refine ⟨fun a1 => ⟨fun a2 => ⟨fun a3 => ⟨fun a4 => ⟨fun a5 => ⟨fun a6 => ?_, fun _ => no (by omega)⟩, fun _ => no (by omega)⟩, fun _ => no (by omega)⟩, fun _ => no (by omega)⟩, fun _ => no (by omega)⟩, fun _ => no (by omega)⟩
 have hat : atG g row col = cg g.cells (row * g.wide + col).toNat := by
  unfold atG
  rw [if_pos ⟨a1, a2, a3, a4, a5, a6⟩]
 have hm : 0 <= row * g.wide := Int.mul_nonneg a3 (by omega)
 rw [hat]
 refine ⟨fun x a b c d w => Ext u w /\ 0 <= x /\ x <= g.cells.length /\ (row * g.wide + col < g.cells.length -> x <= row * g.wide + col), fun x _ _ _ _ _ => (g.cells.length - x).toNat, ⟨hu, Int.le_refl _, by omega, by omega⟩, ?_⟩
 rintro x b1 b2 b3 b4 w ⟨hw, h0, h1, hx⟩
 refine ⟨fun hlt => ?_, fun hlt => ⟨?_, hw⟩⟩
 ·obtain ⟨b, o, hp, hr⟩ := (h.ext hw).at (i := x.toNat) (by omega)
  have ha : Ext w (ab w hole) := (Upd.refl w).alloc _
  have hdm := Int.mul_ediv_add_emod x g.wide
  have next : ¬ (x / g.wide = row /\ x % g.wide = col) -> inK .i64 (x + 1) /\ (Ext u (ab w hole) /\ 0 <= x + 1 /\ x + 1 <= g.cells.length /\ (row * g.wide + col < g.cells.length -> x + 1 <= row * g.wide + col)) /\ ((g.cells.length : Int) - (x + 1)).toNat < ((g.cells.length : Int) - x).toNat := fun hn => by
   refine ⟨by simp only [inK]; omega, ⟨hw.ext ha, by omega, by omega, fun hl => ?_⟩, by omega⟩
   have := hx hl
   rcases (by omega : x + 1 <= row * g.wide + col \/ x = row * g.wide + col) with h | h
   ·exact h
   ·exfalso
    apply hn
    have e1 : (row * g.wide + col) / g.wide = row := by
     rw [Int.add_comm, Int.add_mul_ediv_right _ _ (by omega), Int.ediv_eq_zero_of_lt a5 a6, Int.zero_add]
    have e2 : (row * g.wide + col) % g.wide = col := by
     rw [Int.add_comm, Int.add_mul_emod_self_right, Int.emod_eq_of_lt a5 a6]
    rw [h]
    exact ⟨e1, e2⟩
  refine ⟨b, o, hp, h0, hlt, _, _, _, _, rfl, hr, h0, by omega, by simp only [inK]; omega, fun c1 => ⟨h0, by omega, fun c2 => ⟨?_, hw.ext ha⟩, fun c2 => next fun hh => c2 hh.2⟩, fun c1 => next fun hh => c1 hh.1⟩
  rw [show row * g.wide + col = x by rw [<- c1, <- c2, Int.mul_comm]; exact hdm]
 ·rw [yh]
  have := hx
  omega
end Go.Proofs.YtkmmphkjmamckacGreatDoor
