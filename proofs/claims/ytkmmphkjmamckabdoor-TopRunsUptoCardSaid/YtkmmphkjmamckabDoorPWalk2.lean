/-
  The parser's step, and feeding it.
-/
import Derived.Test.YtkmmphkjmamckabDoorPWalk
namespace Go.Proofs.YtkmmphkjmamckabDoor
open Go
set_option linter.all false

theorem StepPost.ext {u v u' : World} {pp : Option Addr} {r : Pr × Ev} {e : Ending} (hu : Ext u v) (h : StepPost v pp r e u') : StepPost u pp r e u' := by
  obtain ⟨q, n, c, ep, en, ec, h1, h2, h3, h4, h5, h6⟩ := h
  exact ⟨q, n, c, ep, en, ec, h1, h2, h3, hu.any.trans h4 fun _ _ h => h, fun k hk => (h5 k hk).imp id fun h => Nat.le_trans hu.size h, h6⟩

theorem bytesV_byteS {c : Int} (h0 : 0 ≤ c) (h1 : c ≤ 255) : bytesV (byteS c) = [.int .u8 c] := by
  unfold bytesV byteS
  simp only [List.map_cons, List.map_nil, List.cons.injEq, Value.int.injEq, true_and, and_true]
  have : (UInt8.ofNat c.toNat).toNat = c.toNat := by
    rw [UInt8.toNat_ofNat']
    omega
  rw [this]
  omega

theorem step_ok (pr : Pr) (pp : Option Addr) (pn pc : Nat) (c : Int) {u : World} (h : Own u 1 pp pn pc (numV pr.ps)) (hg : GoodP pr) (h0 : 0 ≤ c) (h1 : c ≤ 255) :
    Spec Tryd.prog fn_parse_step #[PrV pr pp pn pc, .int .i64 c] u (StepPost u pp (stepP pr c)) := by
  apply vc_parse_step_spec
  unfold vc_parse_step
  have hu : Ext u (allocW (allocW (allocW (allocW u hole) hole) hole) hole) := ((((Upd.refl u).alloc _).alloc _).alloc _).alloc _
  have hud := hu.drew
  have hudd := hud.drew
  have hpay := hg.pay
  have keep : ∀ {u1 : World} (q : Pr) (ev : Ev), Ext u u1 → stepP pr c = (q, ev) → q.ps = pr.ps → ev.ps = [] → StepPost u pp (stepP pr c) (.returned (.tuple #[PrV q pp pn pc, EvV ev none 0 0])) u1 := fun q ev hu1 hs hq he => by
    rw [hs]
    exact StepPost.plain he (by rw [hq]; exact h.ext hu1) hu1.any fun k hk => .inl hk
  have zero : ∀ {u1 : World} (ev : Ev), Ext u u1 → stepP pr c = (.zero, ev) → ev.ps = [] → StepPost u pp (stepP pr c) (.returned (.tuple #[.agg #[.int .i64 0, .slice none 0 0, .string (ByteArray.mk #[]), .bool false], EvV ev none 0 0])) u1 := fun ev hu1 hs he => by
    rw [hs]
    exact StepPost.plain (p := .zero) he (Own.nil _ _) hu1.any fun _ h => (at_none h).elim
  obtain ⟨a, ps, pl, lg⟩ := pr
  have ha0 := hg.lo
  have ha4 := hg.hi
  simp only at ha0 ha4 hpay
  rcases (by omega : a = 0 ∨ a = 1 ∨ a = 2 ∨ a = 3 ∨ a = 4) with rfl | rfl | rfl | rfl | rfl
  · refine ⟨fun _ => ?_, fun h => by simp at h⟩
    have e1 : c = 27 → stepP ⟨0, ps, pl, lg⟩ c = (⟨1, ps, pl, lg⟩, .none) := fun h => by subst h; rfl
    have e2 : 32 ≤ c → c < 127 → stepP ⟨0, ps, pl, lg⟩ c = (⟨0, ps, pl, lg⟩, ⟨1, c, [], noBytes⟩) := fun h h' => by
      unfold stepP; rw [if_pos rfl, if_neg (by omega), if_pos ⟨h, h'⟩]
    have e3 : ((8 ≤ c ∧ c ≤ 10) ∨ c = 13) → stepP ⟨0, ps, pl, lg⟩ c = (⟨0, ps, pl, lg⟩, ⟨2, c, [], noBytes⟩) := fun h => by
      unfold stepP; rw [if_pos rfl, if_neg (by omega), if_neg (by omega), if_pos h]
    have e4 : c ≠ 27 → ¬ (32 ≤ c ∧ c < 127) → ¬ ((8 ≤ c ∧ c ≤ 10) ∨ c = 13) → stepP ⟨0, ps, pl, lg⟩ c = (⟨0, ps, pl, lg⟩, .none) := fun h1 h2 h3 => by
      unfold stepP; rw [if_pos rfl, if_neg h1, if_neg h2, if_neg h3]
    simp only [decide_eq_true_eq, decide_eq_false_iff_not]
    repeat' (refine And.intro (fun _ => ?_) (fun _ => ?_))
    all_goals first
      | (exfalso; omega)
      | exact keep _ _ hud (e1 (by omega)) rfl rfl
      | exact keep _ _ hu (e2 (by omega) (by omega)) rfl rfl
      | exact keep _ _ hu (e3 (by omega)) rfl rfl
      | exact keep _ _ hud (e4 (by omega) (by omega) (by omega)) rfl rfl
  · refine ⟨fun h => by simp at h, fun _ => ⟨fun _ => ?_, fun h => by simp at h⟩⟩
    have e1 : c = 27 → stepP ⟨1, ps, pl, lg⟩ c = (⟨1, ps, pl, lg⟩, .none) := fun h => by subst h; rfl
    have e2 : c = 91 → stepP ⟨1, ps, pl, lg⟩ c = (⟨2, [0], pl, lg⟩, .none) := fun h => by subst h; rfl
    have e3 : c = 80 → stepP ⟨1, ps, pl, lg⟩ c = (⟨3, ps, pl, lg⟩, .none) := fun h => by subst h; rfl
    have e4 : c = 99 → stepP ⟨1, ps, pl, lg⟩ c = (⟨0, ps, pl, lg⟩, ⟨5, 0, [], noBytes⟩) := fun h => by subst h; rfl
    have e5 : c ≠ 27 → c ≠ 91 → c ≠ 80 → c ≠ 99 → stepP ⟨1, ps, pl, lg⟩ c = (⟨0, ps, pl, lg⟩, .none) := fun h1 h2 h3 h4 => by
      unfold stepP; rw [if_neg (by simp), if_pos rfl, if_neg h1, if_neg h2, if_neg h3, if_neg h4]
    have e2' : c = 91 → StepPost u pp (stepP ⟨1, ps, pl, lg⟩ c) (.returned (.tuple #[.agg #[.int .i64 2, .slice (some (Addr.mk (allocW (allocW (allocW (allocW u hole) hole) hole) hole).heap.size 0 none)) 1 1, .string pl, .bool lg], .agg #[.int .i64 0, .int .i64 0, .slice none 0 0, .string (ByteArray.mk #[])]])) (drewW (allocW (allocW (allocW (allocW (allocW u hole) hole) hole) hole) (.cells #[.int .i64 0] ty_int))) := fun h91 => by
      rw [e2 h91]
      have ef : Own (allocW (allocW (allocW (allocW (allocW u hole) hole) hole) hole) (.cells #[.int .i64 0] ty_int)) 1 _ 1 1 [.int .i64 0] := Own.fresh (allocW (allocW (allocW (allocW u hole) hole) hole) hole) (cs := [.int .i64 0]) rfl
      refine StepPost.plain (p := ⟨2, [0], pl, lg⟩) rfl (ef.ext ((Upd.refl _).drew)) ((hu.alloc _).drew).any fun k hk => .inr ?_
      rw [at_some hk]
      exact hu.size
    simp only [decide_eq_true_eq, decide_eq_false_iff_not]
    repeat' (refine And.intro (fun _ => ?_) (fun _ => ?_))
    all_goals first
      | (exfalso; omega)
      | exact keep _ _ hud (e1 (by omega)) rfl rfl
      | exact e2' (by omega)
      | exact keep _ _ hud (e3 (by omega)) rfl rfl
      | exact keep _ _ hu (e4 (by omega)) rfl rfl
      | exact keep _ _ hud (e5 (by omega) (by omega) (by omega) (by omega)) rfl rfl
  · refine ⟨fun h => by simp at h, fun _ => ⟨fun h => by simp at h, fun _ => ⟨fun _ => ?_, fun h => by simp at h⟩⟩⟩
    refine (command_ok ⟨2, ps, pl, lg⟩ pp pn pc c (h.ext hu) hg rfl h0 h1).mono fun e u1 hp => ?_
    have hp := hp.ext hu
    obtain ⟨q, n, c', ep, en, ec, he, hrest⟩ := hp
    exact ⟨_, _, _, _, _, _, _, _, _, _, _, _, he, q, n, c', ep, en, ec, rfl, hrest⟩
  · refine ⟨fun h => by simp at h, fun _ => ⟨fun h => by simp at h, fun _ => ⟨fun h => by simp at h, fun _ => ⟨fun _ => ?_, fun h => by simp at h⟩⟩⟩⟩
    have e1 : c = 27 → stepP ⟨3, ps, pl, lg⟩ c = (⟨4, ps, pl, lg⟩, .none) := fun h => by subst h; rfl
    have e2 : c = 24 → stepP ⟨3, ps, pl, lg⟩ c = (.zero, .none) := fun h => by subst h; rfl
    have e3 : 32 ≤ c → c < 127 → 48 ≤ pl.size → stepP ⟨3, ps, pl, lg⟩ c = (⟨3, ps, pl, true⟩, .none) := fun h h' h'' => by
      unfold stepP; rw [if_neg (by simp), if_neg (by simp), if_neg (by simp), if_pos rfl, if_neg (by omega), if_neg (by omega), if_pos ⟨h, h'⟩, if_pos h'']
    have e4 : 32 ≤ c → c < 127 → ¬ 48 ≤ pl.size → stepP ⟨3, ps, pl, lg⟩ c = (⟨3, ps, pl ++ byteS c, lg⟩, .none) := fun h h' h'' => by
      unfold stepP; rw [if_neg (by simp), if_neg (by simp), if_neg (by simp), if_pos rfl, if_neg (by omega), if_neg (by omega), if_pos ⟨h, h'⟩, if_neg h'']
    have e5 : c ≠ 27 → c ≠ 24 → ¬ (32 ≤ c ∧ c < 127) → stepP ⟨3, ps, pl, lg⟩ c = (⟨3, ps, pl, lg⟩, .none) := fun h h' h'' => by
      unfold stepP; rw [if_neg (by simp), if_neg (by simp), if_neg (by simp), if_pos rfl, if_neg h, if_neg h', if_neg h'']
    have e4' : 32 ≤ c → c < 127 → ¬ 48 ≤ pl.size → inK .u8 c ∧ ∃ s : ByteArray, s.size = 1 ∧ Gets (allocW (allocW (allocW (allocW (allocW u hole) hole) hole) hole) (.cells #[.int .u8 c] ty_u8)) (some (Addr.mk (allocW (allocW (allocW (allocW u hole) hole) hole) hole).heap.size 0 none)) (bytesV s) ∧
        ((pl.size + s.size : Nat) : Int) ≤ 9223372036854775807 ∧
        StepPost u pp (stepP ⟨3, ps, pl, lg⟩ c) (.returned (.tuple #[.agg #[.int .i64 3, .slice pp pn pc, .string (pl ++ s), .bool lg], .agg #[.int .i64 0, .int .i64 0, .slice none 0 0, .string (ByteArray.mk #[])]])) (drewW (allocW (allocW (allocW (allocW (allocW u hole) hole) hole) hole) (.cells #[.int .u8 c] ty_u8))) := fun h2 h3 h4 => by
      have ef : Own (allocW (allocW (allocW (allocW (allocW u hole) hole) hole) hole) (.cells #[.int .u8 c] ty_u8)) 1 _ 1 1 [.int .u8 c] := Own.fresh (allocW (allocW (allocW (allocW u hole) hole) hole) hole) (cs := [.int .u8 c]) rfl
      refine ⟨by simp only [inK]; omega, byteS c, rfl, by rw [bytesV_byteS h0 h1]; exact ef.gets, by rw [byteS_size]; omega, ?_⟩
      exact keep ⟨3, ps, pl ++ byteS c, lg⟩ .none (hu.alloc _).drew (e4 h2 h3 h4) rfl rfl
    simp only [decide_eq_true_eq, decide_eq_false_iff_not]
    repeat' (first | exact e4' (by omega) (by omega) (by omega) | refine And.intro (fun _ => ?_) (fun _ => ?_))
    all_goals first
      | (exfalso; omega)
      | exact keep _ _ hud (e1 (by omega)) rfl rfl
      | exact zero .none hud (e2 (by omega)) rfl
      | exact keep _ _ hud (e3 (by omega) (by omega) (by omega)) rfl rfl
      | exact e4' (by omega) (by omega) (by omega)
      | exact keep _ _ hud (e5 (by omega) (by omega) (by omega)) rfl rfl
  · refine ⟨fun h => by simp at h, fun _ => ⟨fun h => by simp at h, fun _ => ⟨fun h => by simp at h, fun _ => ⟨fun h => by simp at h, fun _ => ⟨fun _ => ?_, fun h => by simp at h⟩⟩⟩⟩⟩
    refine ⟨fun h92 => ⟨fun hl => ?_, fun hl => ?_⟩, fun h92 => ?_⟩
    · have hs : stepP ⟨4, ps, pl, lg⟩ c = (.zero, ⟨4, 0, [], pl⟩) := by
        simp only [Bool.not_eq_true', decide_eq_true_eq] at hl h92
        unfold stepP; rw [if_neg (by simp), if_neg (by simp), if_neg (by simp), if_neg (by simp), if_pos rfl, if_pos ⟨h92, hl⟩]
      exact zero ⟨4, 0, [], pl⟩ hud hs rfl
    · have hs : stepP ⟨4, ps, pl, lg⟩ c = (.zero, .none) := by
        simp only [Bool.not_eq_false', decide_eq_true_eq] at hl h92
        unfold stepP; rw [if_neg (by simp), if_neg (by simp), if_neg (by simp), if_neg (by simp), if_pos rfl, if_neg (by simp [hl])]
      exact zero .none hudd hs rfl
    · have hs : stepP ⟨4, ps, pl, lg⟩ c = (.zero, .none) := by
        simp only [decide_eq_false_iff_not] at h92
        unfold stepP; rw [if_neg (by simp), if_neg (by simp), if_neg (by simp), if_neg (by simp), if_pos rfl, if_neg (by simp [h92])]
      exact zero .none hudd hs rfl

/-- Behind so many bytes: a parser that is good, the events so far. -/
structure FeedI (u : World) (pr0 : Pr) (s : ByteArray) (lp : Option Addr) (ln lc : Nat) (x : Int) (pr : Pr) (pp : Option Addr) (pn pc : Nat) (evs : List Ev) (xs : List (List Value)) (u1 : World) : Prop where
  good : GoodP pr
  lo : 0 ≤ x
  hi : x ≤ (s.size : Nat)
  own : Own u1 1 pp pn pc (numV pr.ps)
  list : Own u1 4 lp ln lc xs.flatten
  told : Evs u1 (fun k => k < u1.heap.size ∧ ¬ At lp k ∧ ¬ At pp k ∧ u.heap.size ≤ k) xs evs
  eq : feedP pr0 s.data.toList = ((feedP pr (s.data.toList.drop x.toNat)).1, evs ++ (feedP pr (s.data.toList.drop x.toNat)).2)
  few : (ln : Int) ≤ x
  ext : Ext u u1
  newP : ∀ k, At pp k → u.heap.size ≤ k
  newL : ∀ k, At lp k → u.heap.size ≤ k
  apart : ∀ k, At pp k → ¬ At lp k

theorem bytes_len (s : ByteArray) : s.data.toList.length = s.size := by rw [Array.length_toList]; rfl

/-- An event's cells. -/
def evRow (e : Ev) (ep : Option Addr) (en ec : Nat) : List Value := [.int .i64 e.kind, .int .i64 e.b, .slice ep en ec, .string e.pl]

theorem Evs.flat {u : World} {ok : Nat → Prop} {xs : List (List Value)} {es : List Ev} (h : Evs u ok xs es) : xs.flatten.length = es.length * 4 := by
  rw [flatten_len xs h.each, h.len]

def FeedPost (u : World) (r : Pr × List Ev) (e : Ending) (u' : World) : Prop :=
  ∃ (q : Option Addr) (n c : Nat) (lp : Option Addr) (ln lc : Nat), e = .returned (.tuple #[PrV r.1 q n c, .slice lp ln lc, .int .i64 0]) ∧ Nums u' q n r.1.ps ∧ EvL u' (fun _ => True) lp ln r.2 ∧ Ext u u'

/-- The same, and where the parser's numbers lie: they are new. -/
def FeedFar (u : World) (r : Pr × List Ev) (e : Ending) (u' : World) : Prop :=
  ∃ (q : Option Addr) (n c : Nat) (lp : Option Addr) (ln lc : Nat), e = .returned (.tuple #[PrV r.1 q n c, .slice lp ln lc, .int .i64 0]) ∧ Nums u' q n r.1.ps ∧ EvL u' (fun k => u.heap.size ≤ k) lp ln r.2 ∧ ((∀ k, At q k → u.heap.size ≤ k) ∧ ∀ k, At lp k → u.heap.size ≤ k) ∧ Ext u u'

theorem FeedFar.post {u u' : World} {r : Pr × List Ev} {e : Ending} (h : FeedFar u r e u') : FeedPost u r e u' := by
  obtain ⟨q, n, c, lp, ln, lc, h1, h2, h3, _, h5⟩ := h
  obtain ⟨xs, k1, k2⟩ := h3
  exact ⟨q, n, c, lp, ln, lc, h1, h2, ⟨xs, k1, k2.upd (Upd.refl _) (S := fun _ => False) fun _ _ => ⟨fun h => h, trivial⟩⟩, h5⟩

theorem FeedI.post {u : World} {pr0 : Pr} {s : ByteArray} {lp : Option Addr} {ln lc : Nat} {x : Int} {pr : Pr} {pp : Option Addr} {pn pc : Nat} {evs : List Ev} {xs : List (List Value)} {u1 : World} (h : FeedI u pr0 s lp ln lc x pr pp pn pc evs xs u1) (hx : x = (s.size : Nat)) :
    FeedFar u (feedP pr0 s.data.toList) (.returned (.tuple #[PrV pr pp pn pc, .slice lp ln lc, .int .i64 0])) u1 := by
  have hd : s.data.toList.drop x.toNat = [] := by
    apply List.drop_eq_nil_of_le
    rw [bytes_len]
    omega
  have heq := h.eq
  rw [hd] at heq
  simp only [feedP, List.append_nil] at heq
  rw [heq]
  refine ⟨pp, pn, pc, lp, ln, lc, rfl, h.own.nums, ⟨xs, ⟨h.list.gets, ?_, h.told.each⟩, h.told.upd (Upd.refl _) (S := fun _ => False) fun _ hk => ⟨fun h => h, hk.2.2.2⟩⟩, ⟨h.newP, h.newL⟩, h.ext⟩
  have := h.list.len
  rw [flatten_len xs h.told.each] at this
  omega

theorem drop_cons {l : List UInt8} {i : Nat} {b : UInt8} (h : l[i]? = some b) : l.drop i = b :: l.drop (i + 1) := by
  obtain ⟨hi, rfl⟩ := List.getElem?_eq_some_iff.1 h
  exact List.drop_eq_getElem_cons hi

/-- One byte more, and what it told. -/
theorem FeedI.step {u : World} {pr0 : Pr} {s : ByteArray} {lp : Option Addr} {ln lc : Nat} {x : Int} {pr : Pr} {pp : Option Addr} {pn pc : Nat} {evs : List Ev} {xs : List (List Value)} {u1 : World} (h : FeedI u pr0 s lp ln lc x pr pp pn pc evs xs u1)
    {b : UInt8} (hb : s.data.toList[x.toNat]? = some b) {e : Ending} {u2 v : World} (hv : Ext u1 v) (hs : StepPost v pp (stepP pr b.toNat) e u2) :
    ∃ q n c ep en ec, e = .returned (.tuple #[PrV (stepP pr b.toNat).1 q n c, EvV (stepP pr b.toNat).2 ep en ec]) ∧ Own u2 4 lp ln lc xs.flatten ∧ 
      ((stepP pr b.toNat).2.kind = 0 → FeedI u pr0 s lp ln lc (x + 1) (stepP pr b.toNat).1 q n c evs xs u2) ∧
      ((stepP pr b.toNat).2.kind ≠ 0 → ∀ w w' lp' lc', Ext u2 w → u2.heap.size ≤ w.heap.size → Own w' 4 lp' (ln + 1) lc' (xs ++ [evRow (stepP pr b.toNat).2 ep en ec]).flatten → Upd (At lp) w w' → ((lp' = lp) ∨ lp' = some ⟨w.heap.size, 0, none⟩) →
        FeedI u pr0 s lp' (ln + 1) lc' (x + 1) (stepP pr b.toNat).1 q n c (evs ++ [(stepP pr b.toNat).2]) (xs ++ [evRow (stepP pr b.toNat).2 ep en ec]) w') := by
  obtain ⟨q, n, c, ep, en, ec, he, hown, hnums, hupd, hq, hep⟩ := hs
  obtain ⟨hgood, hlo, hhi, hO, hL, hE, heq, hfew, hext, hnP, hnL, hap⟩ := h
  have hlt : x.toNat < s.data.toList.length := (List.getElem?_eq_some_iff.1 hb).1
  have hsz : s.data.toList.length = s.size := bytes_len s
  have hx1 : (x + 1).toNat = x.toNat + 1 := by omega
  have hext2 : Ext u v := hext.ext hv
  have hPv : ∀ k, At pp k → k < u1.heap.size := fun k hk => (hO.at hk).1
  have hLv : ∀ k, At lp k → k < u1.heap.size := fun k hk => (hL.at hk).1
  have hvs := hv.size
  have hus := hupd.size
  have hux := hext.size
  have hQ : ∀ k, At q k → u.heap.size ≤ k := fun k hk => by
    rcases hq k hk with h | h
    · exact hnP k h
    · omega
  have hQL : ∀ k, At q k → ¬ At lp k := fun k hk hl => by
    rcases hq k hk with h | h
    · exact hap k h hl
    · have := hLv k hl; omega
  have hE2 : Evs u2 (fun k => k < u1.heap.size ∧ ¬ At lp k ∧ ¬ At pp k ∧ u.heap.size ≤ k) xs evs := (hE.upd hv (ok' := fun k => k < u1.heap.size ∧ ¬ At lp k ∧ ¬ At pp k ∧ u.heap.size ≤ k) fun k hk => ⟨fun h => h, hk⟩).upd hupd fun k hk => ⟨hk.2.2.1, hk⟩
  have hL2 : Own u2 4 lp ln lc xs.flatten := (hL.ext hv).upd hupd fun k hk hp => hap k hp hk
  have hext3 : Ext u u2 := (hext2.trans hupd fun k hk hp => by have := hnP k hp; omega).mono fun _ _ h => h
  have hokQ : ∀ k, k < u1.heap.size ∧ ¬ At lp k ∧ ¬ At pp k ∧ u.heap.size ≤ k → ¬ At q k := fun k hk hqk => by
    rcases hq k hqk with h | h
    · exact hk.2.2.1 h
    · have := hk.1; omega
  have hf : feedP pr0 s.data.toList = ((feedP (stepP pr b.toNat).1 (s.data.toList.drop (x + 1).toNat)).1, (evs ++ (if (stepP pr b.toNat).2.kind = 0 then [] else [(stepP pr b.toNat).2])) ++ (feedP (stepP pr b.toNat).1 (s.data.toList.drop (x + 1).toNat)).2) := by
    rw [heq, drop_cons hb, hx1]
    simp only [feedP, List.append_assoc]
  refine ⟨q, n, c, ep, en, ec, he, hL2, fun hk => ?_, fun hk w w' lp' lc' hw hws hOw hUw hlp => ?_⟩
  · rw [if_pos hk, List.append_nil] at hf
    exact ⟨step_good hgood, by omega, by omega, hown, hL2, hE2.upd (Upd.refl _) (S := fun _ => False) fun k hk => ⟨fun h => h, by omega, hk.2.1, hokQ k hk, hk.2.2.2⟩, hf, by omega, hext3, hQ, hnL, hQL⟩
  · rw [if_neg hk] at hf
    have hww := hUw.size
    have hw1 := hw.size
    have hlp' : ∀ k, k < w.heap.size → At lp' k → At lp k := fun k hk hl => by
      rcases hlp with rfl | rfl
      · exact hl
      · have := at_some hl; simp only at this; omega
    have hok : ∀ k, k < u1.heap.size ∧ ¬ At lp k ∧ ¬ At pp k ∧ u.heap.size ≤ k → k < w'.heap.size ∧ ¬ At lp' k ∧ ¬ At q k ∧ u.heap.size ≤ k := fun k hk => ⟨by have := hk.1; omega, fun h => hk.2.1 (hlp' k (by have := hk.1; omega) h), hokQ k hk, hk.2.2.2⟩
    have hEw : Evs w' (fun k => k < w'.heap.size ∧ ¬ At lp' k ∧ ¬ At q k ∧ u.heap.size ≤ k) xs evs := (hE2.upd hw (ok' := fun k => k < u1.heap.size ∧ ¬ At lp k ∧ ¬ At pp k ∧ u.heap.size ≤ k) fun k hk => ⟨fun h => h, hk⟩).upd hUw fun k hk => ⟨hk.2.1, hok k hk⟩
    refine ⟨step_good hgood, by omega, by omega, (hown.ext hw).upd hUw hQL, hOw, hEw.snoc ⟨ep, en, ec, rfl, (hnums.ext hw).upd hUw fun k hk => hap k (hep k hk).1, fun k hk => ⟨by have := hPv k (hep k hk).1; omega, fun h => hap k (hep k hk).1 (hlp' k (by have := hPv k (hep k hk).1; omega) h), (hep k hk).2, hnP k (hep k hk).1⟩⟩, hf, by omega, ?_, hQ, ?_, fun k hk hl => ?_⟩
    · exact ((hext3.ext hw).trans hUw fun k hk hl => by have := hnL k hl; omega).mono fun _ _ h => h
    · intro k hl
      rcases hlp with rfl | rfl
      · exact hnL k hl
      · rw [at_some hl]; have := hext3.size; simp only; omega
    · rcases Nat.lt_or_ge k w.heap.size with h | h
      · exact hQL k hk (hlp' k h hl)
      · rcases hq k hk with h2 | h2
        · have := hPv k h2; omega
        · have := (hown.at hk).1; omega

theorem feed_far (pr : Pr) (pp : Option Addr) (pn pc : Nat) (s : ByteArray) {u : World} (h : Nums u pp pn pr.ps) (hs : s.size ≤ 4194304) :
    Spec Tryd.prog fn_parse_Feed #[PrV pr pp pn pc, .string s] u fun e u' => (GoodP pr ∧ FeedFar u (feedP pr s.data.toList) e u') ∨ (¬ GoodP pr ∧ e = .returned (.tuple #[PrV pr pp pn pc, .slice none 0 0, .int .i64 1]) ∧ Ext u u') := by
  apply vc_parse_Feed_spec
  unfold vc_parse_Feed
  have hu : Ext u (allocW (allocW u hole) hole) := ((Upd.refl u).alloc _).alloc _
  refine (good_ok pr pp pn pc (h.ext hu)).mono fun e u1 ⟨g, he, hg, hu1⟩ => ⟨g, he, fun hn => .inr ⟨?_, rfl, hu.ext hu1⟩, fun hn => ?_⟩
  · intro h
    rw [hg.2 h] at hn
    cases hn
  have hgood : GoodP pr := hg.1 (by simpa using hn)
  have hu2 := hu.ext hu1
  have hlen := hgood.len
  have hpn := h.2
  refine (clone_ok pp pn pc (h.ext hu2) (by omega)).mono fun e u2 ⟨q, c, he, ho, hu3, hq⟩ => ⟨q, pn, c, he, ?_⟩
  have hu4 := hu2.ext hu3
  refine ⟨fun lp ln lc x at_ pp' pn' pc' pl long u1 => ∃ ps evs xs, FeedI u pr s lp ln lc x ⟨at_, ps, pl, long⟩ pp' pn' pc' evs xs u1, fun _ _ _ x _ _ _ _ _ _ _ => ((s.size : Nat) - x).toNat, ⟨rfl, pr.ps, [], [], hgood, by omega, by omega, ho, Own.nil _ _, trivial, by simp, by omega, hu4, fun k hk => Nat.le_trans hu2.size (hq k hk), fun _ h => (at_none h).elim, fun _ _ h => at_none h⟩, ?_⟩
  intro lp ln lc x at_ pp' pn' pc' pl long
  refine ⟨rfl, fun u5 ⟨ps, evs, xs, hI⟩ => ⟨fun hx => ?_, fun hx => ?_⟩⟩
  · have hx' : x < (s.size : Nat) := by simpa using hx
    have h0 := hI.lo
    have hin : x.toNat < s.data.toList.length := by
      have := bytes_len s
      omega
    have hb : s.data.toList[x.toNat]? = some (s.data.toList[x.toNat]) := List.getElem?_eq_getElem hin
    generalize s.data.toList[x.toNat] = b at hb
    have hb255 : b.toNat < 256 := b.toNat_lt
    refine ⟨h0, b, hb, by simp only [inK]; omega, ?_⟩
    have hv : Ext u5 (drewW (allocW u5 hole)) := ((Upd.refl u5).alloc _).drew
    refine (step_ok ⟨at_, ps, pl, long⟩ pp' pn' pc' b.toNat (hI.own.ext hv) hI.good (by omega) (by omega)).mono fun e u6 hs' => ?_
    obtain ⟨q, n, c, ep, en, ec, he, hL, hz, hnz⟩ := hI.step hb hv hs'
    generalize stepP ⟨at_, ps, pl, long⟩ b.toNat = r at *
    refine ⟨_, _, _, _, _, _, _, _, _, _, _, _, he, fun hk => ?_, fun hk => ?_⟩
    · have hk' : r.2.kind ≠ 0 := by simpa using hk
      have hw : Ext u6 (allocW u6 (.cells #[.int .i64 r.2.kind, .int .i64 r.2.b, .slice ep en ec, .string r.2.pl] ty_api_Event)) := (Upd.refl u6).alloc _
      have hLw := hL.ext hw
      have ef : Own (allocW u6 (.cells #[.int .i64 r.2.kind, .int .i64 r.2.b, .slice ep en ec, .string r.2.pl] ty_api_Event)) 4 _ 1 1 [.int .i64 r.2.kind, .int .i64 r.2.b, .slice ep en ec, .string r.2.pl] := Own.fresh u6 (cs := [.int .i64 r.2.kind, .int .i64 r.2.b, .slice ep en ec, .string r.2.pl]) rfl
      have hfew := hI.few
      refine ⟨xs.flatten, _, hLw.len, hLw.gets, rfl, ef.gets, by decide, by omega, by simp [okCells], fun hc => hLw.wrs (by omega), fun p' cap u7 hr => ?_⟩
      obtain ⟨h1, h2, h3⟩ := hLw.app hr hLw.len hLw.gets rfl rfl
      refine ⟨by simp only [inK]; omega, rfl, ⟨r.1.ps, _, _, hnz hk' _ _ p' cap hw hw.size ?_ h2 (h3.imp (fun h => h.1) fun h => h.1)⟩, rfl, by dsimp only; omega⟩
      rw [List.flatten_append]
      simpa [evRow] using h1
    · have hk' : r.2.kind = 0 := by simpa using hk
      exact ⟨by simp only [inK]; omega, rfl, ⟨r.1.ps, _, _, hz hk'⟩, rfl, by dsimp only; omega⟩
  · have hx' : ¬ x < (s.size : Nat) := by simpa using hx
    exact .inl ⟨hgood, hI.post (by have := hI.hi; omega)⟩

theorem feed_ok (pr : Pr) (pp : Option Addr) (pn pc : Nat) (s : ByteArray) {u : World} (h : Nums u pp pn pr.ps) (hs : s.size ≤ 4194304) :
    Spec Tryd.prog fn_parse_Feed #[PrV pr pp pn pc, .string s] u fun e u' => (GoodP pr ∧ FeedPost u (feedP pr s.data.toList) e u') ∨ (¬ GoodP pr ∧ e = .returned (.tuple #[PrV pr pp pn pc, .slice none 0 0, .int .i64 1]) ∧ Ext u u') :=
  (feed_far pr pp pn pc s h hs).mono fun _ _ h => h.imp (fun h => ⟨h.1, h.2.post⟩) id

end Go.Proofs.YtkmmphkjmamckabDoor
