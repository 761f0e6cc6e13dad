/-
  Acts are played, plainly; and where a server and its terminals lie.
-/
import Derived.Test.YtkmmphkjmamckabDoorTmWalk
import Derived.Test.YtkmmphkjmamckabDoorARep2
namespace Go.Proofs.YtkmmphkjmamckabDoor
open Go
set_option linter.all false

abbrev Ac.zero : Ac := ⟨0, 0, 0, 0, []⟩

/-- What so many acts come to. -/
def playN (l : List Ac) : Nat → Sv × List Tm
  | 0 => (newS, List.replicate 3 .zero)
  | i + 1 => ((doS (playN l i).1 (l.getD i .zero)).1, stepT (playN l i).2 (l.getD i .zero) (doS (playN l i).1 (l.getD i .zero)).2)

theorem play_inv (l : List Ac) : ∀ i : Nat, i ≤ 300 → PlayI i (playN l i).1 (playN l i).2
  | 0, _ => PlayI.start
  | i + 1, h => by
    have := (play_inv l i (by omega)).step (by omega) (l.getD i .zero)
    simpa [playN] using this

/-- A client has come: which one. -/
theorem do_attach {k : Int} {s : Sv} {t : List Tm} (h : PlayI k s t) (hk : k < 300) {a : Ac} (ha : a.kind = 6) (h0 : (doS s a).2.code = 0) : 0 ≤ a.p ∧ a.p < 3 := by
  have hi := h.inv.acts (s.acts + 1)
  have hacts := h.acts
  rw [do_lt (by omega), act_visit (.inl ha)] at h0
  rcases visit_law hi a with ⟨h1, _⟩ | ⟨_, h2, h3, _⟩
  · exact (h1 h0).elim
  · exact ⟨h2, h3⟩

/-- A client has taken what waits: it is here, and it did not get too much. -/
theorem do_drain {k : Int} {s : Sv} {t : List Tm} (h : PlayI k s t) (hk : k < 300) {a : Ac} (ha : a.kind = 9) (h0 : (doS s a).2.code = 0) : 0 ≤ a.p ∧ a.p < 3 ∧ GoodP (tmOf t a.p.toNat).p ∧ GoodG (tmOf t a.p.toNat).g ∧ (doS s a).2.out.length ≤ 4000 := by
  have hi := h.inv.acts (s.acts + 1)
  have hacts := h.acts
  rw [do_lt (by omega), act_visit (.inr (.inr ha))] at h0 ⊢
  rcases visit_law hi a with ⟨h1, _⟩ | ⟨_, h2, h3, _, _, h6⟩
  · exact (h1 h0).elim
  · rcases h6 with ⟨g1, _⟩ | ⟨g1, _⟩ | ⟨_, _, g3, g4, g5⟩
    · omega
    · omega
    · have htm := h.tm a.p.toNat (by omega)
      have hct := (h.inv.clients a.p.toNat (by omega)).on g3
      refine ⟨h2, h3, htm.pr, (htm.on g3).1, ?_⟩
      rw [g5]
      show (List.take _ _).length ≤ 4000
      rw [List.length_take]
      have e : clientOf { s with acts := s.acts + 1 } a.p.toNat = clientOf s a.p.toNat := rfl
      rw [e]
      have := hct.2
      omega

/-- Where a server and its terminals lie, once acts are played: all of it is new. -/
structure PlayM (n0 : Nat) (u : World) (sb tb : Nat) (s : Sv) (t : List Tm) : Prop where
  sv : SvM u sb (fun k => k = sb ∨ k = tb ∨ k < n0) s
  tm : TmM u tb (fun k => k = sb ∨ k = tb ∨ k < n0) t
  ne : sb ≠ tb
  sn : n0 ≤ sb
  tn : n0 ≤ tb

theorem PlayM.ext {n0 : Nat} {u u' : World} {sb tb : Nat} {s : Sv} {t : List Tm} (h : PlayM n0 u sb tb s t) (hu : Ext u u') : PlayM n0 u' sb tb s t := ⟨h.sv.ext hu, h.tm.ext hu, h.ne, h.sn, h.tn⟩

/-- Old blocks are written. -/
theorem PlayM.upd {S : Nat → Prop} {n0 : Nat} {u u' : World} {sb tb : Nat} {s : Sv} {t : List Tm} (h : PlayM n0 u sb tb s t) (hu : Upd S u u') (hS : ∀ k, S k → k < n0) : PlayM n0 u' sb tb s t :=
  ⟨h.sv.upd hu fun k _ hk => by have := hS k hk; have := h.sn; omega, h.tm.upd hu fun k _ hk => by have := hS k hk; have := h.tn; omega, h.ne, h.sn, h.tn⟩

/-- The server does an act. -/
theorem PlayM.do_ {n0 : Nat} {u u' : World} {sb tb : Nat} {s s' : Sv} {t : List Tm} (h : PlayM n0 u sb tb s t) (hu : Upd (· = sb) u u') (hs : SvM u' sb (fun k => k = sb ∨ k = tb ∨ k < n0) s') : PlayM n0 u' sb tb s' t :=
  ⟨hs, h.tm.upd hu fun k _ hk => ⟨.inl hk, fun e => h.ne (hk.symm.trans e)⟩, h.ne, h.sn, h.tn⟩

/-- A terminal gets bytes. -/
theorem PlayM.got {n0 : Nat} {u u' : World} {sb tb : Nat} {s : Sv} {t t' : List Tm} (h : PlayM n0 u sb tb s t) (hu : Upd (· = tb) u u') (ht : TmM u' tb (fun k => k = sb ∨ k = tb ∨ k < n0) t') : PlayM n0 u' sb tb s t' :=
  ⟨h.sv.upd hu fun k _ hk => ⟨.inr (.inl hk), fun e => h.ne (e.symm.trans hk)⟩, ht, h.ne, h.sn, h.tn⟩

/-- Server and terminals are made. -/
theorem PlayM.start {u u1 : World} {sb : Nat} (h : SvM u1 sb (fun k => k = sb ∨ k < u.heap.size) newS) (hsb : u.heap.size ≤ sb) (hu : Ext u u1) (t : TypeId) :
    PlayM u.heap.size (allocW u1 (.cells ([.int .i64 0, .slice none 0 0, .string (ByteArray.mk #[]), .bool false, .int .i64 0, .int .i64 0, .slice none 0 0, .int .i64 0, .int .i64 0, .int .i64 0, .bool false, .int .i64 0, .int .i64 0, .int .i64 0, .slice none 0 0, .string (ByteArray.mk #[]), .bool false, .int .i64 0, .int .i64 0, .slice none 0 0, .int .i64 0, .int .i64 0, .int .i64 0, .bool false, .int .i64 0, .int .i64 0, .int .i64 0, .slice none 0 0, .string (ByteArray.mk #[]), .bool false, .int .i64 0, .int .i64 0, .slice none 0 0, .int .i64 0, .int .i64 0, .int .i64 0, .bool false, .int .i64 0, .int .i64 0] : List Value).toArray t)) sb u1.heap.size newS (List.replicate 3 .zero) := by
  have hlt := h.lt
  have hus := hu.size
  have ha : Ext u1 (allocW u1 (.cells ([.int .i64 0, .slice none 0 0, .string (ByteArray.mk #[]), .bool false, .int .i64 0, .int .i64 0, .slice none 0 0, .int .i64 0, .int .i64 0, .int .i64 0, .bool false, .int .i64 0, .int .i64 0, .int .i64 0, .slice none 0 0, .string (ByteArray.mk #[]), .bool false, .int .i64 0, .int .i64 0, .slice none 0 0, .int .i64 0, .int .i64 0, .int .i64 0, .bool false, .int .i64 0, .int .i64 0, .int .i64 0, .slice none 0 0, .string (ByteArray.mk #[]), .bool false, .int .i64 0, .int .i64 0, .slice none 0 0, .int .i64 0, .int .i64 0, .int .i64 0, .bool false, .int .i64 0, .int .i64 0] : List Value).toArray t)) := (Upd.refl _).alloc _
  refine ⟨h.more newS_ok.cols ha (.inl rfl) fun k hk => ⟨by omega, by rw [size_alloc]; omega⟩, ⟨⟨_, Blk.fresh _ _ _, rfl, fun c hc => ?_⟩, .inr (.inl rfl), fun k hk => by rw [size_alloc]; omega⟩, by omega, hsb, hus⟩
  match c, hc with
  | 0, _ => exact ⟨⟨_, rfl, PrAt.zero _ _⟩, _, rfl, GrAt.zero _ _⟩
  | 1, _ => exact ⟨⟨_, rfl, PrAt.zero _ _⟩, _, rfl, GrAt.zero _ _⟩
  | 2, _ => exact ⟨⟨_, rfl, PrAt.zero _ _⟩, _, rfl, GrAt.zero _ _⟩

/-- New blocks are written: what was read is as it was. -/
theorem ActL.new {S : Nat → Prop} {u u' : World} {p : Option Addr} {l : List Ac} (h : ActL u p l) (hu : Upd S u u') (hS : ∀ k, S k → u.heap.size ≤ k) : ActL u' p l := by
  by_cases h0 : 0 < l.length
  · refine ⟨h.arr.upd hu fun k hk hs => ?_⟩
    obtain ⟨b, o, rfl, hr⟩ := h.at h0 .zero
    have h1 := at_some hk
    have h2 := rd_lt hr
    have h3 := hS k hs
    simp only at h1
    omega
  · have : l = [] := List.length_eq_zero_iff.1 (by omega)
    subst this
    exact ⟨⟨gets_nil0 (by simpa using h.arr.gets), rfl, by simp⟩⟩

/-- Acts have been played. -/
structure PlayTo (u : World) (l : List Ac) (e : Ending) (u' : World) : Prop where
  ex : ∃ sb tb, e = .returned (.tuple #[.pointer (some ⟨sb, 0, none⟩), .pointer (some ⟨tb, 0, none⟩), .bool true]) ∧ PlayM u.heap.size u' sb tb (playN l (min l.length 100)).1 (playN l (min l.length 100)).2
  ext : Ext u u'

end Go.Proofs.YtkmmphkjmamckabDoor
