/-
  A client is shown what is.
-/
import Derived.Test.YtkmmphkjmamckabDoorSVisit
import Derived.Test.YtkmmphkjmamckabDoorDAnew
import Derived.Test.YtkmmphkjmamckabDoorVWalk
import Derived.Test.YtkmmphkjmamckabDoorZVe
namespace Go.Proofs.YtkmmphkjmamckabDoor
open Go
set_option linter.all false

theorem takeN_pre {α : Type} {cs x : List α} {a n m : Nat} (h : takeN cs a n = some x) (hm : a + n ≤ m) : takeN (cs.take m) a n = some x := by
  obtain ⟨k1, k2⟩ := takeN_get _ _ _ _ h
  refine takeN_mk _ _ _ _ k1 fun j hj => ?_
  rw [List.getElem?_take_of_lt (by omega)]
  exact k2 j hj

theorem takeN_whole {α : Type} (x : List α) : takeN x 0 x.length = some x := takeN_mk _ _ _ _ rfl fun j hj => by simp

/-- The view, as it lies in the server. -/
theorem SvC.view {u : World} {ok : Nat → Prop} {s : Sv} {cs : List Value} (h : SvC u ok s cs) (few : FewT 1048576 s.v.cols) (hg : ∀ p, p < 6 → gridOf s.v p = .zero ∨ GoodG (gridOf s.v p)) :
    (cs.take 58).length = 58 ∧ takeN cs 0 58 = some (cs.take 58) ∧ VwM u (cs.take 58) s.v := by
  have hl : (cs.take 58).length = 58 := by rw [List.length_take, h.len]; rfl
  refine ⟨hl, takeN_mk _ _ _ _ hl fun j hj => by rw [List.getElem?_take_of_lt hj, Nat.zero_add], ?_⟩
  obtain ⟨p, c, k1, k2⟩ := h.tiles
  refine ⟨⟨p, c, takeN_pre k1 (by decide), k2.tl⟩, few, fun i hi => ?_, takeN_pre h.wide (by decide), takeN_pre h.high (by decide), takeN_pre h.focus (by decide), by have := takeN_whole (cs.take 58); rwa [hl] at this⟩
  obtain ⟨x, m1, ⟨p, c, rfl, m2, m3, m4⟩, m5⟩ := h.grid i hi
  refine ⟨p, c, takeN_pre m1 (by omega), m2, by have : (gridOf s.v i).cells.length ≤ 1000 := m5; show (gridOf s.v i).cells.length ≤ _; omega, ?_, ?_⟩
  · show inK .i64 (gridOf s.v i).row
    rcases hg i hi with e | e
    · rw [e]; simp only [inK]; decide
    · have := e.r1; have := e.r2; have := e.h2; simp only [inK]; omega
  · show inK .i64 (gridOf s.v i).col
    rcases hg i hi with e | e
    · rw [e]; simp only [inK]; decide
    · have := e.c1; have := e.c2; have := e.w2; simp only [inK]; omega

theorem bstr_app (a b : Bs) : bstr a ++ bstr b = bstr (a ++ b) := by
  apply bstr_of
  simp [ByteArray.data_append, bstr_list]

/-- What a client shown what is comes to. -/
structure ShTo (u : World) (sb : Nat) (B : Nat → Prop) (s : Sv) (i : Nat) (e : Ending) (u' : World) : Prop where
  e : e = .returned (.tuple #[])
  mem : SvM u' sb B { s with clients := s.clients.set i (showS s.v (clientOf s i)) }
  upd : Upd (· = sb) u u'

theorem show_end {u W : World} {sb i co : Nat} {B : Nat → Prop} {s : Sv} (h : SvM u sb B s) (hW : Ext u W) (hcl : s.clients.length = 3) (hi : i < 3) (hco : co = 82 + i * 12) (hq : (clientOf s i).queue.length ≤ 4000)
    {g : Gr} {gp : Option Addr} {gc : Nat} {l : Bs} {b : ByteArray} (hb : b.data.toList = l) (hll : l.length ≤ 10000) (hC : Cells W gp g.cells) (hk : ∀ k, At gp k → ¬ B k) (hgl : g.cells.length ≤ 1000)
    (hs : showS s.v (clientOf s i) = if 4000 - ((clientOf s i).queue.length : Int) < (l.length : Int) then { clientOf s i with lost := true } else ⟨(clientOf s i).here, g, (clientOf s i).queue ++ l, false⟩) :
    (¬ (0 : Int) = 0 → ShTo u sb B s i (.returned (.tuple #[])) W) ∧ ((0 : Int) = 0 → ∃ x81 : ByteArray, 1 = ([.string x81] : List Value).length ∧ Rd W sb (co + 10) [.string x81] ∧ inK .i64 (4000 - ((x81.size : Nat) : Int)) ∧
      ((4000 - ((x81.size : Nat) : Int) < ((b.size : Nat) : Int) → 1 = ([.bool true] : List Value).length ∧ Wr W sb (co + 11) 1 ∧ ShTo u sb B s i (.returned (.tuple #[])) (putCells W sb (co + 11) [.bool true])) ∧
       (¬ 4000 - ((x81.size : Nat) : Int) < ((b.size : Nat) : Int) → ∃ x60 : ByteArray, 1 = ([.string x60] : List Value).length ∧ Rd W sb (co + 10) [.string x60] ∧ ((x60.size + b.size : Nat) : Int) ≤ 9223372036854775807 ∧ 1 = ([.string (x60 ++ b)] : List Value).length ∧
        Wr W sb (co + 10) 1 ∧ 9 = (grV g gp g.cells.length gc).length ∧ Wr (putCells W sb (co + 10) [.string (x60 ++ b)]) sb (co + 1) 9 ∧ 1 = ([.bool false] : List Value).length ∧
        Wr (putCells (putCells W sb (co + 10) [.string (x60 ++ b)]) sb (co + 1) (grV g gp g.cells.length gc)) sb (co + 11) 1 ∧
        ShTo u sb B s i (.returned (.tuple #[])) (putCells (putCells (putCells W sb (co + 10) [.string (x60 ++ b)]) sb (co + 1) (grV g gp g.cells.length gc)) sb (co + 11) [.bool false])))) := by
  subst hco
  have S := h.ext hW
  obtain ⟨cs, hc, hrd⟩ := S.rd
  obtain ⟨y, Y, y0, y10, y11, _, _, ysub⟩ := hc.ct hi
  have hbs : b = bstr l := bstr_of hb
  subst hbs
  have r10 := hrd (ysub y10 (by decide))
  have z1 := bstr_sz (clientOf s i).queue
  have z2 := bstr_sz l
  refine ⟨fun hn => (hn rfl).elim, fun _ => ⟨_, rfl, r10, by rw [z1]; simp only [inK]; omega, fun hbig => ⟨rfl, ?_⟩, fun hbig => ⟨_, rfl, r10, by rw [z1, z2]; omega, rfl, ?_⟩⟩⟩
  · rw [z1, z2] at hbig
    obtain ⟨m1, m2⟩ := S.setClient hcl hi (r := { clientOf s i with lost := true }) (a := 11) (m := 1) (ys := [.bool true]) rfl (by decide) (fun x hx' => by
      obtain ⟨⟨p, d, rfl, c1, c2⟩, c3⟩ := hx'
      exact ⟨_, rfl, ⟨⟨p, d, rfl, c1, c2⟩, c3⟩⟩) (o := 82 + i * 12 + 11) rfl
    refine ⟨m1, rfl, ?_, (hW.any (S := (· = sb))).put (fun _ => rfl) _ _⟩
    rw [hs, if_pos hbig]
    exact m2
  · rw [z1, z2] at hbig
    rw [bstr_app]
    obtain ⟨m1, m2⟩ := S.setClient hcl hi (r := { clientOf s i with queue := (clientOf s i).queue ++ l }) (a := 10) (m := 1) (ys := [.string (bstr ((clientOf s i).queue ++ l))]) rfl (by decide) (fun x hx' => by
      obtain ⟨⟨p, d, rfl, c1, c2⟩, c3⟩ := hx'
      exact ⟨_, rfl, ⟨⟨p, d, rfl, c1, c2⟩, c3⟩⟩) (o := 82 + i * 12 + 10) rfl
    have hC2 : Cells (putCells W sb (82 + i * 12 + 10) [.string (bstr ((clientOf s i).queue ++ l))]) gp g.cells := hC.upd (upd_put sb _ _) fun k hk1 e => hk k hk1 (e ▸ h.own)
    have cl1 : clientOf { s with clients := s.clients.set i { clientOf s i with queue := (clientOf s i).queue ++ l } } i = { clientOf s i with queue := (clientOf s i).queue ++ l } := by rw [client_set (by omega), if_pos rfl]
    obtain ⟨n1, n2⟩ := m2.setClient (by show (s.clients.set _ _).length = 3; rw [List.length_set]; exact hcl) hi (r := { clientOf s i with queue := (clientOf s i).queue ++ l, shown := g }) (a := 1) (m := 9) (ys := grV g gp g.cells.length gc) rfl (by decide) (fun x hx' => by
      rw [cl1] at hx'
      obtain ⟨⟨p, d, rfl, c1, c2⟩, c3⟩ := hx'
      exact ⟨_, rfl, ⟨⟨gp, gc, rfl, hC2, fun _ => hk⟩, hgl⟩⟩) (o := 82 + i * 12 + 1) rfl
    have cl2 : clientOf { s with clients := (s.clients.set i { clientOf s i with queue := (clientOf s i).queue ++ l }).set i { clientOf s i with queue := (clientOf s i).queue ++ l, shown := g } } i = { clientOf s i with queue := (clientOf s i).queue ++ l, shown := g } := by
      show ((s.clients.set i _).set i _).getD i .zero = _
      simp [List.getD_eq_getElem?_getD, hcl, hi]
    obtain ⟨q1, q2⟩ := n2.setClient (by show ((s.clients.set _ _).set _ _).length = 3; rw [List.length_set, List.length_set]; exact hcl) hi (r := ⟨(clientOf s i).here, g, (clientOf s i).queue ++ l, false⟩) (a := 11) (m := 1) (ys := [.bool false]) rfl (by decide) (fun x hx' => by
      rw [cl2] at hx'
      obtain ⟨⟨p, d, rfl, c1, c2⟩, c3⟩ := hx'
      exact ⟨_, rfl, ⟨⟨p, d, rfl, c1, c2⟩, c3⟩⟩) (o := 82 + i * 12 + 11) rfl
    refine ⟨m1, rfl, n1, rfl, q1, rfl, ?_, (((hW.any (S := (· = sb))).put (fun _ => rfl) _ _).put (fun _ => rfl) _ _).put (fun _ => rfl) _ _⟩
    rw [hs, if_neg hbig]
    simpa only [List.set_set] using q2

end Go.Proofs.YtkmmphkjmamckabDoor
