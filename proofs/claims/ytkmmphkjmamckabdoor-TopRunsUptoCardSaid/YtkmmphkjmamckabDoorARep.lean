/-
  What an act reads.
-/
import Derived.Test.YtkmmphkjmamckabDoorVcRep3
namespace Go.Proofs.YtkmmphkjmamckabDoor
open Go
set_option linter.all false

theorem rep_act {u : World} {B n : Nat} {cs : List Value} (h : Rep tab u B (n + 3) ty_api_Act cs) :
    ∃ (k p m i : Int) (b : ByteArray), cs = [.int .i64 k, .int .i64 p, .int .i64 m, .int .i64 i, .string b] ∧ b.size ≤ B ∧ inK .i64 k ∧ inK .i64 p ∧ inK .i64 m ∧ inK .i64 i := by
  obtain ⟨_, _, rfl, _, ⟨kind, rfl, h1⟩, _, _, rfl, _, ⟨p, rfl, h2⟩, _, _, rfl, _, ⟨m, rfl, h3⟩, _, _, rfl, _, ⟨i, rfl, h4⟩, _, _, rfl, _, ⟨b, rfl, hb⟩, rfl⟩ := h
  exact ⟨kind, p, m, i, b, rfl, hb, h1, h2, h3, h4⟩

end Go.Proofs.YtkmmphkjmamckabDoor
