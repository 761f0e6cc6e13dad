/-
  A list of acts that is read has room for what it holds.
-/
import Derived.Test.YtkmmphkjmamckabDoorARep2
namespace Go.Proofs.YtkmmphkjmamckabDoor
open Go
set_option linter.all false

theorem acts_cap {u : World} {B n : Nat} {p : Option Addr} {m c : Nat} (h : Rep tab u B (n + 4) ty_sl_api_Act [.slice p m c]) : m ≤ c := by
  obtain ⟨p', m', c', ls, he, hA, hm, hmc, hels⟩ := h (by decide)
  cases he
  exact hmc

end Go.Proofs.YtkmmphkjmamckabDoor
