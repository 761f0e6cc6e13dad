/-
  A function that answers a bool.
-/
import Derived.Test.YtkmmphkjmamckaaVcLib
namespace Go.Proofs.Ytkmmphkjmamckaa
open Go
set_option linter.all false

/-- A function that answers a bool, and leaves all as it was. -/
structure Told (u : World) (x : Bool) (e : Ending) (u' : World) : Prop where
  e : e = .returned (.bool x)
  ext : Ext u u'

theorem Own.some' {u : World} {es : Nat} {p : Option Addr} {n c : Nat} {cs : List Value} (h : Own u es p n c cs) (hn : 0 < n) : ∃ b, p = some ⟨b, 0, none⟩ := by
  rcases h with ⟨_, h, _⟩ | ⟨b, _, _, h, _⟩
  · omega
  · exact ⟨b, h⟩

end Go.Proofs.Ytkmmphkjmamckaa
