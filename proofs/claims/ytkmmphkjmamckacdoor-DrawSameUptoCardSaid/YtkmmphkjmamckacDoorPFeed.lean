/-
  Feeding, plainly: numbers are few, events no more than bytes; plain text; a byte that stops.
-/
import Derived.Test.YtkmmphkjmamckacDoorZP
namespace Go.Proofs.YtkmmphkjmamckacDoor
open Go
set_option linter.all false

theorem step_few {p : Pr} (h : GoodP p) (c : Int) : (stepP p c).2.ps.length ≤ 4 := by
  have hl := h.len
  unfold stepP cmdP
  repeat' split
  all_goals first | exact hl | exact Nat.zero_le _

theorem feed_few : ∀ (l : List UInt8) (p : Pr), GoodP p → ∀ e ∈ (feedP p l).2, e.ps.length ≤ 4
  | [], _, _, _, he => by simp [feedP] at he
  | b :: l, p, h, e, he => by
    simp only [feedP, List.mem_append] at he
    rcases he with he | he
    · split at he
      · simp at he
      · simp only [List.mem_singleton] at he
        rw [he]
        exact step_few h _
    · exact feed_few l _ (step_good h) e he

theorem feed_len : ∀ (l : List UInt8) (p : Pr), (feedP p l).2.length ≤ l.length
  | [], _ => by simp [feedP]
  | b :: l, p => by
    have := feed_len l (stepP p b.toNat).1
    simp only [feedP, List.length_append, List.length_cons]
    split <;> simp <;> omega

theorem plain_feed : ∀ (l : List UInt8), (∀ b ∈ l, 32 ≤ b.toNat ∧ b.toNat ≤ 126) → feedP .zero l = (.zero, l.map fun b => ⟨1, (b.toNat : Nat), [], noBytes⟩)
  | [], _ => rfl
  | b :: l, h => by
    have hb := h b List.mem_cons_self
    have ih := plain_feed l fun c hc => h c (List.mem_cons_of_mem _ hc)
    have hs : stepP .zero (b.toNat : Nat) = (.zero, ⟨1, (b.toNat : Nat), [], noBytes⟩) := by
      unfold stepP
      rw [if_pos (show Pr.zero.at_ = 0 from rfl), if_neg (by omega), if_pos (by omega)]
    simp only [feedP, hs, ih, List.map_cons]
    rfl

theorem stop_feed {p : Pr} (h : GoodP p) : feedP p [24] = (.zero, []) := by
  obtain ⟨h1, h2, h3, h4, h5, h6, h7⟩ := h
  obtain ⟨a, ps, pl, lg⟩ := p
  simp only at *
  have hps : a ≠ 2 → ps = [] := fun hn => List.length_eq_zero_iff.1 (by omega)
  have key : stepP ⟨a, ps, pl, lg⟩ (((24 : UInt8).toNat : Nat) : Int) = (.zero, .none) := by
    rcases (by omega : a = 0 ∨ a = 1 ∨ a = 2 ∨ a = 3 ∨ a = 4) with rfl | rfl | rfl | rfl | rfl
    · obtain rfl := hps (by omega)
      obtain ⟨rfl, rfl⟩ := h7.resolve_left (by omega) |>.resolve_left (by omega)
      rfl
    · obtain rfl := hps (by omega)
      obtain ⟨rfl, rfl⟩ := h7.resolve_left (by omega) |>.resolve_left (by omega)
      rfl
    · obtain ⟨rfl, rfl⟩ := h7.resolve_left (by omega) |>.resolve_left (by omega)
      have : cmdP ⟨2, ps, noBytes, false⟩ 24 = (.zero, .none) := by
        unfold cmdP
        rw [if_neg (by omega), if_neg (by omega), if_neg (by omega), if_neg (by omega)]
      exact this
    · rfl
    · cases lg <;> rfl
  simp only [feedP, key]
  rfl

theorem feed_append' : ∀ (a b : List UInt8) (p : Pr), feedP p (a ++ b) = ((feedP (feedP p a).1 b).1, (feedP p a).2 ++ (feedP (feedP p a).1 b).2)
  | [], _, _ => rfl
  | x :: a, b, p => by
    simp only [List.cons_append, feedP]
    rw [feed_append' a b]
    simp only [List.append_assoc]

end Go.Proofs.YtkmmphkjmamckacDoor
