/-
  A new server; what a client is told.
-/
import Derived.Test.YtkmmphkjmamckabDoorSDo
import Derived.Test.YtkmmphkjmamckabDoorZVd
namespace Go.Proofs.YtkmmphkjmamckabDoor
open Go
set_option linter.all false

/-- What waits for a client, whether something was lost, whether it is here. -/
def tellS (s : Sv) (i : Int) : Bs × Bool × Bool := if i < 0 ∨ 3 ≤ i ∨ (clientOf s i.toNat).here = false then ([], false, false) else ((clientOf s i.toNat).queue, (clientOf s i.toNat).lost, true)

theorem srvClient_ok {u : World} {sb : Nat} {B : Nat → Prop} {s : Sv} (h : SvM u sb B s) (i : Int) :
    Spec Tryd.prog fn_server_Server_Client #[.pointer (some ⟨sb, 0, none⟩), .int .i64 i] u fun e u' => e = .returned (.tuple #[.string (bstr (tellS s i).1), .bool (tellS s i).2.1, .bool (tellS s i).2.2]) ∧ Ext u u' := by
  apply vc_server_Server_Client_spec
  unfold vc_server_Server_Client
  simp only [decide_eq_true_eq, decide_eq_false_iff_not, true_and, Bool.not_eq_true', Bool.not_eq_false']
  have no : ∀ {v : World}, Ext u v → (i < 0 ∨ 3 ≤ i ∨ (clientOf s i.toNat).here = false) → (Ending.returned (.tuple #[.string (ByteArray.mk #[]), .bool false, .bool false]) = .returned (.tuple #[.string (bstr (tellS s i).1), .bool (tellS s i).2.1, .bool (tellS s i).2.2]) ∧ Ext u v) := fun hv hi => by
    unfold tellS
    rw [if_pos hi]
    exact ⟨rfl, hv⟩
  have hr : Ext u u := Upd.refl u
  refine ⟨fun hn => (by cases hn), fun _ => ⟨fun h1 => no hr (.inl h1), fun h1 => ⟨fun h2 => no hr (.inr (.inl h2)), fun h2 => ⟨by omega, by omega, ?_⟩⟩⟩⟩
  have hi : i.toNat < 3 := by omega
  obtain ⟨cs, hc, hrd⟩ := h.rd
  obtain ⟨y, Y, y0, y10, y11, _, _, ysub⟩ := hc.ct hi
  have hd : Ext u (drewW u) := hr.drew
  have rd : ∀ {w : World} {j m o : Nat} {z : List Value}, Ext u w → takeN y j m = some z → j + m ≤ 12 → o = 82 + i.toNat * 12 + j → Rd w sb o z := fun hw hz hjm ho => by
    rw [ho]
    exact hw.rd (hrd (ysub hz hjm)) fun h => h
  refine ⟨_, rfl, rd hr y0 (by decide) (by omega), fun hh => no hr (.inr (.inr hh)), fun hh => ⟨by omega, by omega, _, rfl, rd hd y10 (by decide) (by omega), by omega, by omega, _, rfl, rd hd y11 (by decide) (by omega), ?_⟩⟩
  unfold tellS
  rw [if_neg (by rw [hh]; simp; omega)]
  exact ⟨rfl, hd⟩

def newS0 : Sv := ⟨⟨[[0]], List.replicate 6 .zero, 20, 7, 0⟩, List.replicate 6 .zero, List.replicate 3 .zero, 0⟩

theorem new_aux {w : World} {C : List Value} {t : TypeId} {n0 : Nat} (hn : n0 ≤ w.heap.size) (hC : SvC w (fun k => ¬ (k = w.heap.size ∨ k < n0)) newS0 C) : Spec Tryd.prog fn_server_Server_fit #[.pointer (some ⟨w.heap.size, 0, none⟩)] (allocW w (.cells C.toArray t)) fun e u1 => e = .returned (.tuple #[]) ∧ SvM u1 w.heap.size (fun k => k = w.heap.size ∨ k < n0) newS ∧ Ext w u1 := by
  have ha : Ext w (allocW w (.cells C.toArray t)) := (Upd.refl _).alloc _
  have M : SvM (allocW w (.cells C.toArray t)) w.heap.size (fun k => k = w.heap.size ∨ k < n0) newS0 := ⟨⟨C, Blk.fresh _ _ _, hC.upd ha fun _ _ h => h⟩, .inl rfl, fun k hk => by rw [size_alloc]; omega⟩
  refine (sfit_ok M ⟨by decide, by simp [newS0]⟩ rfl rfl (fun i hi => .inr ?_)).mono fun e u1 ⟨he, hm, hu⟩ => ⟨he, hm, (ha.trans hu fun k hk h => by omega).mono fun _ _ h => h⟩
  match i, hi with
  | 0, _ | 1, _ | 2, _ | 3, _ | 4, _ | 5, _ => rfl

theorem srvNew_ok {u : World} : Spec Tryd.prog fn_server_New #[] u fun e u' => ∃ sb, e = .returned (.pointer (some ⟨sb, 0, none⟩)) ∧ SvM u' sb (fun k => k = sb ∨ k < u.heap.size) newS ∧ u.heap.size ≤ sb ∧ Ext u u' := by
  apply vc_server_New_spec
  unfold vc_server_New
  have e1 : Ext u (allocW u (.cells #[.int .i64 0] ty_int)) := (Upd.refl u).alloc _
  have e2 : Ext (allocW u (.cells #[.int .i64 0] ty_int)) (allocW (allocW u (.cells #[.int .i64 0] ty_int)) (.cells #[.slice (some (Addr.mk u.heap.size 0 none)) 1 1] ty_sl_int)) := (Upd.refl _).alloc _
  have s1 : (allocW u (.cells #[.int .i64 0] ty_int)).heap.size = u.heap.size + 1 := size_alloc _ _
  have s2 : (allocW (allocW u (.cells #[.int .i64 0] ty_int)) (.cells #[.slice (some (Addr.mk u.heap.size 0 none)) 1 1] ty_sl_int)).heap.size = u.heap.size + 2 := by rw [size_alloc, s1]
  have n1 : Nums (allocW u (.cells #[.int .i64 0] ty_int)) (some ⟨u.heap.size, 0, none⟩) 1 [0] := (Own.fresh u (cs := numV [0]) (n := 1) (es := 1) rfl).nums
  have o2 : Own (allocW (allocW u (.cells #[.int .i64 0] ty_int)) (.cells #[.slice (some (Addr.mk u.heap.size 0 none)) 1 1] ty_sl_int)) 1 (some ⟨(allocW u (.cells #[.int .i64 0] ty_int)).heap.size, 0, none⟩) 1 1 [.slice (some (Addr.mk u.heap.size 0 none)) 1 1] := Own.fresh (allocW u (.cells #[.int .i64 0] ty_int)) (cs := [.slice (some (Addr.mk u.heap.size 0 none)) 1 1]) (n := 1) (es := 1) rfl
  have t2 : TlF (allocW (allocW u (.cells #[.int .i64 0] ty_int)) (.cells #[.slice (some (Addr.mk u.heap.size 0 none)) 1 1] ty_sl_int)) (fun k => u.heap.size ≤ k ∧ k < u.heap.size + 2) (some ⟨(allocW u (.cells #[.int .i64 0] ty_int)).heap.size, 0, none⟩) [[0]] :=
    ⟨[[.slice (some (Addr.mk u.heap.size 0 none)) 1 1]], ⟨by simpa using o2.gets, rfl, by simp⟩, ⟨⟨_, _, rfl, n1.ext e2, fun k hk => by have := at_some hk; simp only at this; omega⟩, trivial⟩, fun k hk => by have := at_some hk; simp only at this; omega⟩
  generalize hw2 : allocW (allocW u (.cells #[.int .i64 0] ty_int)) (.cells #[.slice (some (Addr.mk u.heap.size 0 none)) 1 1] ty_sl_int) = w2 at *
  have x2 : Ext u w2 := by rw [← hw2]; exact e1.ext (by rw [hw2]; exact e2)
  have hsb : w2.heap.size = u.heap.size + 2 := s2
  have gz : ∀ i, i < 6 → gridOf newS0.v i = .zero := fun i hi => by
    match i, hi with
    | 0, _ | 1, _ | 2, _ | 3, _ | 4, _ | 5, _ => rfl
  have pz : ∀ i, i < 6 → parserOf newS0 i = .zero := fun i hi => by
    match i, hi with
    | 0, _ | 1, _ | 2, _ | 3, _ | 4, _ | 5, _ => rfl
  have cz : ∀ i, i < 3 → clientOf newS0 i = .zero := fun i hi => by
    match i, hi with
    | 0, _ | 1, _ | 2, _ => rfl
  have G0 : GrAt w2 (fun k => ¬ (k = w2.heap.size ∨ k < u.heap.size)) .zero (grV .zero none 0 0) := ⟨⟨none, 0, rfl, Cells.nil _, fun _ k hk => (at_none hk).elim, Nat.le_refl _⟩, by decide⟩
  have P0 : PrAt w2 (fun k => ¬ (k = w2.heap.size ∨ k < u.heap.size)) .zero [.int .i64 0, .slice none 0 0, .string (ByteArray.mk #[]), .bool false] := ⟨⟨none, 0, 0, rfl, ⟨rfl, rfl⟩, fun _ k hk => (at_none hk).elim⟩⟩
  have C0 : CtAt w2 (fun k => ¬ (k = w2.heap.size ∨ k < u.heap.size)) .zero ([.bool false] ++ grV .zero none 0 0 ++ [.string (bstr []), .bool false]) := ⟨⟨none, 0, rfl, Cells.nil _, fun _ k hk => (at_none hk).elim⟩, by decide⟩
  refine Spec.mono (new_aux (n0 := u.heap.size) (by omega) ?_) fun e u1 ⟨he, hm, hx⟩ => ⟨he, _, rfl, hm, by omega, x2.ext hx⟩
  refine ⟨rfl, ⟨_, _, rfl, t2.mono fun k hk => by omega⟩, fun i hi => ?_, rfl, rfl, rfl, fun i hi => ?_, fun i hi => ?_, rfl⟩
  · rw [gz i hi]
    match i, hi with
    | 0, _ | 1, _ | 2, _ | 3, _ | 4, _ | 5, _ => exact ⟨_, rfl, G0⟩
  · rw [pz i hi]
    match i, hi with
    | 0, _ | 1, _ | 2, _ | 3, _ | 4, _ | 5, _ => exact ⟨_, rfl, P0⟩
  · rw [cz i hi]
    match i, hi with
    | 0, _ | 1, _ | 2, _ => exact ⟨_, rfl, C0⟩

end Go.Proofs.YtkmmphkjmamckabDoor
