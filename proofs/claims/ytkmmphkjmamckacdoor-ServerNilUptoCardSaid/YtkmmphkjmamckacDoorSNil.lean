/-
  What a server that is nil answers.
-/
import Derived.Test.YtkmmphkjmamckacDoorGSameG
import Derived.Test.YtkmmphkjmamckacDoorTSameR
import Derived.Test.YtkmmphkjmamckacDoorVRefS
import Derived.Test.YtkmmphkjmamckacDoorVNil
namespace Go.Proofs.YtkmmphkjmamckacDoor
open Go
set_option linter.all false

def zeroVw : List Value := [.slice none 0 0, .int .i64 0, .int .i64 0, .slice none 0 0, .int .i64 0, .int .i64 0, .int .i64 0, .bool false, .int .i64 0, .int .i64 0, .int .i64 0, .int .i64 0, .slice none 0 0, .int .i64 0, .int .i64 0, .int .i64 0, .bool false, .int .i64 0, .int .i64 0, .int .i64 0, .int .i64 0, .slice none 0 0, .int .i64 0, .int .i64 0, .int .i64 0, .bool false, .int .i64 0, .int .i64 0, .int .i64 0, .int .i64 0, .slice none 0 0, .int .i64 0, .int .i64 0, .int .i64 0, .bool false, .int .i64 0, .int .i64 0, .int .i64 0, .int .i64 0, .slice none 0 0, .int .i64 0, .int .i64 0, .int .i64 0, .bool false, .int .i64 0, .int .i64 0, .int .i64 0, .int .i64 0, .slice none 0 0, .int .i64 0, .int .i64 0, .int .i64 0, .bool false, .int .i64 0, .int .i64 0, .int .i64 0, .int .i64 0, .int .i64 0]

theorem clientNil_ok (i : Int) {u : World} : Spec Tryd.prog fn_server_Server_Client #[.pointer none, .int .i64 i] u fun e u' => e = .returned (.tuple #[.string (ByteArray.mk #[]), .bool false, .bool false]) ∧ Ext u u' := by
  apply vc_server_Server_Client_nil_spec
  unfold vc_server_Server_Client_nil
  exact ⟨fun _ => ⟨rfl, Upd.refl _⟩, fun hn => by cases hn⟩

theorem doNil_ok (k p n m : Int) (b : ByteArray) {u : World} : Spec Tryd.prog fn_server_Server_Do #[.pointer none, .agg #[.int .i64 k, .int .i64 p, .int .i64 n, .int .i64 m, .string b]] u fun e u' => e = .returned (.agg #[.int .i64 3, .int .i64 0, .string (ByteArray.mk #[])]) ∧ Ext u u' := by
  apply vc_server_Server_Do_nil_spec
  unfold vc_server_Server_Do_nil
  refine ⟨fun _ => ?_, fun hn => by cases hn⟩
  have hu : Ext u (allocW (allocW u hole) hole) := ((Upd.refl u).alloc _).alloc _
  refine Spec.mono (R := fun e u' => e = .returned (.agg #[.int .i64 3, .int .i64 0, .string (ByteArray.mk #[])]) ∧ Ext (allocW (allocW u hole) hole) u') ?_ fun e u1 ⟨he, hu1⟩ => ⟨_, _, _, he, rfl, hu.ext hu1⟩
  apply vc_server_Server_Do_c1_spec
  unfold vc_server_Server_Do_c1
  exact ⟨rfl, (Upd.refl _).alloc _⟩

theorem viewNil_ok {u : World} : Spec Tryd.prog fn_server_Server_View #[.pointer none] u fun e u' => e = .returned (.agg zeroVw.toArray) ∧ Ext u u' := by
  apply vc_server_Server_View_nil_spec
  unfold vc_server_Server_View_nil
  exact ⟨fun _ => ⟨rfl, _, rfl, rfl, rfl, (Upd.refl _).alloc _⟩, fun hn => by cases hn⟩

theorem sameZero_ok {u : World} : Spec Tryd.prog fn_fenestraref_SameView #[.agg zeroVw.toArray, .agg zeroVw.toArray] u (Told u true) := by
  apply vc_fenestraref_SameView_spec
  unfold vc_fenestraref_SameView
  simp only [decide_eq_true_eq, decide_eq_false_iff_not, true_and, Bool.not_eq_true', Bool.not_eq_false']
  have hu : Ext u (allocW (allocW u hole) hole) := ((Upd.refl u).alloc _).alloc _
  refine ⟨fun x v => Ext u v ∧ 0 ≤ x ∧ x ≤ 6, fun x _ => (6 - x).toNat, ⟨hu, by omega, by omega⟩, ?_⟩
  rintro x v ⟨hv, h0, h6⟩
  refine ⟨fun hx => ?_, fun hx => ?_⟩
  · have hd := hv.drew
    have tk : takeN zeroVw (1 + x.toNat * 9) 9 = some [.int .i64 0, .int .i64 0, .slice none 0 0, .int .i64 0, .int .i64 0, .int .i64 0, .bool false, .int .i64 0, .int .i64 0] := by
      have : x = 0 ∨ x = 1 ∨ x = 2 ∨ x = 3 ∨ x = 4 ∨ x = 5 := by omega
      rcases this with rfl | rfl | rfl | rfl | rfl | rfl <;> rfl
    refine ⟨h0, hx, _, _, _, _, _, _, _, _, _, _, _, tk, h0, hx, _, _, _, _, _, _, _, _, _, _, _, tk, ?_⟩
    refine (sameGrid_ok (u := drewW v) (a := .zero) (b := .zero) (p := none) (q := none) (Cells.nil _) (Cells.nil _) 0 0 (by decide)).mono fun e v1 ⟨he, hv1⟩ => ⟨_, he, fun hn => (by rw [sameGb_iff.2 rfl] at hn; cases hn), fun _ => ⟨by simp only [inK]; omega, ⟨hd.ext hv1, by omega, by omega⟩, by first | omega | (dsimp only; omega)⟩⟩
  · refine ⟨_, _, _, rfl, _, _, _, rfl, ?_⟩
    have hT : Tl v none [] := ⟨[], ⟨rfl, rfl, by simp⟩, trivial⟩
    refine (sameTiles_ok hT hT 0 0 ⟨by decide, by simp⟩).mono fun e v1 ⟨he, hv1⟩ => ⟨_, he, fun _ => ?_, fun hn => (by simp [sameT] at hn)⟩
    have z55 : takeN zeroVw 55 1 = some [.int .i64 0] := rfl
    have z56 : takeN zeroVw 56 1 = some [.int .i64 0] := rfl
    have z57 : takeN zeroVw 57 1 = some [.int .i64 0] := rfl
    refine ⟨0, z55, 0, z55, ⟨fun _ => ⟨0, z56, 0, z56, ⟨fun _ => ⟨0, z57, 0, z57, ⟨rfl, hv.ext hv1⟩⟩, fun hn => (hn rfl).elim⟩⟩, fun hn => (hn rfl).elim⟩⟩

theorem serverNil_ok (k p n m : Int) (b : ByteArray) (i : Int) {u : World} : Spec Tryd.prog fn_fenestralaw_ServerNil #[.agg #[.int .i64 k, .int .i64 p, .int .i64 n, .int .i64 m, .string b], .int .i64 i] u (Told u true) := by
  apply vc_fenestralaw_ServerNil_spec
  unfold vc_fenestralaw_ServerNil
  have hu : Ext u (allocW u hole) := (Upd.refl u).alloc _
  refine (clientNil_ok i).mono fun e u1 ⟨he, hu1⟩ => ⟨_, _, _, he, (doNil_ok k p n m b).mono fun e u2 ⟨he, hu2⟩ => ⟨_, _, _, he, fun _ => ⟨fun _ => ⟨fun _ => ⟨fun _ => ?_, fun hn => by cases hn⟩, fun hn => by cases hn⟩, fun hn => by simp at hn⟩, fun hn => by simp at hn⟩⟩
  refine viewNil_ok.mono fun e u3 ⟨he, hu3⟩ => ⟨_, he, sameZero_ok.mono fun e u4 ⟨he, hu4⟩ => ⟨_, he, rfl, (((hu.ext hu1).ext hu2).ext hu3).ext hu4⟩⟩

end Go.Proofs.YtkmmphkjmamckacDoor
