/-
  For every length and number, the shares fill the length, with a cell between them, and none is more than one greater than another: the given statement, where what it reads is of bulk at most 1048576.
-/
import Derived.Test.YtkmmphkjmamckabRows
import Derived.Test.YtkmmphkjmamckabTLawK
import Derived.Test.YtkmmphkjmamckabVcRep2
import Derived.WalkKit
import Derived.ProofKit
import Derived.OpenShut
import Derived.JoinedCond
namespace Go.Proofs.Ytkmmphkjmamckab.tilesShares
open Go.ChangeShapes Go.WideShapes Go.ChangeAt Go.RowKit
set_option linter.all false

theorem own : ownKnob Try.prog.godebug = none := by kernel_rfl
theorem laidOut : laidOutB Try.prog = true := by kernel_rfl

set_option maxRecDepth 100000 in
theorem contract (H : Type) (enc : TypeId × Value → H) (W : World) (base : Nat) (args : Array Value) (ds gs : List (DataW H)) (before : List MemPlace)
    (hval : ∀ (j : Nat) t v, Try.f8.params[j]? = some t → args[j]? = some v → Value.okWide Try.prog W .any base t v)
    (hW : DataW.Whole enc Try.prog Try.f8.params.toList Rows.tilesSharesSpec.vars false W args.toList ds gs before) (hk : Rows.uptoSmall H (ds ++ gs) = true) :
    Calls Try.prog 8 args W fun e W' => ∃ v, e = .returned v ∧ Rows.tilesSharesSpec.post enc Try.prog Try.f8 false true false false W args v W' := by
  have hW' := hW
  obtain ⟨p, q, hA0, hV, rfl, hfz, hnd⟩ := hW
  have hA : DataW.TrodAll enc Try.prog W 0 (fun _ => true) true Try.f8.params.toList args.toList ds p := hA0
  rw [Try.params8] at hA hval
  obtain ⟨v0, v1, d0, d1, p0, p1, rfl, rfl, rfl, ⟨f0, h0⟩, ⟨f1, h1⟩⟩ := trodAll_two hA
  obtain ⟨rfl, rfl⟩ := trodVars_none hV
  have hB := bound hk
  simp only [List.append_nil, Rows.uptoBulkAll] at hB
  have e0 : v0.cells.toList = [v0] := arg_one tabOk (t := ty_int) rfl rfl (hval 0 _ _ rfl rfl)
  rw [e0] at h0
  have r0 : Rep tab W 1048576 8 ty_int [v0] := rep_of tabOk seq_tab 8 h0 (by show Rows.uptoBulk d0 ≤ _; omega)
  obtain ⟨x0, x0e, x0l, x0m⟩ := r0
  have x0r : inK .i64 x0 := ⟨x0l, x0m⟩
  have x0e := (List.cons.inj x0e).1
  subst x0e
  have e1 : v1.cells.toList = [v1] := arg_one tabOk (t := ty_int) rfl rfl (hval 1 _ _ rfl rfl)
  rw [e1] at h1
  have r1 : Rep tab W 1048576 8 ty_int [v1] := rep_of tabOk seq_tab 8 h1 (by show Rows.uptoBulk d1 ≤ _; omega)
  obtain ⟨x1, x1e, x1l, x1m⟩ := r1
  have x1r : inK .i64 x1 := ⟨x1l, x1m⟩
  have x1e := (List.cons.inj x1e).1
  subst x1e
  refine (Spec.below (Q := fun e => e = .returned (.bool true)) ((tilesShares_ok x0 x1).mono fun _ _ h => ⟨h.e, h.ext⟩)).mono fun e W' ⟨he, hb⟩ => ?_
  subst he
  exact ⟨_, rfl, law_post laidOut rfl (by decide +kernel) Try.underlying4 rfl hW' hb ⟨rfl, rfl, rfl⟩⟩

set_option maxRecDepth 100000 in
theorem lifted (os : Os) (started : os.Started) (H : Type) (enc : TypeId × Value → H) (F : Stop.Interp) :
    ReturnsInHanded {} Try.checked os 8 .any ((Rows.OpenSpec.upto Rows.tilesSharesSpec).pre6 enc Try.prog Try.f8 Rows.tilesSharesUptoRow.domain false) (((Rows.OpenSpec.upto Rows.tilesSharesSpec).at F).post enc Try.prog Try.f8 false true false false) := by
  refine returnsInHanded_of_cond (C := Try.checked) (s := Rows.OpenSpec.upto Rows.tilesSharesSpec) (k := Rows.uptoSmall) rfl own started (by kernel_rfl) Try.func8
    (OpenSpec.witness (enc := enc) (C := Try.checked) (s := Rows.OpenSpec.upto Rows.tilesSharesSpec) (k := Rows.uptoSmall) rfl false ⟨#[], #[.int .i64 0, .int .i64 0], []⟩ 8 (by kernel_rfl) (by kernel_rfl) (by kernel_rfl)
      (x := ([.lit (.int .i64 0), .lit (.int .i64 0)], [], [])) (by kernel_rfl) rfl (by kernel_rfl)) ?_
  intro W base args ds gs before hval hW _ hk _
  exact contract H enc W base args ds gs before hval hW hk

theorem over : Rows.tilesSharesUptoRow.holds Try.pinned (Rows.OpenSpec.upto Rows.tilesSharesSpec) :=
  OpenClaim.holds_of_cond 8 Try.f8 rfl rfl rfl rfl rfl rfl rfl ⟨rfl, rfl, rfl, rfl, rfl⟩ rfl rfl rfl rfl rfl (by kernel_rfl) Try.func8 (by kernel_rfl)
    (of_decide_eq_true (by kernel_rfl)) (by unfold Func.isWrapper; first | (rw [if_pos (by decide +kernel)]; kernel_rfl) | (rw [if_neg (by decide +kernel)]; exact ⟨rfl, rfl⟩))
    (fun os started H enc _ F => lifted os started H enc F)

theorem proved : Rows.TilesSharesUptoSaid :=
  over
end Go.Proofs.Ytkmmphkjmamckab.tilesShares
