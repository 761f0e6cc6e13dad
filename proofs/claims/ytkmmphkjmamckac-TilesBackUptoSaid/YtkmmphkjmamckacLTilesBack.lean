/-
  For every layout, a pane that is split off and killed again leaves all as it was: the given statement, where what it reads is of bulk at most 1048576.
-/
import Derived.Test.YtkmmphkjmamckacRows
import Derived.Test.YtkmmphkjmamckacTBack
import Derived.Test.YtkmmphkjmamckacTRep
import Derived.Test.YtkmmphkjmamckacVcRep3
import Derived.WalkKit
import Derived.ProofKit
import Derived.OpenShut
import Derived.JoinedCond
namespace Go.Proofs.Ytkmmphkjmamckac.tilesBack
open Go.ChangeShapes Go.WideShapes Go.ChangeAt Go.RowKit
set_option linter.all false

theorem own : ownKnob Try.prog.godebug = none := by kernel_rfl
theorem laidOut : laidOutB Try.prog = true := by kernel_rfl

set_option maxRecDepth 100000 in
theorem contract (H : Type) (enc : TypeId × Value → H) (W : World) (base : Nat) (args : Array Value) (ds gs : List (DataW H)) (before : List MemPlace)
    (hval : ∀ (j : Nat) t v, Try.f3.params[j]? = some t → args[j]? = some v → Value.okWide Try.prog W .any base t v)
    (hW : DataW.Whole enc Try.prog Try.f3.params.toList Rows.tilesBackSpec.vars false W args.toList ds gs before) (hk : Rows.uptoSmall H (ds ++ gs) = true) :
    Calls Try.prog 3 args W fun e W' => ∃ v, e = .returned v ∧ Rows.tilesBackSpec.post enc Try.prog Try.f3 false true false false W args v W' := by
  have hW' := hW
  obtain ⟨p, q, hA0, hV, rfl, hfz, hnd⟩ := hW
  have hA : DataW.TrodAll enc Try.prog W 0 (fun _ => true) true Try.f3.params.toList args.toList ds p := hA0
  rw [Try.params3] at hA hval
  obtain ⟨v0, v1, v2, v3, d0, d1, d2, d3, p0, p1, p2, p3, rfl, rfl, rfl, ⟨f0, h0⟩, ⟨f1, h1⟩, ⟨f2, h2⟩, ⟨f3, h3⟩⟩ := trodAll_four hA
  obtain ⟨rfl, rfl⟩ := trodVars_none hV
  have hB := bound hk
  simp only [List.append_nil, Rows.uptoBulkAll] at hB
  obtain ⟨c0, rfl⟩ := arg_agg tabOk (t := ty_api_Tiles) rfl rfl (hval 0 _ _ rfl rfl)
  have r0 : Rep tab W 1048576 8 ty_api_Tiles c0 := rep_of tabOk seq_tab 8 h0 (by show Rows.uptoBulk d0 ≤ _; omega)
  obtain ⟨x0, x0p, x0c, x0e, x0h, x0l⟩ := rep_tiles r0
  subst x0e
  have e1 : v1.cells.toList = [v1] := arg_one tabOk (t := ty_int) rfl rfl (hval 1 _ _ rfl rfl)
  rw [e1] at h1
  have r1 : Rep tab W 1048576 8 ty_int [v1] := rep_of tabOk seq_tab 8 h1 (by show Rows.uptoBulk d1 ≤ _; omega)
  obtain ⟨x1, x1e, x1l, x1m⟩ := r1
  have x1r : inK .i64 x1 := ⟨x1l, x1m⟩
  have x1e := (List.cons.inj x1e).1
  subst x1e
  have e2 : v2.cells.toList = [v2] := arg_one tabOk (t := ty_int) rfl rfl (hval 2 _ _ rfl rfl)
  rw [e2] at h2
  have r2 : Rep tab W 1048576 8 ty_int [v2] := rep_of tabOk seq_tab 8 h2 (by show Rows.uptoBulk d2 ≤ _; omega)
  obtain ⟨x2, x2e, x2l, x2m⟩ := r2
  have x2r : inK .i64 x2 := ⟨x2l, x2m⟩
  have x2e := (List.cons.inj x2e).1
  subst x2e
  have e3 : v3.cells.toList = [v3] := arg_one tabOk (t := ty_bool) rfl rfl (hval 3 _ _ rfl rfl)
  rw [e3] at h3
  have r3 : Rep tab W 1048576 8 ty_bool [v3] := rep_of tabOk seq_tab 8 h3 (by show Rows.uptoBulk d3 ≤ _; omega)
  obtain ⟨x3, x3e⟩ := r3
  have x3e := (List.cons.inj x3e).1
  subst x3e
  refine (Spec.below (Q := fun e => e = .returned (.bool true)) ((tilesBack_ok x0h x0c x0l x1 x2 x3).mono fun _ _ h => ⟨h.e, h.ext⟩)).mono fun e W' ⟨he, hb⟩ => ?_
  subst he
  exact ⟨_, rfl, law_post laidOut rfl (by decide +kernel) Try.underlying4 rfl hW' hb ⟨rfl, rfl, rfl⟩⟩

set_option maxRecDepth 100000 in
theorem lifted (os : Os) (started : os.Started) (H : Type) (enc : TypeId × Value → H) (F : Stop.Interp) :
    ReturnsInHanded {} Try.checked os 3 .any ((Rows.OpenSpec.upto Rows.tilesBackSpec).pre6 enc Try.prog Try.f3 Rows.tilesBackUptoRow.domain false) (((Rows.OpenSpec.upto Rows.tilesBackSpec).at F).post enc Try.prog Try.f3 false true false false) := by
  refine returnsInHanded_of_cond (C := Try.checked) (s := Rows.OpenSpec.upto Rows.tilesBackSpec) (k := Rows.uptoSmall) rfl own started (by kernel_rfl) Try.func3
    (OpenSpec.witness (enc := enc) (C := Try.checked) (s := Rows.OpenSpec.upto Rows.tilesBackSpec) (k := Rows.uptoSmall) rfl false ⟨#[], #[.agg #[.slice none 0 0], .int .i64 0, .int .i64 0, .bool false], []⟩ 8 (by kernel_rfl) (by kernel_rfl) (by kernel_rfl)
      (x := ([.agg [.nil], .lit (.int .i64 0), .lit (.int .i64 0), .lit (.bool false)], [], [])) (by kernel_rfl) rfl (by kernel_rfl)) ?_
  intro W base args ds gs before hval hW _ hk _
  exact contract H enc W base args ds gs before hval hW hk

theorem over : Rows.tilesBackUptoRow.holds Try.pinned (Rows.OpenSpec.upto Rows.tilesBackSpec) :=
  OpenClaim.holds_of_cond 3 Try.f3 rfl rfl rfl rfl rfl rfl rfl ⟨rfl, rfl, rfl, rfl, rfl⟩ rfl rfl rfl rfl rfl (by kernel_rfl) Try.func3 (by kernel_rfl)
    (of_decide_eq_true (by kernel_rfl)) (by unfold Func.isWrapper; first | (rw [if_pos (by decide +kernel)]; kernel_rfl) | (rw [if_neg (by decide +kernel)]; exact ⟨rfl, rfl⟩))
    (fun os started H enc _ F => lifted os started H enc F)

theorem proved : Rows.TilesBackUptoSaid :=
  over
end Go.Proofs.Ytkmmphkjmamckac.tilesBack
