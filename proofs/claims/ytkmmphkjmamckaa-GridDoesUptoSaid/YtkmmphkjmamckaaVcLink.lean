/-
  From our triple to what the rows ask.
-/
import Derived.Test.YtkmmphkjmamckaaVcLib
import Derived.ProofKit
import Derived.OpenShut
import Derived.ChangeSame
namespace Go.Proofs.Ytkmmphkjmamckaa
open Go Go.RowKit Go.ChangeShapes Go.WideShapes Go.ChangeAt
set_option linter.all false

theorem Spec.below {P : Program} {f : FuncId} {args : Array Value} {w : World} {Q : Ending → Prop} (h : Spec P f args w fun e u' => Q e ∧ Ext w u') : Calls P f args w fun e w' => Q e ∧ Below w.heap.size w w' :=
  (h w (Le.refl w)).mono fun e w' ⟨u', ⟨hq, hu⟩, hle, hk⟩ => ⟨hq, ⟨hle.os.trans hu.os, hle.tape.trans hu.tape, hle.output.trans hu.output, by rw [hle.size]; exact hu.size, fun k hk' => by
    have h1 := hu.old k hk' fun h => h
    have ho : w.heap[k]? = some (w.heap[k]'hk') := Array.getElem?_eq_getElem hk'
    rcases hle.block k _ (h1.trans ho) with h2 | h2
    · exact (hk.hole k (by rw [ho, h2])).2
    · rw [h2, ho]⟩⟩

/-- A law that leaves all as it was, in a world that is as it was below. -/
theorem post_below {H : Type} {enc : TypeId × Value → H} {P : Program} {f : Func} {s : ChangeSpec} {apart fresh handsOn again : Bool} {W W' : World} {args : Array Value} {v : Value} {ds gs : List (DataW H)} {before pa pv : List MemPlace}
    (hW : DataW.Whole enc P f.params.toList s.vars apart W args.toList ds gs before) (hb : Below W.heap.size W W') (hps : before = pa ++ pv)
    (hargs : ∀ sp : Nat → Bool, (∀ p ∈ before, sp p.block = true) → DataW.TrodAll enc P W' 0 sp true f.params.toList args.toList (s.fn H (ds ++ gs)).args pa)
    (hvars : ∀ sp : Nat → Bool, (∀ p ∈ before, sp p.block = true) → DataW.TrodVars enc P W' sp s.vars (s.fn H (ds ++ gs)).vars pv)
    (hres : ∀ (b : Nat) (sp : Nat → Bool) (hd : Bool), DataW.TrodAll enc P W' b sp hd f.resultTypes.toList (v.resultList f.resultTypes.size) (s.fn H (ds ++ gs)).results [])
    (hok : ∀ (j : Nat) (t : TypeId) (r : Value), f.resultTypes[j]? = some t → (v.resultList f.resultTypes.size)[j]? = some r → Value.okWide P W' .any 0 t r) : s.post enc P f apart fresh handsOn again W args v W' := by
  have hlt : ∀ p ∈ before, decide (p.block < W.heap.size) = true := fun p hp => by simpa using hW.lt p hp
  have hmem : ∀ p, p ∈ before ↔ p ∈ pa ∨ p ∈ pv := fun p => by rw [hps, List.mem_append]
  refine ⟨ds, gs, before, [], pa, pv, hW, hres _ _ _, hargs _ hlt, hvars _ hlt, World.keptBut_mono (fun p hp => ⟨hp, .inr ((hmem p).1 hp)⟩) (hb.frame (· ∈ before)), fun _ => ?_⟩
  have hW0 := hW
  obtain ⟨_, _, _, _, _, hz, hn⟩ := hW
  refine ⟨hok, _, _, ([] ++ pa) ++ pv, ⟨[] ++ pa, pv, trodAll_append (hargs _ fun _ _ => rfl) (hres _ _ _), hvars _ fun _ _ => rfl, rfl, fun b off hp => ?_, fun ha => ?_⟩, fun p hp _ => by simpa [hmem] using hp⟩
  · have hin : MemPlace.cell b off ∈ before := by simpa [hmem] using hp
    rw [hb.frozen (by have := hW0.lt _ hin; exact this)]
    exact hz b off hin
  · have := hn ha
    rw [hps] at this
    simpa using this

end Go.Proofs.Ytkmmphkjmamckaa
