/-
  A screen of other sides, as the document has it.
-/
import Derived.Test.YtkmmphkjmamckabGRef5
import Derived.Test.YtkmmphkjmamckabGCell
import Derived.Test.YtkmmphkjmamckabZM
namespace Go.Proofs.Ytkmmphkjmamckab
open Go
set_option linter.all false

theorem resize_cells {g : Gr} (hg : GoodG g) {w h r c : Nat} (hc : c < w) (hr : r < h) : cg (resizeC g.wide.toNat w h g.high.toNat g.cells) (r * w + c) = atG g (r : Nat) (c : Nat) := by
  have w1 := hg.w1
  unfold resizeC
  rw [tab_cg (by rw [Nat.mul_comm w h]; exact row_lt hc hr), row_div hc, row_mod hc]
  by_cases hh : r < g.high.toNat ∧ c < g.wide.toNat
  · rw [if_pos hh, at_eq hg (by omega) (by omega)]
  · rw [if_neg hh]
    unfold atG
    rw [if_neg (by omega)]

theorem resized_ok {u : World} {g : Gr} {p : Option Addr} (h : Cells u p g.cells) (c : Nat) (hl : g.cells.length ≤ 100000000) (wide high : Int) :
    Spec Try.prog fn_fenestraref_Resized #[GrV g p g.cells.length c, .int .i64 wide, .int .i64 high] u (ActPost u (resizeG g wide high)) := by
  apply vc_fenestraref_Resized_spec
  unfold vc_fenestraref_Resized
  simp only [decide_eq_true_eq, decide_eq_false_iff_not, Bool.not_eq_true', Bool.not_eq_false', true_and]
  have hu : Ext u (allocW (allocW u hole) hole) := ((Upd.refl u).alloc _).alloc _
  refine (goodGrid_ok (h.ext hu) c hl).mono fun r u1 ⟨hr, hu1⟩ => ⟨_, hr, fun hb => ?_, fun hb => ?_⟩
  · have hd : resizeG g wide high = (g, 1) := by unfold resizeG; rw [if_pos hb]
    rw [hd]
    exact ⟨⟨p, c, rfl, h.ext (hu.ext hu1)⟩, hu.ext hu1⟩
  have hg := goodG_iff.1 hb
  have x1 := hu.ext hu1
  refine (newGrid_ok wide high).mono fun e u2 ⟨⟨p2, c2, he, ho, hnew⟩, hu2⟩ => ⟨_, _, _, _, _, _, _, _, _, _, _, he, ?_⟩
  have ng := new_ok' wide high
  have hres : resizeG g wide high = (⟨(newG wide high).wide, (newG wide high).high, resizeC g.wide.toNat (newG wide high).wide.toNat (newG wide high).high.toNat g.high.toNat g.cells, min g.row ((newG wide high).high - 1), min g.col ((newG wide high).wide - 1), g.ink, g.bold, 0, (newG wide high).high⟩, 0) := by
    unfold resizeG
    rw [if_neg (by rw [hb]; simp)]
    rfl
  have hrest : (newG wide high).top = 0 ∧ (newG wide high).bottom = (newG wide high).high := ⟨rfl, rfl⟩
  rw [hres]
  generalize newG wide high = out at ng he ho hrest
  obtain ⟨q5, q6⟩ := hrest
  have ow1 := ng.w1
  have ow2 := ng.w2
  have oh1 := ng.h1
  have oh2 := ng.h2
  have ocl := cells_len' ng
  obtain ⟨b, rfl⟩ := ho.some' (cells_pos ng)
  have hb0 : u.heap.size ≤ b := by have := hnew b ⟨_, rfl, rfl⟩; have := x1.size; omega
  have x2 := x1.ext hu2
  have ho' : CO u2 b c2 out.cells := ho
  generalize hC : resizeC g.wide.toNat out.wide.toNat out.high.toNat g.high.toNat g.cells = C
  have hCl : C.length = out.cells.length := by rw [← hC, ocl]; unfold resizeC; rw [tab_len, Nat.mul_comm]
  have S0 : ScrI u C b c2 0 (allocW u2 hole) := ⟨⟨out.cells, ho'.ext ((Upd.refl _).alloc _), hCl.symm, by omega⟩, x2.alloc _, hb0⟩
  refine ⟨fun r w => 0 ≤ r ∧ r ≤ out.high ∧ ScrI u C b c2 (r.toNat * out.wide.toNat) w, fun r _ => (out.high - r).toNat, ⟨Int.le_refl _, by omega, by simpa using S0⟩, ?_⟩
  rintro r w ⟨r0, r1, S⟩
  refine ⟨fun hr => ?_, fun hr => ?_⟩
  · have f0 := row_facts ng r0 r1
    have f1 := row_facts ng (r := r + 1) (by omega) (by omega)
    rw [succ_mul'] at f1
    have f2 : (r + 1).toNat * out.wide.toNat = r.toNat * out.wide.toNat + out.wide.toNat := by rw [show (r + 1).toNat = r.toNat + 1 by omega, Nat.add_mul, Nat.one_mul]
    refine ⟨fun c w => 0 ≤ c ∧ c ≤ out.wide ∧ ScrI u C b c2 (r.toNat * out.wide.toNat + c.toNat) w, fun c _ => (out.wide - c).toNat, ⟨Int.le_refl _, by omega, by simpa using S⟩, ?_⟩
    rintro k w' ⟨c0, c1, S'⟩
    refine ⟨fun hc => ?_, fun hc => ⟨by simp only [inK]; omega, ⟨by omega, by omega, ?_⟩, by first | omega | (dsimp only; omega)⟩⟩
    · have hd : Ext w' (drewW w') := (Upd.refl _).drew
      refine ⟨by simp only [inK]; omega, by simp only [inK]; omega, (cellAt_ok (h.ext (S'.ext.ext hd)) c r k hl).mono fun e u3 ⟨he, hu3⟩ => ⟨_, _, _, _, he, ?_⟩⟩
      have hcg := resize_cells hg (w := out.wide.toNat) (h := out.high.toNat) (r := r.toNat) (c := k.toNat) (by omega) (by omega)
      rw [hC, show ((r.toNat : Nat) : Int) = r by omega, show ((k.toNat : Nat) : Int) = k by omega] at hcg
      have st := (S'.ext' (hd.ext hu3)).store (o := 0 + (r * out.wide + k).toNat * 4) (k := atG g r k) (by omega) (by omega) hcg.symm
      rw [show r.toNat * out.wide.toNat + k.toNat + 1 = r.toNat * out.wide.toNat + (k + 1).toNat by omega] at st
      exact ⟨b, 0, rfl, by omega, by omega, rfl, st.1, by simp only [inK]; omega, ⟨by omega, by omega, st.2⟩, by first | omega | (dsimp only; omega)⟩
    · rw [f2, show out.wide.toNat = k.toNat by omega]
      rw [show out.wide.toNat = k.toNat by omega] at S'
      exact S'
  · have O := S.done (by rw [hCl, ocl, show r.toNat = out.high.toNat by omega])
    refine ⟨by simp only [inK]; omega, by simp only [inK]; omega, ?_⟩
    rw [q5, q6, ← hCl]
    exact ⟨⟨_, _, rfl, (O.cells).ext ((Upd.refl _).drew)⟩, (S.ext).drew⟩

end Go.Proofs.Ytkmmphkjmamckab
