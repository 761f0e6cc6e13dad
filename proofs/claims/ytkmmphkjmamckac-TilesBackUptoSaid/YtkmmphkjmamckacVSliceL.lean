import Derived.Test.YtkmmphkjmamckacCtx
namespace Go.Proofs.Ytkmmphkjmamckac
open Go
set_option linter.all false

/-- slices.Insert[[][]int,[]int] -/
noncomputable def cx_slices_InsertL_int_int : Ctx := ⟨Try.prog, tab, [], [], [], fns, [], []⟩
def vc_slices_InsertL_int_int (s_p : Option Addr) (s_n s_c : Nat) (i : Int) (v_p : Option Addr) (v_n v_c : Nat) (u : World) (R : Ending → World → Prop) : Prop :=
  0 ≤ i ∧ i ≤ ((s_n : Nat) : Int) ∧ ((s_n : Nat) : Int) ≤ ((s_c : Nat) : Int) ∧
    (((decide (((v_n : Nat) : Int) = 0)) = true → R (.returned (.slice s_p s_n s_c)) u) ∧
          ((decide (((v_n : Nat) : Int) = 0)) = false → (((decide (i = ((s_n : Nat) : Int))) = true →
          ∃ old new : List Value, old.length = s_n * 1 ∧ Gets u s_p old ∧
          new.length = v_n * 1 ∧ Gets u v_p new ∧ 0 < 24 ∧ (2 * (s_n + v_n) + 192) * 24 ≤ 140737488355328 ∧
          okCells new True ∧ (s_n + v_n ≤ s_c → WrS u s_p (s_n * 1) (v_n * 1)) ∧
          ∀ p cap u1, AppR u 33 1 [.slice none 0 0] s_p s_n s_c v_n old new p cap u1 →
          R (.returned (.slice p (s_n + v_n) cap)) u1) ∧ ((decide (i = ((s_n : Nat) : Int))) = false →
              inK .i64 (((s_n : Nat) : Int) + ((v_n : Nat) : Int)) ∧ (((decide (((s_c : Nat) : Int) < (((s_n : Nat) : Int) + ((v_n : Nat) : Int)))) = true →
              0 ≤ (0 : Int) ∧ (0 : Int) ≤ i ∧ i ≤ ((s_c : Nat) : Int) ∧ inK .i64 (((s_n : Nat) : Int) + ((v_n : Nat) : Int)) ∧
              inK .i64 ((((s_n : Nat) : Int) + ((v_n : Nat) : Int)) - i) ∧ ∃ old1 : List Value, old1.length = (i.toNat - (0 : Int).toNat) * 1 ∧
              Gets u (if s_c = (0 : Int).toNat then s_p else Option.map (fun a => Addr.add a ((0 : Int).toNat * 1)) s_p) old1 ∧
              0 < 24 ∧ 0 < 1 ∧ 0 < ((((s_n : Nat) : Int) + ((v_n : Nat) : Int)) - i) ∧
              (((s_c - (0 : Int).toNat) : Nat) : Int) < (((i.toNat - (0 : Int).toNat) : Nat) : Int) + ((((s_n : Nat) : Int) + ((v_n : Nat) : Int)) - i) ∧
              (2 * ((((i.toNat - (0 : Int).toNat) : Nat) : Int) + ((((s_n : Nat) : Int) + ((v_n : Nat) : Int)) - i)) + 192) * ((24 : Nat) : Int) ≤ 140737488355328 ∧
              ∀ p1 cap1 u11, AppR u 33 1 ([.slice none 0 0]) (if s_c = (0 : Int).toNat then s_p else Option.map (fun a => Addr.add a ((0 : Int).toNat * 1)) s_p) (i.toNat - (0 : Int).toNat) (s_c - (0 : Int).toNat) ((((s_n : Nat) : Int) + ((v_n : Nat) : Int)) - i).toNat old1 (repl ((((s_n : Nat) : Int) + ((v_n : Nat) : Int)) - i).toNat ([.slice none 0 0])) p1 cap1 u11 →
              0 ≤ i ∧ i ≤ (((i.toNat - (0 : Int).toNat) + ((((s_n : Nat) : Int) + ((v_n : Nat) : Int)) - i).toNat : Nat) : Int) ∧
              (((i.toNat - (0 : Int).toNat) + ((((s_n : Nat) : Int) + ((v_n : Nat) : Int)) - i).toNat : Nat) : Int) ≤ ((cap1 : Nat) : Int) ∧
              ∃ cs : List Value, cs.length = min v_n ((((i.toNat - (0 : Int).toNat) + ((((s_n : Nat) : Int) + ((v_n : Nat) : Int)) - i).toNat : Nat) : Int).toNat - i.toNat) * 1 ∧
              Gets u11 v_p cs ∧ okCells cs True ∧ WrS u11 (if cap1 = i.toNat then p1 else Option.map (fun a => Addr.add a (i.toNat * 1)) p1) 0 (min v_n ((((i.toNat - (0 : Int).toNat) + ((((s_n : Nat) : Int) + ((v_n : Nat) : Int)) - i).toNat : Nat) : Int).toNat - i.toNat) * 1) ∧
              inK .i64 (i + ((v_n : Nat) : Int)) ∧ 0 ≤ (i + ((v_n : Nat) : Int)) ∧
              (i + ((v_n : Nat) : Int)) ≤ (((i.toNat - (0 : Int).toNat) + ((((s_n : Nat) : Int) + ((v_n : Nat) : Int)) - i).toNat : Nat) : Int) ∧
              (((i.toNat - (0 : Int).toNat) + ((((s_n : Nat) : Int) + ((v_n : Nat) : Int)) - i).toNat : Nat) : Int) ≤ ((cap1 : Nat) : Int) ∧
              0 ≤ i ∧ i ≤ ((s_n : Nat) : Int) ∧ ((s_n : Nat) : Int) ≤ ((s_c : Nat) : Int) ∧
              ∃ cs1 : List Value, cs1.length = min (((s_n : Nat) : Int).toNat - i.toNat) ((((i.toNat - (0 : Int).toNat) + ((((s_n : Nat) : Int) + ((v_n : Nat) : Int)) - i).toNat : Nat) : Int).toNat - (i + ((v_n : Nat) : Int)).toNat) * 1 ∧
              Gets (drewW (putSl u11 (if cap1 = i.toNat then p1 else Option.map (fun a => Addr.add a (i.toNat * 1)) p1) 0 cs)) (if s_c = i.toNat then s_p else Option.map (fun a => Addr.add a (i.toNat * 1)) s_p) cs1 ∧
              okCells cs1 True ∧ WrS (drewW (putSl u11 (if cap1 = i.toNat then p1 else Option.map (fun a => Addr.add a (i.toNat * 1)) p1) 0 cs)) (if cap1 = (i + ((v_n : Nat) : Int)).toNat then p1 else Option.map (fun a => Addr.add a ((i + ((v_n : Nat) : Int)).toNat * 1)) p1) 0 (min (((s_n : Nat) : Int).toNat - i.toNat) ((((i.toNat - (0 : Int).toNat) + ((((s_n : Nat) : Int) + ((v_n : Nat) : Int)) - i).toNat : Nat) : Int).toNat - (i + ((v_n : Nat) : Int)).toNat) * 1) ∧
            R (.returned (.slice p1 ((i.toNat - (0 : Int).toNat) + ((((s_n : Nat) : Int) + ((v_n : Nat) : Int)) - i).toNat) cap1)) (putSl (drewW (putSl u11 (if cap1 = i.toNat then p1 else Option.map (fun a => Addr.add a (i.toNat * 1)) p1) 0 cs)) (if cap1 = (i + ((v_n : Nat) : Int)).toNat then p1 else Option.map (fun a => Addr.add a ((i + ((v_n : Nat) : Int)).toNat * 1)) p1) 0 cs1)) ∧
              ((decide (((s_c : Nat) : Int) < (((s_n : Nat) : Int) + ((v_n : Nat) : Int)))) = false →
              inK .i64 (((s_n : Nat) : Int) + ((v_n : Nat) : Int)) ∧ 0 ≤ (0 : Int) ∧
              (0 : Int) ≤ (((s_n : Nat) : Int) + ((v_n : Nat) : Int)) ∧ (((s_n : Nat) : Int) + ((v_n : Nat) : Int)) ≤ ((s_c : Nat) : Int) ∧
              inK .i64 (i + ((v_n : Nat) : Int)) ∧ 0 ≤ (i + ((v_n : Nat) : Int)) ∧
              (i + ((v_n : Nat) : Int)) ≤ (((((s_n : Nat) : Int) + ((v_n : Nat) : Int)).toNat - (0 : Int).toNat : Nat) : Int) ∧
              (((((s_n : Nat) : Int) + ((v_n : Nat) : Int)).toNat - (0 : Int).toNat : Nat) : Int) ≤ ((s_c - (0 : Int).toNat : Nat) : Int) ∧
              ∃ (x67 : Bool), (∀ w', Le u w' → (callFunc 20 #[.slice v_p v_n v_c, .slice (if s_c - (0 : Int).toNat = (i + ((v_n : Nat) : Int)).toNat then (if s_c = (0 : Int).toNat then s_p else Option.map (fun a => Addr.add a ((0 : Int).toNat * 1)) s_p) else Option.map (fun a => Addr.add a ((i + ((v_n : Nat) : Int)).toNat * 1)) (if s_c = (0 : Int).toNat then s_p else Option.map (fun a => Addr.add a ((0 : Int).toNat * 1)) s_p)) ((((((s_n : Nat) : Int) + ((v_n : Nat) : Int)).toNat - (0 : Int).toNat : Nat) : Int).toNat - (i + ((v_n : Nat) : Int)).toNat) (s_c - (0 : Int).toNat - (i + ((v_n : Nat) : Int)).toNat)]).run Try.prog w' = .ok (.value (.bool x67)) w') ∧
                  (((!x67) = true → inK .i64 (i + ((v_n : Nat) : Int)) ∧ 0 ≤ (i + ((v_n : Nat) : Int)) ∧
                  (i + ((v_n : Nat) : Int)) ≤ (((((s_n : Nat) : Int) + ((v_n : Nat) : Int)).toNat - (0 : Int).toNat : Nat) : Int) ∧
                  (((((s_n : Nat) : Int) + ((v_n : Nat) : Int)).toNat - (0 : Int).toNat : Nat) : Int) ≤ ((s_c - (0 : Int).toNat : Nat) : Int) ∧
                  0 ≤ i ∧ i ≤ (((((s_n : Nat) : Int) + ((v_n : Nat) : Int)).toNat - (0 : Int).toNat : Nat) : Int) ∧
                  (((((s_n : Nat) : Int) + ((v_n : Nat) : Int)).toNat - (0 : Int).toNat : Nat) : Int) ≤ ((s_c - (0 : Int).toNat : Nat) : Int) ∧
                  ∃ cs2 : List Value, cs2.length = min ((((((s_n : Nat) : Int) + ((v_n : Nat) : Int)).toNat - (0 : Int).toNat : Nat) : Int).toNat - i.toNat) ((((((s_n : Nat) : Int) + ((v_n : Nat) : Int)).toNat - (0 : Int).toNat : Nat) : Int).toNat - (i + ((v_n : Nat) : Int)).toNat) * 1 ∧
                  Gets (drewW u) (if s_c - (0 : Int).toNat = i.toNat then (if s_c = (0 : Int).toNat then s_p else Option.map (fun a => Addr.add a ((0 : Int).toNat * 1)) s_p) else Option.map (fun a => Addr.add a (i.toNat * 1)) (if s_c = (0 : Int).toNat then s_p else Option.map (fun a => Addr.add a ((0 : Int).toNat * 1)) s_p)) cs2 ∧
                  okCells cs2 True ∧ WrS (drewW u) (if s_c - (0 : Int).toNat = (i + ((v_n : Nat) : Int)).toNat then (if s_c = (0 : Int).toNat then s_p else Option.map (fun a => Addr.add a ((0 : Int).toNat * 1)) s_p) else Option.map (fun a => Addr.add a ((i + ((v_n : Nat) : Int)).toNat * 1)) (if s_c = (0 : Int).toNat then s_p else Option.map (fun a => Addr.add a ((0 : Int).toNat * 1)) s_p)) 0 (min ((((((s_n : Nat) : Int) + ((v_n : Nat) : Int)).toNat - (0 : Int).toNat : Nat) : Int).toNat - i.toNat) ((((((s_n : Nat) : Int) + ((v_n : Nat) : Int)).toNat - (0 : Int).toNat : Nat) : Int).toNat - (i + ((v_n : Nat) : Int)).toNat) * 1) ∧
                  0 ≤ i ∧ i ≤ (((((s_n : Nat) : Int) + ((v_n : Nat) : Int)).toNat - (0 : Int).toNat : Nat) : Int) ∧
                  (((((s_n : Nat) : Int) + ((v_n : Nat) : Int)).toNat - (0 : Int).toNat : Nat) : Int) ≤ ((s_c - (0 : Int).toNat : Nat) : Int) ∧
                  ∃ cs3 : List Value, cs3.length = min v_n ((((((s_n : Nat) : Int) + ((v_n : Nat) : Int)).toNat - (0 : Int).toNat : Nat) : Int).toNat - i.toNat) * 1 ∧
                  Gets (putSl (drewW u) (if s_c - (0 : Int).toNat = (i + ((v_n : Nat) : Int)).toNat then (if s_c = (0 : Int).toNat then s_p else Option.map (fun a => Addr.add a ((0 : Int).toNat * 1)) s_p) else Option.map (fun a => Addr.add a ((i + ((v_n : Nat) : Int)).toNat * 1)) (if s_c = (0 : Int).toNat then s_p else Option.map (fun a => Addr.add a ((0 : Int).toNat * 1)) s_p)) 0 cs2) v_p cs3 ∧
                  okCells cs3 True ∧ WrS (putSl (drewW u) (if s_c - (0 : Int).toNat = (i + ((v_n : Nat) : Int)).toNat then (if s_c = (0 : Int).toNat then s_p else Option.map (fun a => Addr.add a ((0 : Int).toNat * 1)) s_p) else Option.map (fun a => Addr.add a ((i + ((v_n : Nat) : Int)).toNat * 1)) (if s_c = (0 : Int).toNat then s_p else Option.map (fun a => Addr.add a ((0 : Int).toNat * 1)) s_p)) 0 cs2) (if s_c - (0 : Int).toNat = i.toNat then (if s_c = (0 : Int).toNat then s_p else Option.map (fun a => Addr.add a ((0 : Int).toNat * 1)) s_p) else Option.map (fun a => Addr.add a (i.toNat * 1)) (if s_c = (0 : Int).toNat then s_p else Option.map (fun a => Addr.add a ((0 : Int).toNat * 1)) s_p)) 0 (min v_n ((((((s_n : Nat) : Int) + ((v_n : Nat) : Int)).toNat - (0 : Int).toNat : Nat) : Int).toNat - i.toNat) * 1) ∧
                R (.returned (.slice (if s_c = (0 : Int).toNat then s_p else Option.map (fun a => Addr.add a ((0 : Int).toNat * 1)) s_p) ((((s_n : Nat) : Int) + ((v_n : Nat) : Int)).toNat - (0 : Int).toNat) (s_c - (0 : Int).toNat))) (putSl (putSl (drewW u) (if s_c - (0 : Int).toNat = (i + ((v_n : Nat) : Int)).toNat then (if s_c = (0 : Int).toNat then s_p else Option.map (fun a => Addr.add a ((0 : Int).toNat * 1)) s_p) else Option.map (fun a => Addr.add a ((i + ((v_n : Nat) : Int)).toNat * 1)) (if s_c = (0 : Int).toNat then s_p else Option.map (fun a => Addr.add a ((0 : Int).toNat * 1)) s_p)) 0 cs2) (if s_c - (0 : Int).toNat = i.toNat then (if s_c = (0 : Int).toNat then s_p else Option.map (fun a => Addr.add a ((0 : Int).toNat * 1)) s_p) else Option.map (fun a => Addr.add a (i.toNat * 1)) (if s_c = (0 : Int).toNat then s_p else Option.map (fun a => Addr.add a ((0 : Int).toNat * 1)) s_p)) 0 cs3)) ∧
                  ((!x67) = false → 0 ≤ ((s_n : Nat) : Int) ∧ ((s_n : Nat) : Int) ≤ (((((s_n : Nat) : Int) + ((v_n : Nat) : Int)).toNat - (0 : Int).toNat : Nat) : Int) ∧
                  (((((s_n : Nat) : Int) + ((v_n : Nat) : Int)).toNat - (0 : Int).toNat : Nat) : Int) ≤ ((s_c - (0 : Int).toNat : Nat) : Int) ∧
                  ∃ cs4 : List Value, cs4.length = min v_n ((((((s_n : Nat) : Int) + ((v_n : Nat) : Int)).toNat - (0 : Int).toNat : Nat) : Int).toNat - ((s_n : Nat) : Int).toNat) * 1 ∧
                  Gets u v_p cs4 ∧ okCells cs4 True ∧ WrS u (if s_c - (0 : Int).toNat = ((s_n : Nat) : Int).toNat then (if s_c = (0 : Int).toNat then s_p else Option.map (fun a => Addr.add a ((0 : Int).toNat * 1)) s_p) else Option.map (fun a => Addr.add a (((s_n : Nat) : Int).toNat * 1)) (if s_c = (0 : Int).toNat then s_p else Option.map (fun a => Addr.add a ((0 : Int).toNat * 1)) s_p)) 0 (min v_n ((((((s_n : Nat) : Int) + ((v_n : Nat) : Int)).toNat - (0 : Int).toNat : Nat) : Int).toNat - ((s_n : Nat) : Int).toNat) * 1) ∧
                  0 ≤ i ∧ i ≤ (((((s_n : Nat) : Int) + ((v_n : Nat) : Int)).toNat - (0 : Int).toNat : Nat) : Int) ∧
                  (((((s_n : Nat) : Int) + ((v_n : Nat) : Int)).toNat - (0 : Int).toNat : Nat) : Int) ≤ ((s_c - (0 : Int).toNat : Nat) : Int) ∧
                    Spec Try.prog 21 #[.slice (if s_c - (0 : Int).toNat = i.toNat then (if s_c = (0 : Int).toNat then s_p else Option.map (fun a => Addr.add a ((0 : Int).toNat * 1)) s_p) else Option.map (fun a => Addr.add a (i.toNat * 1)) (if s_c = (0 : Int).toNat then s_p else Option.map (fun a => Addr.add a ((0 : Int).toNat * 1)) s_p)) ((((((s_n : Nat) : Int) + ((v_n : Nat) : Int)).toNat - (0 : Int).toNat : Nat) : Int).toNat - i.toNat) (s_c - (0 : Int).toNat - i.toNat), .int .i64 ((v_n : Nat) : Int)] (putSl u (if s_c - (0 : Int).toNat = ((s_n : Nat) : Int).toNat then (if s_c = (0 : Int).toNat then s_p else Option.map (fun a => Addr.add a ((0 : Int).toNat * 1)) s_p) else Option.map (fun a => Addr.add a (((s_n : Nat) : Int).toNat * 1)) (if s_c = (0 : Int).toNat then s_p else Option.map (fun a => Addr.add a ((0 : Int).toNat * 1)) s_p)) 0 cs4) (fun e u12 => e = .returned (.tuple #[]) ∧
  R (.returned (.slice (if s_c = (0 : Int).toNat then s_p else Option.map (fun a => Addr.add a ((0 : Int).toNat * 1)) s_p) ((((s_n : Nat) : Int) + ((v_n : Nat) : Int)).toNat - (0 : Int).toNat) (s_c - (0 : Int).toNat))) u12)))))))))
set_option maxRecDepth 100000 in
theorem vc_slices_InsertL_int_int_eq (s_p : Option Addr) (s_n s_c : Nat) (i : Int) (v_p : Option Addr) (v_n v_c : Nat) (u : World) (R : Ending → World → Prop) : wFunc cx_slices_InsertL_int_int Try.f13 [.slice s_p s_n s_c, .int .i64 i, .slice v_p v_n v_c] u R = vc_slices_InsertL_int_int s_p s_n s_c i v_p v_n v_c u R := by kernel_rfl
theorem vc_slices_InsertL_int_int_spec (s_p : Option Addr) (s_n s_c : Nat) (i : Int) (v_p : Option Addr) (v_n v_c : Nat) {u : World} {R : Ending → World → Prop} (h : vc_slices_InsertL_int_int s_p s_n s_c i v_p v_n v_c u R) : Spec Try.prog fn_slices_InsertL_int_int #[.slice s_p s_n s_c, .int .i64 i, .slice v_p v_n v_c] u R := func_spec (C := cx_slices_InsertL_int_int) (fn := Try.f13) (args := [.slice s_p s_n s_c, .int .i64 i, .slice v_p v_n v_c]) (ctxOk _ _ _ _ _) Try.func13 (vc_slices_InsertL_int_int_eq s_p s_n s_c i v_p v_n v_c u R) h

/-- slices.Delete[[][]int,[]int] -/
noncomputable def cx_slices_DeleteL_int_int : Ctx := ⟨Try.prog, tab, [], [], [], fns, [], []⟩
def vc_slices_DeleteL_int_int (s_p : Option Addr) (s_n s_c : Nat) (i : Int) (j : Int) (u : World) (R : Ending → World → Prop) : Prop :=
  0 ≤ i ∧ i ≤ j ∧ j ≤ ((s_n : Nat) : Int) ∧ ((s_n : Nat) : Int) ≤ ((s_c : Nat) : Int) ∧
    (((decide (i = j)) = true → R (.returned (.slice s_p s_n s_c)) u) ∧
      ((decide (i = j)) = false → 0 ≤ (0 : Int) ∧ (0 : Int) ≤ i ∧ i ≤ ((s_c : Nat) : Int) ∧
      0 ≤ j ∧ j ≤ ((s_n : Nat) : Int) ∧ ((s_n : Nat) : Int) ≤ ((s_c : Nat) : Int) ∧
      ∃ old new : List Value, old.length = (i.toNat - (0 : Int).toNat) * 1 ∧
      Gets (drewW u) (if s_c = (0 : Int).toNat then s_p else Option.map (fun a => Addr.add a ((0 : Int).toNat * 1)) s_p) old ∧
      new.length = (((s_n : Nat) : Int).toNat - j.toNat) * 1 ∧ Gets (drewW u) (if s_c = j.toNat then s_p else Option.map (fun a => Addr.add a (j.toNat * 1)) s_p) new ∧
      0 < 24 ∧ (2 * ((i.toNat - (0 : Int).toNat) + (((s_n : Nat) : Int).toNat - j.toNat)) + 192) * 24 ≤ 140737488355328 ∧
        okCells new True ∧ ((i.toNat - (0 : Int).toNat) + (((s_n : Nat) : Int).toNat - j.toNat) ≤ (s_c - (0 : Int).toNat) →
      WrS (drewW u) (if s_c = (0 : Int).toNat then s_p else Option.map (fun a => Addr.add a ((0 : Int).toNat * 1)) s_p) ((i.toNat - (0 : Int).toNat) * 1) ((((s_n : Nat) : Int).toNat - j.toNat) * 1)) ∧
      ∀ p cap u1, AppR (drewW u) 33 1 [.slice none 0 0] (if s_c = (0 : Int).toNat then s_p else Option.map (fun a => Addr.add a ((0 : Int).toNat * 1)) s_p) (i.toNat - (0 : Int).toNat) (s_c - (0 : Int).toNat) (((s_n : Nat) : Int).toNat - j.toNat) old new p cap u1 →
      0 ≤ (((i.toNat - (0 : Int).toNat) + (((s_n : Nat) : Int).toNat - j.toNat) : Nat) : Int) ∧
      (((i.toNat - (0 : Int).toNat) + (((s_n : Nat) : Int).toNat - j.toNat) : Nat) : Int) ≤ ((s_n : Nat) : Int) ∧
      ((s_n : Nat) : Int) ≤ ((cap : Nat) : Int) ∧ okCells (repl (((s_n : Nat) : Int).toNat - (((i.toNat - (0 : Int).toNat) + (((s_n : Nat) : Int).toNat - j.toNat) : Nat) : Int).toNat) ([.slice none 0 0])) True ∧
      WrS u1 (if cap = (((i.toNat - (0 : Int).toNat) + (((s_n : Nat) : Int).toNat - j.toNat) : Nat) : Int).toNat then p else Option.map (fun a => Addr.add a ((((i.toNat - (0 : Int).toNat) + (((s_n : Nat) : Int).toNat - j.toNat) : Nat) : Int).toNat * 1)) p) 0 ((((s_n : Nat) : Int).toNat - (((i.toNat - (0 : Int).toNat) + (((s_n : Nat) : Int).toNat - j.toNat) : Nat) : Int).toNat) * 1) ∧
  R (.returned (.slice p ((i.toNat - (0 : Int).toNat) + (((s_n : Nat) : Int).toNat - j.toNat)) cap)) (putSl u1 (if cap = (((i.toNat - (0 : Int).toNat) + (((s_n : Nat) : Int).toNat - j.toNat) : Nat) : Int).toNat then p else Option.map (fun a => Addr.add a ((((i.toNat - (0 : Int).toNat) + (((s_n : Nat) : Int).toNat - j.toNat) : Nat) : Int).toNat * 1)) p) 0 (repl (((s_n : Nat) : Int).toNat - (((i.toNat - (0 : Int).toNat) + (((s_n : Nat) : Int).toNat - j.toNat) : Nat) : Int).toNat) ([.slice none 0 0])))))
set_option maxRecDepth 100000 in
theorem vc_slices_DeleteL_int_int_eq (s_p : Option Addr) (s_n s_c : Nat) (i : Int) (j : Int) (u : World) (R : Ending → World → Prop) : wFunc cx_slices_DeleteL_int_int Try.f17 [.slice s_p s_n s_c, .int .i64 i, .int .i64 j] u R = vc_slices_DeleteL_int_int s_p s_n s_c i j u R := by kernel_rfl
theorem vc_slices_DeleteL_int_int_spec (s_p : Option Addr) (s_n s_c : Nat) (i : Int) (j : Int) {u : World} {R : Ending → World → Prop} (h : vc_slices_DeleteL_int_int s_p s_n s_c i j u R) : Spec Try.prog fn_slices_DeleteL_int_int #[.slice s_p s_n s_c, .int .i64 i, .int .i64 j] u R := func_spec (C := cx_slices_DeleteL_int_int) (fn := Try.f17) (args := [.slice s_p s_n s_c, .int .i64 i, .int .i64 j]) (ctxOk _ _ _ _ _) Try.func17 (vc_slices_DeleteL_int_int_eq s_p s_n s_c i j u R) h

end Go.Proofs.Ytkmmphkjmamckac
