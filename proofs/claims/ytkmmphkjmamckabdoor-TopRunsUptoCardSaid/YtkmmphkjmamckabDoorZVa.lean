/-
  Texts that belong together, joined: VNum, VSlice, VSliceL, VClone, VTiles, VTiles2.
-/
import Derived.Test.YtkmmphkjmamckabDoorCtx
namespace Go.Proofs.YtkmmphkjmamckabDoor
open Go
set_option linter.all false

/-- strconv.Itoa -/
noncomputable def cx_strconv_Itoa : Ctx := ⟨Tryd.prog, tab, [], [], [], fns, [], []⟩
def vc_strconv_Itoa (i : Int) (u : World) (R : Ending → World → Prop) : Prop :=
 Spec Tryd.prog 82 #[.int .i64 i] u (fun e u1 => ∃ (q0 : ByteArray), e = .returned (.string q0) ∧
 R (.returned (.string q0)) u1)
set_option maxRecDepth 100000 in
theorem vc_strconv_Itoa_eq (i : Int) (u : World) (R : Ending → World → Prop) : wFunc cx_strconv_Itoa Tryd.f77 [.int .i64 i] u R = vc_strconv_Itoa i u R := by kernel_rfl
theorem vc_strconv_Itoa_spec (i : Int) {u : World} {R : Ending → World → Prop} (h : vc_strconv_Itoa i u R) : Spec Tryd.prog fn_strconv_Itoa #[.int .i64 i] u R := func_spec (C := cx_strconv_Itoa) (fn := Tryd.f77) (args := [.int .i64 i]) (ctxOk _ _ _ _ _) Tryd.func77 (vc_strconv_Itoa_eq i u R) h

/-- internal/strconv.Itoa -/
noncomputable def cx_internal_strconv_Itoa : Ctx := ⟨Tryd.prog, tab, [], [], [], fns, [], []⟩
def vc_internal_strconv_Itoa (i : Int) (u : World) (R : Ending → World → Prop) : Prop :=
 Spec Tryd.prog 85 #[.int .i64 i, .int .i64 10] u (fun e u1 => ∃ (q0 : ByteArray), e = .returned (.string q0) ∧
 R (.returned (.string q0)) u1)
set_option maxRecDepth 100000 in
theorem vc_internal_strconv_Itoa_eq (i : Int) (u : World) (R : Ending → World → Prop) : wFunc cx_internal_strconv_Itoa Tryd.f82 [.int .i64 i] u R = vc_internal_strconv_Itoa i u R := by kernel_rfl
theorem vc_internal_strconv_Itoa_spec (i : Int) {u : World} {R : Ending → World → Prop} (h : vc_internal_strconv_Itoa i u R) : Spec Tryd.prog fn_internal_strconv_Itoa #[.int .i64 i] u R := func_spec (C := cx_internal_strconv_Itoa) (fn := Tryd.f82) (args := [.int .i64 i]) (ctxOk _ _ _ _ _) Tryd.func82 (vc_internal_strconv_Itoa_eq i u R) h

/-- internal/strconv.small -/
noncomputable def cx_internal_strconv_small : Ctx := ⟨Tryd.prog, tab, [], [], [], fns, [], []⟩
def vc_internal_strconv_small (i : Int) (u : World) (R : Ending → World → Prop) : Prop :=
 (((decide (i < 10)) = true → inK .i64 (i + 1) ∧ 0 ≤ i ∧ i ≤ (i + 1) ∧
 (i + 1) ≤ (((ByteArray.mk #[48, 49, 50, 51, 52, 53, 54, 55, 56, 57, 97, 98, 99, 100, 101, 102, 103, 104, 105, 106, 107, 108, 109, 110, 111, 112, 113, 114, 115, 116, 117, 118, 119, 120, 121, 122]).size : Nat) : Int) ∧
 R (.returned (.string ((ByteArray.mk #[48, 49, 50, 51, 52, 53, 54, 55, 56, 57, 97, 98, 99, 100, 101, 102, 103, 104, 105, 106, 107, 108, 109, 110, 111, 112, 113, 114, 115, 116, 117, 118, 119, 120, 121, 122]).extract i.toNat (i + 1).toNat))) u) ∧
 ((decide (i < 10)) = false → inK .i64 (i * 2) ∧ inK .i64 (i * 2) ∧
 inK .i64 ((i * 2) + 2) ∧ 0 ≤ (i * 2) ∧ (i * 2) ≤ ((i * 2) + 2) ∧
 ((i * 2) + 2) ≤ (((ByteArray.mk #[48, 48, 48, 49, 48, 50, 48, 51, 48, 52, 48, 53, 48, 54, 48, 55, 48, 56, 48, 57, 49, 48, 49, 49, 49, 50, 49, 51, 49, 52, 49, 53, 49, 54, 49, 55, 49, 56, 49, 57, 50, 48, 50, 49, 50, 50, 50, 51, 50, 52, 50, 53, 50, 54, 50, 55, 50, 56, 50, 57, 51, 48, 51, 49, 51, 50, 51, 51, 51, 52, 51, 53, 51, 54, 51, 55, 51, 56, 51, 57, 52, 48, 52, 49, 52, 50, 52, 51, 52, 52, 52, 53, 52, 54, 52, 55, 52, 56, 52, 57, 53, 48, 53, 49, 53, 50, 53, 51, 53, 52, 53, 53, 53, 54, 53, 55, 53, 56, 53, 57, 54, 48, 54, 49, 54, 50, 54, 51, 54, 52, 54, 53, 54, 54, 54, 55, 54, 56, 54, 57, 55, 48, 55, 49, 55, 50, 55, 51, 55, 52, 55, 53, 55, 54, 55, 55, 55, 56, 55, 57, 56, 48, 56, 49, 56, 50, 56, 51, 56, 52, 56, 53, 56, 54, 56, 55, 56, 56, 56, 57, 57, 48, 57, 49, 57, 50, 57, 51, 57, 52, 57, 53, 57, 54, 57, 55, 57, 56, 57, 57]).size : Nat) : Int) ∧
 R (.returned (.string ((ByteArray.mk #[48, 48, 48, 49, 48, 50, 48, 51, 48, 52, 48, 53, 48, 54, 48, 55, 48, 56, 48, 57, 49, 48, 49, 49, 49, 50, 49, 51, 49, 52, 49, 53, 49, 54, 49, 55, 49, 56, 49, 57, 50, 48, 50, 49, 50, 50, 50, 51, 50, 52, 50, 53, 50, 54, 50, 55, 50, 56, 50, 57, 51, 48, 51, 49, 51, 50, 51, 51, 51, 52, 51, 53, 51, 54, 51, 55, 51, 56, 51, 57, 52, 48, 52, 49, 52, 50, 52, 51, 52, 52, 52, 53, 52, 54, 52, 55, 52, 56, 52, 57, 53, 48, 53, 49, 53, 50, 53, 51, 53, 52, 53, 53, 53, 54, 53, 55, 53, 56, 53, 57, 54, 48, 54, 49, 54, 50, 54, 51, 54, 52, 54, 53, 54, 54, 54, 55, 54, 56, 54, 57, 55, 48, 55, 49, 55, 50, 55, 51, 55, 52, 55, 53, 55, 54, 55, 55, 55, 56, 55, 57, 56, 48, 56, 49, 56, 50, 56, 51, 56, 52, 56, 53, 56, 54, 56, 55, 56, 56, 56, 57, 57, 48, 57, 49, 57, 50, 57, 51, 57, 52, 57, 53, 57, 54, 57, 55, 57, 56, 57, 57]).extract (i * 2).toNat ((i * 2) + 2).toNat))) u))
set_option maxRecDepth 100000 in
theorem vc_internal_strconv_small_eq (i : Int) (u : World) (R : Ending → World → Prop) : wFunc cx_internal_strconv_small Tryd.f86 [.int .i64 i] u R = vc_internal_strconv_small i u R := by kernel_rfl
theorem vc_internal_strconv_small_spec (i : Int) {u : World} {R : Ending → World → Prop} (h : vc_internal_strconv_small i u R) : Spec Tryd.prog fn_internal_strconv_small #[.int .i64 i] u R := func_spec (C := cx_internal_strconv_small) (fn := Tryd.f86) (args := [.int .i64 i]) (ctxOk _ _ _ _ _) Tryd.func86 (vc_internal_strconv_small_eq i u R) h

end Go.Proofs.YtkmmphkjmamckabDoor

namespace Go.Proofs.YtkmmphkjmamckabDoor
open Go
set_option linter.all false

/-- slices.Insert[[]int,int] -/
noncomputable def cx_slices_Insert_int_int : Ctx := ⟨Tryd.prog, tab, [], [], [], fns, [], []⟩
def vc_slices_Insert_int_int (s_p : Option Addr) (s_n s_c : Nat) (i : Int) (v_p : Option Addr) (v_n v_c : Nat) (u : World) (R : Ending → World → Prop) : Prop :=
 0 ≤ i ∧ i ≤ ((s_n : Nat) : Int) ∧ ((s_n : Nat) : Int) ≤ ((s_c : Nat) : Int) ∧
 (((decide (((v_n : Nat) : Int) = 0)) = true → R (.returned (.slice s_p s_n s_c)) u) ∧
 ((decide (((v_n : Nat) : Int) = 0)) = false → (((decide (i = ((s_n : Nat) : Int))) = true →
 ∃ old new : List Value, old.length = s_n * 1 ∧ Gets u s_p old ∧
 new.length = v_n * 1 ∧ Gets u v_p new ∧ 0 < 8 ∧ (2 * (s_n + v_n) + 192) * 8 ≤ 140737488355328 ∧
 okCells new True ∧ (s_n + v_n ≤ s_c → WrS u s_p (s_n * 1) (v_n * 1)) ∧
 ∀ p cap u1, AppR u 3 1 [.int .i64 0] s_p s_n s_c v_n old new p cap u1 →
 R (.returned (.slice p (s_n + v_n) cap)) u1) ∧ ((decide (i = ((s_n : Nat) : Int))) = false →
 inK .i64 (((s_n : Nat) : Int) + ((v_n : Nat) : Int)) ∧ (((decide (((s_c : Nat) : Int) < (((s_n : Nat) : Int) + ((v_n : Nat) : Int)))) = true →
 0 ≤ (0 : Int) ∧ (0 : Int) ≤ i ∧ i ≤ ((s_c : Nat) : Int) ∧ inK .i64 (((s_n : Nat) : Int) + ((v_n : Nat) : Int)) ∧
 inK .i64 ((((s_n : Nat) : Int) + ((v_n : Nat) : Int)) - i) ∧ ∃ old1 : List Value, old1.length = (i.toNat - (0 : Int).toNat) * 1 ∧
 Gets u (if s_c = (0 : Int).toNat then s_p else Option.map (fun a => Addr.add a ((0 : Int).toNat * 1)) s_p) old1 ∧
 0 < 8 ∧ 0 < 1 ∧ 0 < ((((s_n : Nat) : Int) + ((v_n : Nat) : Int)) - i) ∧
 (((s_c - (0 : Int).toNat) : Nat) : Int) < (((i.toNat - (0 : Int).toNat) : Nat) : Int) + ((((s_n : Nat) : Int) + ((v_n : Nat) : Int)) - i) ∧
 (2 * ((((i.toNat - (0 : Int).toNat) : Nat) : Int) + ((((s_n : Nat) : Int) + ((v_n : Nat) : Int)) - i)) + 192) * ((8 : Nat) : Int) ≤ 140737488355328 ∧
 ∀ p1 cap1 u11, AppR u 3 1 ([.int .i64 0]) (if s_c = (0 : Int).toNat then s_p else Option.map (fun a => Addr.add a ((0 : Int).toNat * 1)) s_p) (i.toNat - (0 : Int).toNat) (s_c - (0 : Int).toNat) ((((s_n : Nat) : Int) + ((v_n : Nat) : Int)) - i).toNat old1 (repl ((((s_n : Nat) : Int) + ((v_n : Nat) : Int)) - i).toNat ([.int .i64 0])) p1 cap1 u11 →
 0 ≤ i ∧ i ≤ (((i.toNat - (0 : Int).toNat) + ((((s_n : Nat) : Int) + ((v_n : Nat) : Int)) - i).toNat : Nat) : Int) ∧
 (((i.toNat - (0 : Int).toNat) + ((((s_n : Nat) : Int) + ((v_n : Nat) : Int)) - i).toNat : Nat) : Int) ≤ ((cap1 : Nat) : Int) ∧
 ∃ cs : List Value, cs.length = min v_n ((((i.toNat - (0 : Int).toNat) + ((((s_n : Nat) : Int) + ((v_n : Nat) : Int)) - i).toNat : Nat) : Int).toNat - i.toNat) * 1 ∧
 Gets u11 v_p cs ∧ okCells cs True ∧ WrS u11 (if cap1 = i.toNat then p1 else Option.map (fun a => Addr.add a (i.toNat * 1)) p1) 0 (min v_n ((((i.toNat - (0 : Int).toNat) + ((((s_n : Nat) : Int) + ((v_n : Nat) : Int)) - i).toNat : Nat) : Int).toNat - i.toNat) * 1) ∧
 inK .i64 (i + ((v_n : Nat) : Int)) ∧ 0 ≤ (i + ((v_n : Nat) : Int)) ∧
 (i + ((v_n : Nat) : Int)) ≤ (((i.toNat - (0 : Int).toNat) + ((((s_n : Nat) : Int) + ((v_n : Nat) : Int)) - i).toNat : Nat) : Int) ∧
 (((i.toNat - (0 : Int).toNat) + ((((s_n : Nat) : Int) + ((v_n : Nat) : Int)) - i).toNat : Nat) : Int) ≤ ((cap1 : Nat) : Int) ∧
 0 ≤ i ∧ i ≤ ((s_n : Nat) : Int) ∧ ((s_n : Nat) : Int) ≤ ((s_c : Nat) : Int) ∧
 ∃ cs1 : List Value, cs1.length = min (((s_n : Nat) : Int).toNat - i.toNat) ((((i.toNat - (0 : Int).toNat) + ((((s_n : Nat) : Int) + ((v_n : Nat) : Int)) - i).toNat : Nat) : Int).toNat - (i + ((v_n : Nat) : Int)).toNat) * 1 ∧
 Gets (drewW (putSl u11 (if cap1 = i.toNat then p1 else Option.map (fun a => Addr.add a (i.toNat * 1)) p1) 0 cs)) (if s_c = i.toNat then s_p else Option.map (fun a => Addr.add a (i.toNat * 1)) s_p) cs1 ∧
 okCells cs1 True ∧ WrS (drewW (putSl u11 (if cap1 = i.toNat then p1 else Option.map (fun a => Addr.add a (i.toNat * 1)) p1) 0 cs)) (if cap1 = (i + ((v_n : Nat) : Int)).toNat then p1 else Option.map (fun a => Addr.add a ((i + ((v_n : Nat) : Int)).toNat * 1)) p1) 0 (min (((s_n : Nat) : Int).toNat - i.toNat) ((((i.toNat - (0 : Int).toNat) + ((((s_n : Nat) : Int) + ((v_n : Nat) : Int)) - i).toNat : Nat) : Int).toNat - (i + ((v_n : Nat) : Int)).toNat) * 1) ∧
 R (.returned (.slice p1 ((i.toNat - (0 : Int).toNat) + ((((s_n : Nat) : Int) + ((v_n : Nat) : Int)) - i).toNat) cap1)) (putSl (drewW (putSl u11 (if cap1 = i.toNat then p1 else Option.map (fun a => Addr.add a (i.toNat * 1)) p1) 0 cs)) (if cap1 = (i + ((v_n : Nat) : Int)).toNat then p1 else Option.map (fun a => Addr.add a ((i + ((v_n : Nat) : Int)).toNat * 1)) p1) 0 cs1)) ∧
 ((decide (((s_c : Nat) : Int) < (((s_n : Nat) : Int) + ((v_n : Nat) : Int)))) = false →
 inK .i64 (((s_n : Nat) : Int) + ((v_n : Nat) : Int)) ∧ 0 ≤ (0 : Int) ∧
 (0 : Int) ≤ (((s_n : Nat) : Int) + ((v_n : Nat) : Int)) ∧ (((s_n : Nat) : Int) + ((v_n : Nat) : Int)) ≤ ((s_c : Nat) : Int) ∧
 inK .i64 (i + ((v_n : Nat) : Int)) ∧ 0 ≤ (i + ((v_n : Nat) : Int)) ∧
 (i + ((v_n : Nat) : Int)) ≤ (((((s_n : Nat) : Int) + ((v_n : Nat) : Int)).toNat - (0 : Int).toNat : Nat) : Int) ∧
 (((((s_n : Nat) : Int) + ((v_n : Nat) : Int)).toNat - (0 : Int).toNat : Nat) : Int) ≤ ((s_c - (0 : Int).toNat : Nat) : Int) ∧
 ∃ (q0 : Bool), (∀ w', Le u w' → (callFunc 67 #[.slice v_p v_n v_c, .slice (if s_c - (0 : Int).toNat = (i + ((v_n : Nat) : Int)).toNat then (if s_c = (0 : Int).toNat then s_p else Option.map (fun a => Addr.add a ((0 : Int).toNat * 1)) s_p) else Option.map (fun a => Addr.add a ((i + ((v_n : Nat) : Int)).toNat * 1)) (if s_c = (0 : Int).toNat then s_p else Option.map (fun a => Addr.add a ((0 : Int).toNat * 1)) s_p)) ((((((s_n : Nat) : Int) + ((v_n : Nat) : Int)).toNat - (0 : Int).toNat : Nat) : Int).toNat - (i + ((v_n : Nat) : Int)).toNat) (s_c - (0 : Int).toNat - (i + ((v_n : Nat) : Int)).toNat)]).run Tryd.prog w' = .ok (.value (.bool q0)) w') ∧
 (((!q0) = true → inK .i64 (i + ((v_n : Nat) : Int)) ∧ 0 ≤ (i + ((v_n : Nat) : Int)) ∧
 (i + ((v_n : Nat) : Int)) ≤ (((((s_n : Nat) : Int) + ((v_n : Nat) : Int)).toNat - (0 : Int).toNat : Nat) : Int) ∧
 (((((s_n : Nat) : Int) + ((v_n : Nat) : Int)).toNat - (0 : Int).toNat : Nat) : Int) ≤ ((s_c - (0 : Int).toNat : Nat) : Int) ∧
 0 ≤ i ∧ i ≤ (((((s_n : Nat) : Int) + ((v_n : Nat) : Int)).toNat - (0 : Int).toNat : Nat) : Int) ∧
 (((((s_n : Nat) : Int) + ((v_n : Nat) : Int)).toNat - (0 : Int).toNat : Nat) : Int) ≤ ((s_c - (0 : Int).toNat : Nat) : Int) ∧
 ∃ cs2 : List Value, cs2.length = min ((((((s_n : Nat) : Int) + ((v_n : Nat) : Int)).toNat - (0 : Int).toNat : Nat) : Int).toNat - i.toNat) ((((((s_n : Nat) : Int) + ((v_n : Nat) : Int)).toNat - (0 : Int).toNat : Nat) : Int).toNat - (i + ((v_n : Nat) : Int)).toNat) * 1 ∧
 Gets (drewW u) (if s_c - (0 : Int).toNat = i.toNat then (if s_c = (0 : Int).toNat then s_p else Option.map (fun a => Addr.add a ((0 : Int).toNat * 1)) s_p) else Option.map (fun a => Addr.add a (i.toNat * 1)) (if s_c = (0 : Int).toNat then s_p else Option.map (fun a => Addr.add a ((0 : Int).toNat * 1)) s_p)) cs2 ∧
 okCells cs2 True ∧ WrS (drewW u) (if s_c - (0 : Int).toNat = (i + ((v_n : Nat) : Int)).toNat then (if s_c = (0 : Int).toNat then s_p else Option.map (fun a => Addr.add a ((0 : Int).toNat * 1)) s_p) else Option.map (fun a => Addr.add a ((i + ((v_n : Nat) : Int)).toNat * 1)) (if s_c = (0 : Int).toNat then s_p else Option.map (fun a => Addr.add a ((0 : Int).toNat * 1)) s_p)) 0 (min ((((((s_n : Nat) : Int) + ((v_n : Nat) : Int)).toNat - (0 : Int).toNat : Nat) : Int).toNat - i.toNat) ((((((s_n : Nat) : Int) + ((v_n : Nat) : Int)).toNat - (0 : Int).toNat : Nat) : Int).toNat - (i + ((v_n : Nat) : Int)).toNat) * 1) ∧
 0 ≤ i ∧ i ≤ (((((s_n : Nat) : Int) + ((v_n : Nat) : Int)).toNat - (0 : Int).toNat : Nat) : Int) ∧
 (((((s_n : Nat) : Int) + ((v_n : Nat) : Int)).toNat - (0 : Int).toNat : Nat) : Int) ≤ ((s_c - (0 : Int).toNat : Nat) : Int) ∧
 ∃ cs3 : List Value, cs3.length = min v_n ((((((s_n : Nat) : Int) + ((v_n : Nat) : Int)).toNat - (0 : Int).toNat : Nat) : Int).toNat - i.toNat) * 1 ∧
 Gets (putSl (drewW u) (if s_c - (0 : Int).toNat = (i + ((v_n : Nat) : Int)).toNat then (if s_c = (0 : Int).toNat then s_p else Option.map (fun a => Addr.add a ((0 : Int).toNat * 1)) s_p) else Option.map (fun a => Addr.add a ((i + ((v_n : Nat) : Int)).toNat * 1)) (if s_c = (0 : Int).toNat then s_p else Option.map (fun a => Addr.add a ((0 : Int).toNat * 1)) s_p)) 0 cs2) v_p cs3 ∧
 okCells cs3 True ∧ WrS (putSl (drewW u) (if s_c - (0 : Int).toNat = (i + ((v_n : Nat) : Int)).toNat then (if s_c = (0 : Int).toNat then s_p else Option.map (fun a => Addr.add a ((0 : Int).toNat * 1)) s_p) else Option.map (fun a => Addr.add a ((i + ((v_n : Nat) : Int)).toNat * 1)) (if s_c = (0 : Int).toNat then s_p else Option.map (fun a => Addr.add a ((0 : Int).toNat * 1)) s_p)) 0 cs2) (if s_c - (0 : Int).toNat = i.toNat then (if s_c = (0 : Int).toNat then s_p else Option.map (fun a => Addr.add a ((0 : Int).toNat * 1)) s_p) else Option.map (fun a => Addr.add a (i.toNat * 1)) (if s_c = (0 : Int).toNat then s_p else Option.map (fun a => Addr.add a ((0 : Int).toNat * 1)) s_p)) 0 (min v_n ((((((s_n : Nat) : Int) + ((v_n : Nat) : Int)).toNat - (0 : Int).toNat : Nat) : Int).toNat - i.toNat) * 1) ∧
 R (.returned (.slice (if s_c = (0 : Int).toNat then s_p else Option.map (fun a => Addr.add a ((0 : Int).toNat * 1)) s_p) ((((s_n : Nat) : Int) + ((v_n : Nat) : Int)).toNat - (0 : Int).toNat) (s_c - (0 : Int).toNat))) (putSl (putSl (drewW u) (if s_c - (0 : Int).toNat = (i + ((v_n : Nat) : Int)).toNat then (if s_c = (0 : Int).toNat then s_p else Option.map (fun a => Addr.add a ((0 : Int).toNat * 1)) s_p) else Option.map (fun a => Addr.add a ((i + ((v_n : Nat) : Int)).toNat * 1)) (if s_c = (0 : Int).toNat then s_p else Option.map (fun a => Addr.add a ((0 : Int).toNat * 1)) s_p)) 0 cs2) (if s_c - (0 : Int).toNat = i.toNat then (if s_c = (0 : Int).toNat then s_p else Option.map (fun a => Addr.add a ((0 : Int).toNat * 1)) s_p) else Option.map (fun a => Addr.add a (i.toNat * 1)) (if s_c = (0 : Int).toNat then s_p else Option.map (fun a => Addr.add a ((0 : Int).toNat * 1)) s_p)) 0 cs3)) ∧
 ((!q0) = false → 0 ≤ ((s_n : Nat) : Int) ∧ ((s_n : Nat) : Int) ≤ (((((s_n : Nat) : Int) + ((v_n : Nat) : Int)).toNat - (0 : Int).toNat : Nat) : Int) ∧
 (((((s_n : Nat) : Int) + ((v_n : Nat) : Int)).toNat - (0 : Int).toNat : Nat) : Int) ≤ ((s_c - (0 : Int).toNat : Nat) : Int) ∧
 ∃ cs4 : List Value, cs4.length = min v_n ((((((s_n : Nat) : Int) + ((v_n : Nat) : Int)).toNat - (0 : Int).toNat : Nat) : Int).toNat - ((s_n : Nat) : Int).toNat) * 1 ∧
 Gets u v_p cs4 ∧ okCells cs4 True ∧ WrS u (if s_c - (0 : Int).toNat = ((s_n : Nat) : Int).toNat then (if s_c = (0 : Int).toNat then s_p else Option.map (fun a => Addr.add a ((0 : Int).toNat * 1)) s_p) else Option.map (fun a => Addr.add a (((s_n : Nat) : Int).toNat * 1)) (if s_c = (0 : Int).toNat then s_p else Option.map (fun a => Addr.add a ((0 : Int).toNat * 1)) s_p)) 0 (min v_n ((((((s_n : Nat) : Int) + ((v_n : Nat) : Int)).toNat - (0 : Int).toNat : Nat) : Int).toNat - ((s_n : Nat) : Int).toNat) * 1) ∧
 0 ≤ i ∧ i ≤ (((((s_n : Nat) : Int) + ((v_n : Nat) : Int)).toNat - (0 : Int).toNat : Nat) : Int) ∧
 (((((s_n : Nat) : Int) + ((v_n : Nat) : Int)).toNat - (0 : Int).toNat : Nat) : Int) ≤ ((s_c - (0 : Int).toNat : Nat) : Int) ∧
 Spec Tryd.prog 68 #[.slice (if s_c - (0 : Int).toNat = i.toNat then (if s_c = (0 : Int).toNat then s_p else Option.map (fun a => Addr.add a ((0 : Int).toNat * 1)) s_p) else Option.map (fun a => Addr.add a (i.toNat * 1)) (if s_c = (0 : Int).toNat then s_p else Option.map (fun a => Addr.add a ((0 : Int).toNat * 1)) s_p)) ((((((s_n : Nat) : Int) + ((v_n : Nat) : Int)).toNat - (0 : Int).toNat : Nat) : Int).toNat - i.toNat) (s_c - (0 : Int).toNat - i.toNat), .int .i64 ((v_n : Nat) : Int)] (putSl u (if s_c - (0 : Int).toNat = ((s_n : Nat) : Int).toNat then (if s_c = (0 : Int).toNat then s_p else Option.map (fun a => Addr.add a ((0 : Int).toNat * 1)) s_p) else Option.map (fun a => Addr.add a (((s_n : Nat) : Int).toNat * 1)) (if s_c = (0 : Int).toNat then s_p else Option.map (fun a => Addr.add a ((0 : Int).toNat * 1)) s_p)) 0 cs4) (fun e u12 => e = .returned (.tuple #[]) ∧
 R (.returned (.slice (if s_c = (0 : Int).toNat then s_p else Option.map (fun a => Addr.add a ((0 : Int).toNat * 1)) s_p) ((((s_n : Nat) : Int) + ((v_n : Nat) : Int)).toNat - (0 : Int).toNat) (s_c - (0 : Int).toNat))) u12)))))))))
set_option maxRecDepth 100000 in
theorem vc_slices_Insert_int_int_eq (s_p : Option Addr) (s_n s_c : Nat) (i : Int) (v_p : Option Addr) (v_n v_c : Nat) (u : World) (R : Ending → World → Prop) : wFunc cx_slices_Insert_int_int Tryd.f48 [.slice s_p s_n s_c, .int .i64 i, .slice v_p v_n v_c] u R = vc_slices_Insert_int_int s_p s_n s_c i v_p v_n v_c u R := by kernel_rfl
theorem vc_slices_Insert_int_int_spec (s_p : Option Addr) (s_n s_c : Nat) (i : Int) (v_p : Option Addr) (v_n v_c : Nat) {u : World} {R : Ending → World → Prop} (h : vc_slices_Insert_int_int s_p s_n s_c i v_p v_n v_c u R) : Spec Tryd.prog fn_slices_Insert_int_int #[.slice s_p s_n s_c, .int .i64 i, .slice v_p v_n v_c] u R := func_spec (C := cx_slices_Insert_int_int) (fn := Tryd.f48) (args := [.slice s_p s_n s_c, .int .i64 i, .slice v_p v_n v_c]) (ctxOk _ _ _ _ _) Tryd.func48 (vc_slices_Insert_int_int_eq s_p s_n s_c i v_p v_n v_c u R) h

/-- slices.Delete[[]int,int] -/
noncomputable def cx_slices_Delete_int_int : Ctx := ⟨Tryd.prog, tab, [], [], [], fns, [], []⟩
def vc_slices_Delete_int_int (s_p : Option Addr) (s_n s_c : Nat) (i : Int) (j : Int) (u : World) (R : Ending → World → Prop) : Prop :=
 0 ≤ i ∧ i ≤ j ∧ j ≤ ((s_n : Nat) : Int) ∧ ((s_n : Nat) : Int) ≤ ((s_c : Nat) : Int) ∧
 (((decide (i = j)) = true → R (.returned (.slice s_p s_n s_c)) u) ∧
 ((decide (i = j)) = false → 0 ≤ (0 : Int) ∧ (0 : Int) ≤ i ∧ i ≤ ((s_c : Nat) : Int) ∧
 0 ≤ j ∧ j ≤ ((s_n : Nat) : Int) ∧ ((s_n : Nat) : Int) ≤ ((s_c : Nat) : Int) ∧
 ∃ old new : List Value, old.length = (i.toNat - (0 : Int).toNat) * 1 ∧
 Gets (drewW u) (if s_c = (0 : Int).toNat then s_p else Option.map (fun a => Addr.add a ((0 : Int).toNat * 1)) s_p) old ∧
 new.length = (((s_n : Nat) : Int).toNat - j.toNat) * 1 ∧ Gets (drewW u) (if s_c = j.toNat then s_p else Option.map (fun a => Addr.add a (j.toNat * 1)) s_p) new ∧
 0 < 8 ∧ (2 * ((i.toNat - (0 : Int).toNat) + (((s_n : Nat) : Int).toNat - j.toNat)) + 192) * 8 ≤ 140737488355328 ∧
 okCells new True ∧ ((i.toNat - (0 : Int).toNat) + (((s_n : Nat) : Int).toNat - j.toNat) ≤ (s_c - (0 : Int).toNat) →
 WrS (drewW u) (if s_c = (0 : Int).toNat then s_p else Option.map (fun a => Addr.add a ((0 : Int).toNat * 1)) s_p) ((i.toNat - (0 : Int).toNat) * 1) ((((s_n : Nat) : Int).toNat - j.toNat) * 1)) ∧
 ∀ p cap u1, AppR (drewW u) 3 1 [.int .i64 0] (if s_c = (0 : Int).toNat then s_p else Option.map (fun a => Addr.add a ((0 : Int).toNat * 1)) s_p) (i.toNat - (0 : Int).toNat) (s_c - (0 : Int).toNat) (((s_n : Nat) : Int).toNat - j.toNat) old new p cap u1 →
 0 ≤ (((i.toNat - (0 : Int).toNat) + (((s_n : Nat) : Int).toNat - j.toNat) : Nat) : Int) ∧
 (((i.toNat - (0 : Int).toNat) + (((s_n : Nat) : Int).toNat - j.toNat) : Nat) : Int) ≤ ((s_n : Nat) : Int) ∧
 ((s_n : Nat) : Int) ≤ ((cap : Nat) : Int) ∧ okCells (repl (((s_n : Nat) : Int).toNat - (((i.toNat - (0 : Int).toNat) + (((s_n : Nat) : Int).toNat - j.toNat) : Nat) : Int).toNat) ([.int .i64 0])) True ∧
 WrS u1 (if cap = (((i.toNat - (0 : Int).toNat) + (((s_n : Nat) : Int).toNat - j.toNat) : Nat) : Int).toNat then p else Option.map (fun a => Addr.add a ((((i.toNat - (0 : Int).toNat) + (((s_n : Nat) : Int).toNat - j.toNat) : Nat) : Int).toNat * 1)) p) 0 ((((s_n : Nat) : Int).toNat - (((i.toNat - (0 : Int).toNat) + (((s_n : Nat) : Int).toNat - j.toNat) : Nat) : Int).toNat) * 1) ∧
 R (.returned (.slice p ((i.toNat - (0 : Int).toNat) + (((s_n : Nat) : Int).toNat - j.toNat)) cap)) (putSl u1 (if cap = (((i.toNat - (0 : Int).toNat) + (((s_n : Nat) : Int).toNat - j.toNat) : Nat) : Int).toNat then p else Option.map (fun a => Addr.add a ((((i.toNat - (0 : Int).toNat) + (((s_n : Nat) : Int).toNat - j.toNat) : Nat) : Int).toNat * 1)) p) 0 (repl (((s_n : Nat) : Int).toNat - (((i.toNat - (0 : Int).toNat) + (((s_n : Nat) : Int).toNat - j.toNat) : Nat) : Int).toNat) ([.int .i64 0])))))
set_option maxRecDepth 100000 in
theorem vc_slices_Delete_int_int_eq (s_p : Option Addr) (s_n s_c : Nat) (i : Int) (j : Int) (u : World) (R : Ending → World → Prop) : wFunc cx_slices_Delete_int_int Tryd.f49 [.slice s_p s_n s_c, .int .i64 i, .int .i64 j] u R = vc_slices_Delete_int_int s_p s_n s_c i j u R := by kernel_rfl
theorem vc_slices_Delete_int_int_spec (s_p : Option Addr) (s_n s_c : Nat) (i : Int) (j : Int) {u : World} {R : Ending → World → Prop} (h : vc_slices_Delete_int_int s_p s_n s_c i j u R) : Spec Tryd.prog fn_slices_Delete_int_int #[.slice s_p s_n s_c, .int .i64 i, .int .i64 j] u R := func_spec (C := cx_slices_Delete_int_int) (fn := Tryd.f49) (args := [.slice s_p s_n s_c, .int .i64 i, .int .i64 j]) (ctxOk _ _ _ _ _) Tryd.func49 (vc_slices_Delete_int_int_eq s_p s_n s_c i j u R) h

end Go.Proofs.YtkmmphkjmamckabDoor

namespace Go.Proofs.YtkmmphkjmamckabDoor
open Go
set_option linter.all false

/-- slices.Insert[[][]int,[]int] -/
noncomputable def cx_slices_InsertL_int_int : Ctx := ⟨Tryd.prog, tab, [], [], [], fns, [], []⟩
def vc_slices_InsertL_int_int (s_p : Option Addr) (s_n s_c : Nat) (i : Int) (v_p : Option Addr) (v_n v_c : Nat) (u : World) (R : Ending → World → Prop) : Prop :=
 0 ≤ i ∧ i ≤ ((s_n : Nat) : Int) ∧ ((s_n : Nat) : Int) ≤ ((s_c : Nat) : Int) ∧
 (((decide (((v_n : Nat) : Int) = 0)) = true → R (.returned (.slice s_p s_n s_c)) u) ∧
 ((decide (((v_n : Nat) : Int) = 0)) = false → (((decide (i = ((s_n : Nat) : Int))) = true →
 ∃ old new : List Value, old.length = s_n * 1 ∧ Gets u s_p old ∧
 new.length = v_n * 1 ∧ Gets u v_p new ∧ 0 < 24 ∧ (2 * (s_n + v_n) + 192) * 24 ≤ 140737488355328 ∧
 okCells new True ∧ (s_n + v_n ≤ s_c → WrS u s_p (s_n * 1) (v_n * 1)) ∧
 ∀ p cap u1, AppR u 42 1 [.slice none 0 0] s_p s_n s_c v_n old new p cap u1 →
 R (.returned (.slice p (s_n + v_n) cap)) u1) ∧ ((decide (i = ((s_n : Nat) : Int))) = false →
 inK .i64 (((s_n : Nat) : Int) + ((v_n : Nat) : Int)) ∧ (((decide (((s_c : Nat) : Int) < (((s_n : Nat) : Int) + ((v_n : Nat) : Int)))) = true →
 0 ≤ (0 : Int) ∧ (0 : Int) ≤ i ∧ i ≤ ((s_c : Nat) : Int) ∧ inK .i64 (((s_n : Nat) : Int) + ((v_n : Nat) : Int)) ∧
 inK .i64 ((((s_n : Nat) : Int) + ((v_n : Nat) : Int)) - i) ∧ ∃ old1 : List Value, old1.length = (i.toNat - (0 : Int).toNat) * 1 ∧
 Gets u (if s_c = (0 : Int).toNat then s_p else Option.map (fun a => Addr.add a ((0 : Int).toNat * 1)) s_p) old1 ∧
 0 < 24 ∧ 0 < 1 ∧ 0 < ((((s_n : Nat) : Int) + ((v_n : Nat) : Int)) - i) ∧
 (((s_c - (0 : Int).toNat) : Nat) : Int) < (((i.toNat - (0 : Int).toNat) : Nat) : Int) + ((((s_n : Nat) : Int) + ((v_n : Nat) : Int)) - i) ∧
 (2 * ((((i.toNat - (0 : Int).toNat) : Nat) : Int) + ((((s_n : Nat) : Int) + ((v_n : Nat) : Int)) - i)) + 192) * ((24 : Nat) : Int) ≤ 140737488355328 ∧
 ∀ p1 cap1 u11, AppR u 42 1 ([.slice none 0 0]) (if s_c = (0 : Int).toNat then s_p else Option.map (fun a => Addr.add a ((0 : Int).toNat * 1)) s_p) (i.toNat - (0 : Int).toNat) (s_c - (0 : Int).toNat) ((((s_n : Nat) : Int) + ((v_n : Nat) : Int)) - i).toNat old1 (repl ((((s_n : Nat) : Int) + ((v_n : Nat) : Int)) - i).toNat ([.slice none 0 0])) p1 cap1 u11 →
 0 ≤ i ∧ i ≤ (((i.toNat - (0 : Int).toNat) + ((((s_n : Nat) : Int) + ((v_n : Nat) : Int)) - i).toNat : Nat) : Int) ∧
 (((i.toNat - (0 : Int).toNat) + ((((s_n : Nat) : Int) + ((v_n : Nat) : Int)) - i).toNat : Nat) : Int) ≤ ((cap1 : Nat) : Int) ∧
 ∃ cs : List Value, cs.length = min v_n ((((i.toNat - (0 : Int).toNat) + ((((s_n : Nat) : Int) + ((v_n : Nat) : Int)) - i).toNat : Nat) : Int).toNat - i.toNat) * 1 ∧
 Gets u11 v_p cs ∧ okCells cs True ∧ WrS u11 (if cap1 = i.toNat then p1 else Option.map (fun a => Addr.add a (i.toNat * 1)) p1) 0 (min v_n ((((i.toNat - (0 : Int).toNat) + ((((s_n : Nat) : Int) + ((v_n : Nat) : Int)) - i).toNat : Nat) : Int).toNat - i.toNat) * 1) ∧
 inK .i64 (i + ((v_n : Nat) : Int)) ∧ 0 ≤ (i + ((v_n : Nat) : Int)) ∧
 (i + ((v_n : Nat) : Int)) ≤ (((i.toNat - (0 : Int).toNat) + ((((s_n : Nat) : Int) + ((v_n : Nat) : Int)) - i).toNat : Nat) : Int) ∧
 (((i.toNat - (0 : Int).toNat) + ((((s_n : Nat) : Int) + ((v_n : Nat) : Int)) - i).toNat : Nat) : Int) ≤ ((cap1 : Nat) : Int) ∧
 0 ≤ i ∧ i ≤ ((s_n : Nat) : Int) ∧ ((s_n : Nat) : Int) ≤ ((s_c : Nat) : Int) ∧
 ∃ cs1 : List Value, cs1.length = min (((s_n : Nat) : Int).toNat - i.toNat) ((((i.toNat - (0 : Int).toNat) + ((((s_n : Nat) : Int) + ((v_n : Nat) : Int)) - i).toNat : Nat) : Int).toNat - (i + ((v_n : Nat) : Int)).toNat) * 1 ∧
 Gets (drewW (putSl u11 (if cap1 = i.toNat then p1 else Option.map (fun a => Addr.add a (i.toNat * 1)) p1) 0 cs)) (if s_c = i.toNat then s_p else Option.map (fun a => Addr.add a (i.toNat * 1)) s_p) cs1 ∧
 okCells cs1 True ∧ WrS (drewW (putSl u11 (if cap1 = i.toNat then p1 else Option.map (fun a => Addr.add a (i.toNat * 1)) p1) 0 cs)) (if cap1 = (i + ((v_n : Nat) : Int)).toNat then p1 else Option.map (fun a => Addr.add a ((i + ((v_n : Nat) : Int)).toNat * 1)) p1) 0 (min (((s_n : Nat) : Int).toNat - i.toNat) ((((i.toNat - (0 : Int).toNat) + ((((s_n : Nat) : Int) + ((v_n : Nat) : Int)) - i).toNat : Nat) : Int).toNat - (i + ((v_n : Nat) : Int)).toNat) * 1) ∧
 R (.returned (.slice p1 ((i.toNat - (0 : Int).toNat) + ((((s_n : Nat) : Int) + ((v_n : Nat) : Int)) - i).toNat) cap1)) (putSl (drewW (putSl u11 (if cap1 = i.toNat then p1 else Option.map (fun a => Addr.add a (i.toNat * 1)) p1) 0 cs)) (if cap1 = (i + ((v_n : Nat) : Int)).toNat then p1 else Option.map (fun a => Addr.add a ((i + ((v_n : Nat) : Int)).toNat * 1)) p1) 0 cs1)) ∧
 ((decide (((s_c : Nat) : Int) < (((s_n : Nat) : Int) + ((v_n : Nat) : Int)))) = false →
 inK .i64 (((s_n : Nat) : Int) + ((v_n : Nat) : Int)) ∧ 0 ≤ (0 : Int) ∧
 (0 : Int) ≤ (((s_n : Nat) : Int) + ((v_n : Nat) : Int)) ∧ (((s_n : Nat) : Int) + ((v_n : Nat) : Int)) ≤ ((s_c : Nat) : Int) ∧
 inK .i64 (i + ((v_n : Nat) : Int)) ∧ 0 ≤ (i + ((v_n : Nat) : Int)) ∧
 (i + ((v_n : Nat) : Int)) ≤ (((((s_n : Nat) : Int) + ((v_n : Nat) : Int)).toNat - (0 : Int).toNat : Nat) : Int) ∧
 (((((s_n : Nat) : Int) + ((v_n : Nat) : Int)).toNat - (0 : Int).toNat : Nat) : Int) ≤ ((s_c - (0 : Int).toNat : Nat) : Int) ∧
 ∃ (q0 : Bool), (∀ w', Le u w' → (callFunc 65 #[.slice v_p v_n v_c, .slice (if s_c - (0 : Int).toNat = (i + ((v_n : Nat) : Int)).toNat then (if s_c = (0 : Int).toNat then s_p else Option.map (fun a => Addr.add a ((0 : Int).toNat * 1)) s_p) else Option.map (fun a => Addr.add a ((i + ((v_n : Nat) : Int)).toNat * 1)) (if s_c = (0 : Int).toNat then s_p else Option.map (fun a => Addr.add a ((0 : Int).toNat * 1)) s_p)) ((((((s_n : Nat) : Int) + ((v_n : Nat) : Int)).toNat - (0 : Int).toNat : Nat) : Int).toNat - (i + ((v_n : Nat) : Int)).toNat) (s_c - (0 : Int).toNat - (i + ((v_n : Nat) : Int)).toNat)]).run Tryd.prog w' = .ok (.value (.bool q0)) w') ∧
 (((!q0) = true → inK .i64 (i + ((v_n : Nat) : Int)) ∧ 0 ≤ (i + ((v_n : Nat) : Int)) ∧
 (i + ((v_n : Nat) : Int)) ≤ (((((s_n : Nat) : Int) + ((v_n : Nat) : Int)).toNat - (0 : Int).toNat : Nat) : Int) ∧
 (((((s_n : Nat) : Int) + ((v_n : Nat) : Int)).toNat - (0 : Int).toNat : Nat) : Int) ≤ ((s_c - (0 : Int).toNat : Nat) : Int) ∧
 0 ≤ i ∧ i ≤ (((((s_n : Nat) : Int) + ((v_n : Nat) : Int)).toNat - (0 : Int).toNat : Nat) : Int) ∧
 (((((s_n : Nat) : Int) + ((v_n : Nat) : Int)).toNat - (0 : Int).toNat : Nat) : Int) ≤ ((s_c - (0 : Int).toNat : Nat) : Int) ∧
 ∃ cs2 : List Value, cs2.length = min ((((((s_n : Nat) : Int) + ((v_n : Nat) : Int)).toNat - (0 : Int).toNat : Nat) : Int).toNat - i.toNat) ((((((s_n : Nat) : Int) + ((v_n : Nat) : Int)).toNat - (0 : Int).toNat : Nat) : Int).toNat - (i + ((v_n : Nat) : Int)).toNat) * 1 ∧
 Gets (drewW u) (if s_c - (0 : Int).toNat = i.toNat then (if s_c = (0 : Int).toNat then s_p else Option.map (fun a => Addr.add a ((0 : Int).toNat * 1)) s_p) else Option.map (fun a => Addr.add a (i.toNat * 1)) (if s_c = (0 : Int).toNat then s_p else Option.map (fun a => Addr.add a ((0 : Int).toNat * 1)) s_p)) cs2 ∧
 okCells cs2 True ∧ WrS (drewW u) (if s_c - (0 : Int).toNat = (i + ((v_n : Nat) : Int)).toNat then (if s_c = (0 : Int).toNat then s_p else Option.map (fun a => Addr.add a ((0 : Int).toNat * 1)) s_p) else Option.map (fun a => Addr.add a ((i + ((v_n : Nat) : Int)).toNat * 1)) (if s_c = (0 : Int).toNat then s_p else Option.map (fun a => Addr.add a ((0 : Int).toNat * 1)) s_p)) 0 (min ((((((s_n : Nat) : Int) + ((v_n : Nat) : Int)).toNat - (0 : Int).toNat : Nat) : Int).toNat - i.toNat) ((((((s_n : Nat) : Int) + ((v_n : Nat) : Int)).toNat - (0 : Int).toNat : Nat) : Int).toNat - (i + ((v_n : Nat) : Int)).toNat) * 1) ∧
 0 ≤ i ∧ i ≤ (((((s_n : Nat) : Int) + ((v_n : Nat) : Int)).toNat - (0 : Int).toNat : Nat) : Int) ∧
 (((((s_n : Nat) : Int) + ((v_n : Nat) : Int)).toNat - (0 : Int).toNat : Nat) : Int) ≤ ((s_c - (0 : Int).toNat : Nat) : Int) ∧
 ∃ cs3 : List Value, cs3.length = min v_n ((((((s_n : Nat) : Int) + ((v_n : Nat) : Int)).toNat - (0 : Int).toNat : Nat) : Int).toNat - i.toNat) * 1 ∧
 Gets (putSl (drewW u) (if s_c - (0 : Int).toNat = (i + ((v_n : Nat) : Int)).toNat then (if s_c = (0 : Int).toNat then s_p else Option.map (fun a => Addr.add a ((0 : Int).toNat * 1)) s_p) else Option.map (fun a => Addr.add a ((i + ((v_n : Nat) : Int)).toNat * 1)) (if s_c = (0 : Int).toNat then s_p else Option.map (fun a => Addr.add a ((0 : Int).toNat * 1)) s_p)) 0 cs2) v_p cs3 ∧
 okCells cs3 True ∧ WrS (putSl (drewW u) (if s_c - (0 : Int).toNat = (i + ((v_n : Nat) : Int)).toNat then (if s_c = (0 : Int).toNat then s_p else Option.map (fun a => Addr.add a ((0 : Int).toNat * 1)) s_p) else Option.map (fun a => Addr.add a ((i + ((v_n : Nat) : Int)).toNat * 1)) (if s_c = (0 : Int).toNat then s_p else Option.map (fun a => Addr.add a ((0 : Int).toNat * 1)) s_p)) 0 cs2) (if s_c - (0 : Int).toNat = i.toNat then (if s_c = (0 : Int).toNat then s_p else Option.map (fun a => Addr.add a ((0 : Int).toNat * 1)) s_p) else Option.map (fun a => Addr.add a (i.toNat * 1)) (if s_c = (0 : Int).toNat then s_p else Option.map (fun a => Addr.add a ((0 : Int).toNat * 1)) s_p)) 0 (min v_n ((((((s_n : Nat) : Int) + ((v_n : Nat) : Int)).toNat - (0 : Int).toNat : Nat) : Int).toNat - i.toNat) * 1) ∧
 R (.returned (.slice (if s_c = (0 : Int).toNat then s_p else Option.map (fun a => Addr.add a ((0 : Int).toNat * 1)) s_p) ((((s_n : Nat) : Int) + ((v_n : Nat) : Int)).toNat - (0 : Int).toNat) (s_c - (0 : Int).toNat))) (putSl (putSl (drewW u) (if s_c - (0 : Int).toNat = (i + ((v_n : Nat) : Int)).toNat then (if s_c = (0 : Int).toNat then s_p else Option.map (fun a => Addr.add a ((0 : Int).toNat * 1)) s_p) else Option.map (fun a => Addr.add a ((i + ((v_n : Nat) : Int)).toNat * 1)) (if s_c = (0 : Int).toNat then s_p else Option.map (fun a => Addr.add a ((0 : Int).toNat * 1)) s_p)) 0 cs2) (if s_c - (0 : Int).toNat = i.toNat then (if s_c = (0 : Int).toNat then s_p else Option.map (fun a => Addr.add a ((0 : Int).toNat * 1)) s_p) else Option.map (fun a => Addr.add a (i.toNat * 1)) (if s_c = (0 : Int).toNat then s_p else Option.map (fun a => Addr.add a ((0 : Int).toNat * 1)) s_p)) 0 cs3)) ∧
 ((!q0) = false → 0 ≤ ((s_n : Nat) : Int) ∧ ((s_n : Nat) : Int) ≤ (((((s_n : Nat) : Int) + ((v_n : Nat) : Int)).toNat - (0 : Int).toNat : Nat) : Int) ∧
 (((((s_n : Nat) : Int) + ((v_n : Nat) : Int)).toNat - (0 : Int).toNat : Nat) : Int) ≤ ((s_c - (0 : Int).toNat : Nat) : Int) ∧
 ∃ cs4 : List Value, cs4.length = min v_n ((((((s_n : Nat) : Int) + ((v_n : Nat) : Int)).toNat - (0 : Int).toNat : Nat) : Int).toNat - ((s_n : Nat) : Int).toNat) * 1 ∧
 Gets u v_p cs4 ∧ okCells cs4 True ∧ WrS u (if s_c - (0 : Int).toNat = ((s_n : Nat) : Int).toNat then (if s_c = (0 : Int).toNat then s_p else Option.map (fun a => Addr.add a ((0 : Int).toNat * 1)) s_p) else Option.map (fun a => Addr.add a (((s_n : Nat) : Int).toNat * 1)) (if s_c = (0 : Int).toNat then s_p else Option.map (fun a => Addr.add a ((0 : Int).toNat * 1)) s_p)) 0 (min v_n ((((((s_n : Nat) : Int) + ((v_n : Nat) : Int)).toNat - (0 : Int).toNat : Nat) : Int).toNat - ((s_n : Nat) : Int).toNat) * 1) ∧
 0 ≤ i ∧ i ≤ (((((s_n : Nat) : Int) + ((v_n : Nat) : Int)).toNat - (0 : Int).toNat : Nat) : Int) ∧
 (((((s_n : Nat) : Int) + ((v_n : Nat) : Int)).toNat - (0 : Int).toNat : Nat) : Int) ≤ ((s_c - (0 : Int).toNat : Nat) : Int) ∧
 Spec Tryd.prog 66 #[.slice (if s_c - (0 : Int).toNat = i.toNat then (if s_c = (0 : Int).toNat then s_p else Option.map (fun a => Addr.add a ((0 : Int).toNat * 1)) s_p) else Option.map (fun a => Addr.add a (i.toNat * 1)) (if s_c = (0 : Int).toNat then s_p else Option.map (fun a => Addr.add a ((0 : Int).toNat * 1)) s_p)) ((((((s_n : Nat) : Int) + ((v_n : Nat) : Int)).toNat - (0 : Int).toNat : Nat) : Int).toNat - i.toNat) (s_c - (0 : Int).toNat - i.toNat), .int .i64 ((v_n : Nat) : Int)] (putSl u (if s_c - (0 : Int).toNat = ((s_n : Nat) : Int).toNat then (if s_c = (0 : Int).toNat then s_p else Option.map (fun a => Addr.add a ((0 : Int).toNat * 1)) s_p) else Option.map (fun a => Addr.add a (((s_n : Nat) : Int).toNat * 1)) (if s_c = (0 : Int).toNat then s_p else Option.map (fun a => Addr.add a ((0 : Int).toNat * 1)) s_p)) 0 cs4) (fun e u12 => e = .returned (.tuple #[]) ∧
 R (.returned (.slice (if s_c = (0 : Int).toNat then s_p else Option.map (fun a => Addr.add a ((0 : Int).toNat * 1)) s_p) ((((s_n : Nat) : Int) + ((v_n : Nat) : Int)).toNat - (0 : Int).toNat) (s_c - (0 : Int).toNat))) u12)))))))))
set_option maxRecDepth 100000 in
theorem vc_slices_InsertL_int_int_eq (s_p : Option Addr) (s_n s_c : Nat) (i : Int) (v_p : Option Addr) (v_n v_c : Nat) (u : World) (R : Ending → World → Prop) : wFunc cx_slices_InsertL_int_int Tryd.f47 [.slice s_p s_n s_c, .int .i64 i, .slice v_p v_n v_c] u R = vc_slices_InsertL_int_int s_p s_n s_c i v_p v_n v_c u R := by kernel_rfl
theorem vc_slices_InsertL_int_int_spec (s_p : Option Addr) (s_n s_c : Nat) (i : Int) (v_p : Option Addr) (v_n v_c : Nat) {u : World} {R : Ending → World → Prop} (h : vc_slices_InsertL_int_int s_p s_n s_c i v_p v_n v_c u R) : Spec Tryd.prog fn_slices_InsertL_int_int #[.slice s_p s_n s_c, .int .i64 i, .slice v_p v_n v_c] u R := func_spec (C := cx_slices_InsertL_int_int) (fn := Tryd.f47) (args := [.slice s_p s_n s_c, .int .i64 i, .slice v_p v_n v_c]) (ctxOk _ _ _ _ _) Tryd.func47 (vc_slices_InsertL_int_int_eq s_p s_n s_c i v_p v_n v_c u R) h

/-- slices.Delete[[][]int,[]int] -/
noncomputable def cx_slices_DeleteL_int_int : Ctx := ⟨Tryd.prog, tab, [], [], [], fns, [], []⟩
def vc_slices_DeleteL_int_int (s_p : Option Addr) (s_n s_c : Nat) (i : Int) (j : Int) (u : World) (R : Ending → World → Prop) : Prop :=
 0 ≤ i ∧ i ≤ j ∧ j ≤ ((s_n : Nat) : Int) ∧ ((s_n : Nat) : Int) ≤ ((s_c : Nat) : Int) ∧
 (((decide (i = j)) = true → R (.returned (.slice s_p s_n s_c)) u) ∧
 ((decide (i = j)) = false → 0 ≤ (0 : Int) ∧ (0 : Int) ≤ i ∧ i ≤ ((s_c : Nat) : Int) ∧
 0 ≤ j ∧ j ≤ ((s_n : Nat) : Int) ∧ ((s_n : Nat) : Int) ≤ ((s_c : Nat) : Int) ∧
 ∃ old new : List Value, old.length = (i.toNat - (0 : Int).toNat) * 1 ∧
 Gets (drewW u) (if s_c = (0 : Int).toNat then s_p else Option.map (fun a => Addr.add a ((0 : Int).toNat * 1)) s_p) old ∧
 new.length = (((s_n : Nat) : Int).toNat - j.toNat) * 1 ∧ Gets (drewW u) (if s_c = j.toNat then s_p else Option.map (fun a => Addr.add a (j.toNat * 1)) s_p) new ∧
 0 < 24 ∧ (2 * ((i.toNat - (0 : Int).toNat) + (((s_n : Nat) : Int).toNat - j.toNat)) + 192) * 24 ≤ 140737488355328 ∧
 okCells new True ∧ ((i.toNat - (0 : Int).toNat) + (((s_n : Nat) : Int).toNat - j.toNat) ≤ (s_c - (0 : Int).toNat) →
 WrS (drewW u) (if s_c = (0 : Int).toNat then s_p else Option.map (fun a => Addr.add a ((0 : Int).toNat * 1)) s_p) ((i.toNat - (0 : Int).toNat) * 1) ((((s_n : Nat) : Int).toNat - j.toNat) * 1)) ∧
 ∀ p cap u1, AppR (drewW u) 42 1 [.slice none 0 0] (if s_c = (0 : Int).toNat then s_p else Option.map (fun a => Addr.add a ((0 : Int).toNat * 1)) s_p) (i.toNat - (0 : Int).toNat) (s_c - (0 : Int).toNat) (((s_n : Nat) : Int).toNat - j.toNat) old new p cap u1 →
 0 ≤ (((i.toNat - (0 : Int).toNat) + (((s_n : Nat) : Int).toNat - j.toNat) : Nat) : Int) ∧
 (((i.toNat - (0 : Int).toNat) + (((s_n : Nat) : Int).toNat - j.toNat) : Nat) : Int) ≤ ((s_n : Nat) : Int) ∧
 ((s_n : Nat) : Int) ≤ ((cap : Nat) : Int) ∧ okCells (repl (((s_n : Nat) : Int).toNat - (((i.toNat - (0 : Int).toNat) + (((s_n : Nat) : Int).toNat - j.toNat) : Nat) : Int).toNat) ([.slice none 0 0])) True ∧
 WrS u1 (if cap = (((i.toNat - (0 : Int).toNat) + (((s_n : Nat) : Int).toNat - j.toNat) : Nat) : Int).toNat then p else Option.map (fun a => Addr.add a ((((i.toNat - (0 : Int).toNat) + (((s_n : Nat) : Int).toNat - j.toNat) : Nat) : Int).toNat * 1)) p) 0 ((((s_n : Nat) : Int).toNat - (((i.toNat - (0 : Int).toNat) + (((s_n : Nat) : Int).toNat - j.toNat) : Nat) : Int).toNat) * 1) ∧
 R (.returned (.slice p ((i.toNat - (0 : Int).toNat) + (((s_n : Nat) : Int).toNat - j.toNat)) cap)) (putSl u1 (if cap = (((i.toNat - (0 : Int).toNat) + (((s_n : Nat) : Int).toNat - j.toNat) : Nat) : Int).toNat then p else Option.map (fun a => Addr.add a ((((i.toNat - (0 : Int).toNat) + (((s_n : Nat) : Int).toNat - j.toNat) : Nat) : Int).toNat * 1)) p) 0 (repl (((s_n : Nat) : Int).toNat - (((i.toNat - (0 : Int).toNat) + (((s_n : Nat) : Int).toNat - j.toNat) : Nat) : Int).toNat) ([.slice none 0 0])))))
set_option maxRecDepth 100000 in
theorem vc_slices_DeleteL_int_int_eq (s_p : Option Addr) (s_n s_c : Nat) (i : Int) (j : Int) (u : World) (R : Ending → World → Prop) : wFunc cx_slices_DeleteL_int_int Tryd.f50 [.slice s_p s_n s_c, .int .i64 i, .int .i64 j] u R = vc_slices_DeleteL_int_int s_p s_n s_c i j u R := by kernel_rfl
theorem vc_slices_DeleteL_int_int_spec (s_p : Option Addr) (s_n s_c : Nat) (i : Int) (j : Int) {u : World} {R : Ending → World → Prop} (h : vc_slices_DeleteL_int_int s_p s_n s_c i j u R) : Spec Tryd.prog fn_slices_DeleteL_int_int #[.slice s_p s_n s_c, .int .i64 i, .int .i64 j] u R := func_spec (C := cx_slices_DeleteL_int_int) (fn := Tryd.f50) (args := [.slice s_p s_n s_c, .int .i64 i, .int .i64 j]) (ctxOk _ _ _ _ _) Tryd.func50 (vc_slices_DeleteL_int_int_eq s_p s_n s_c i j u R) h

end Go.Proofs.YtkmmphkjmamckabDoor

namespace Go.Proofs.YtkmmphkjmamckabDoor
open Go
set_option linter.all false

/-- slices.Clone[[]int,int] -/
noncomputable def cx_slices_Clone_int_int : Ctx := ⟨Tryd.prog, tab, [], [], [], fns, [], []⟩
def vc_slices_Clone_int_int (s_p : Option Addr) (s_n s_c : Nat) (u : World) (R : Ending → World → Prop) : Prop :=
 (((Option.isNone s_p) = true → R (.returned (.slice none 0 0)) u) ∧
 ((Option.isNone s_p) = false → ∃ old new : List Value, old.length = 0 * 1 ∧
 Gets (allocW u (.cells #[] 3)) (some (Addr.mk u.heap.size 0 none)) old ∧
 new.length = s_n * 1 ∧ Gets (allocW u (.cells #[] 3)) s_p new ∧
 0 < 8 ∧ (2 * (0 + s_n) + 192) * 8 ≤ 140737488355328 ∧ okCells new True ∧
 (0 + s_n ≤ 0 → WrS (allocW u (.cells #[] 3)) (some (Addr.mk u.heap.size 0 none)) (0 * 1) (s_n * 1)) ∧
 ∀ p cap u1, AppR (allocW u (.cells #[] 3)) 3 1 [.int .i64 0] (some (Addr.mk u.heap.size 0 none)) 0 0 s_n old new p cap u1 →
 R (.returned (.slice p (0 + s_n) cap)) u1))
set_option maxRecDepth 100000 in
theorem vc_slices_Clone_int_int_eq (s_p : Option Addr) (s_n s_c : Nat) (u : World) (R : Ending → World → Prop) : wFunc cx_slices_Clone_int_int Tryd.f33 [.slice s_p s_n s_c] u R = vc_slices_Clone_int_int s_p s_n s_c u R := by kernel_rfl
theorem vc_slices_Clone_int_int_spec (s_p : Option Addr) (s_n s_c : Nat) {u : World} {R : Ending → World → Prop} (h : vc_slices_Clone_int_int s_p s_n s_c u R) : Spec Tryd.prog fn_slices_Clone_int_int #[.slice s_p s_n s_c] u R := func_spec (C := cx_slices_Clone_int_int) (fn := Tryd.f33) (args := [.slice s_p s_n s_c]) (ctxOk _ _ _ _ _) Tryd.func33 (vc_slices_Clone_int_int_eq s_p s_n s_c u R) h

end Go.Proofs.YtkmmphkjmamckabDoor

namespace Go.Proofs.YtkmmphkjmamckabDoor
open Go
set_option linter.all false

/-- fenestra/tiles.pane -/
noncomputable def cx_tiles_pane : Ctx := ⟨Tryd.prog, tab, [], [], [], fns, [], []⟩
def vc_tiles_pane (p : Int) (u : World) (R : Ending → World → Prop) : Prop :=
 (((decide ((0 : Int) ≤ p)) = true → R (.returned (.bool (decide (p < 6)))) u) ∧
 ((decide ((0 : Int) ≤ p)) = false → R (.returned (.bool false)) u))
set_option maxRecDepth 100000 in
theorem vc_tiles_pane_eq (p : Int) (u : World) (R : Ending → World → Prop) : wFunc cx_tiles_pane Tryd.f45 [.int .i64 p] u R = vc_tiles_pane p u R := by kernel_rfl
theorem vc_tiles_pane_spec (p : Int) {u : World} {R : Ending → World → Prop} (h : vc_tiles_pane p u R) : Spec Tryd.prog fn_tiles_pane #[.int .i64 p] u R := func_spec (C := cx_tiles_pane) (fn := Tryd.f45) (args := [.int .i64 p]) (ctxOk _ _ _ _ _) Tryd.func45 (vc_tiles_pane_eq p u R) h

/-- fenestra/tiles.Good -/
noncomputable def cx_tiles_Good : Ctx := ⟨Tryd.prog, tab, [], [], [3], fns, [(3, ⟨[.keep, .keep, .junk, .keep, .keep, .junk, .keep, .junk, .keep, .keep, .keep, .cell (.int .i64), .junk, .junk, .junk, .junk, .junk, .junk, .junk, .junk, .junk, .junk, .junk, .junk, .junk, .junk, .junk, .junk, .junk, .junk, .junk, .junk, .junk, .junk, .junk, .junk, .junk, .junk, .junk, .junk, .junk, .keep, .keep, .keep, .keep], [.keep, .opq]⟩), (8, ⟨[.keep, .keep, .junk, .keep, .keep, .keep, .keep, .junk, .keep, .keep, .keep, .keep, .keep, .keep, .keep, .keep, .keep, .keep, .keep, .keep, .keep, .keep, .keep, .keep, .keep, .cell (.int .i64), .junk, .junk, .junk, .junk, .junk, .junk, .junk, .junk, .junk, .junk, .junk, .junk, .junk, .junk, .keep, .keep, .keep, .keep, .keep], [.keep, .opq]⟩)], []⟩
def vc_tiles_Good (t_Columns_p : Option Addr) (t_Columns_n t_Columns_c : Nat) (u : World) (R : Ending → World → Prop) : Prop :=
 ∃ (I_ : Int → List Value → World → Prop) (M_ : Int → List Value →
 World → Nat), ((Loc.mk 54 false ([.slice t_Columns_p t_Columns_n t_Columns_c])) = (Loc.mk 54 false ([.slice t_Columns_p t_Columns_n t_Columns_c])) ∧
 I_ 0 ([.bool false, .bool false, .bool false, .bool false, .bool false, .bool false]) (allocW (allocW u hole) hole)) ∧
 ∀ (q0 : Int) (seen : List Value), (Loc.mk 54 false ([.slice t_Columns_p t_Columns_n t_Columns_c])) = (Loc.mk 54 false ([.slice t_Columns_p t_Columns_n t_Columns_c])) ∧
 ∀ u1 : World, I_ q0 seen u1 → (((decide (q0 < ((t_Columns_n : Nat) : Int))) = true →
 ∃ b o, t_Columns_p = some ⟨b, o, none⟩ ∧ 0 ≤ q0 ∧ q0 < ((t_Columns_n : Nat) : Int) ∧
 ∃ (q1 : Option Addr) (q2 q3 : Nat), 1 = szN 1 ∧
 Rd u1 b (o + q0.toNat * 1) ([.slice q1 q2 q3]) ∧ (((decide (((q2 : Nat) : Int) = 0)) = true →
 R (.returned (.bool false)) u1) ∧ ((decide (((q2 : Nat) : Int) = 0)) = false →
 (((decide ((3 : Int) < ((q2 : Nat) : Int))) = true → R (.returned (.bool false)) u1) ∧
 ((decide ((3 : Int) < ((q2 : Nat) : Int))) = false → ∃ (I_1 : Int →
 List Value → World → Prop) (M_1 : Int → List Value → World → Nat), ((Loc.mk 54 false ([.slice t_Columns_p t_Columns_n t_Columns_c])) = (Loc.mk 54 false ([.slice t_Columns_p t_Columns_n t_Columns_c])) ∧
 I_1 0 seen u1) ∧ ∀ (q4 : Int) (seen1 : List Value), (Loc.mk 54 false ([.slice t_Columns_p t_Columns_n t_Columns_c])) = (Loc.mk 54 false ([.slice t_Columns_p t_Columns_n t_Columns_c])) ∧
 ∀ u11 : World, I_1 q4 seen1 u11 → (((decide (q4 < ((q2 : Nat) : Int))) = true →
 ∃ b1 o1, q1 = some ⟨b1, o1, none⟩ ∧ 0 ≤ q4 ∧ q4 < ((q2 : Nat) : Int) ∧
 ∃ (q5 : Int), 1 = szN 1 ∧ Rd u11 b1 (o1 + q4.toNat * 1) ([.int .i64 q5]) ∧
 Spec Tryd.prog 45 #[.int .i64 q5] u11 (fun e u12 => ∃ (q6 : Bool), e = .returned (.bool q6) ∧
 (((!q6) = true → R (.returned (.bool false)) u12) ∧ ((!q6) = false →
 0 ≤ q5 ∧ q5 < ((6 : Nat) : Int) ∧ ∃ (q7 : Bool), takeN seen1 (0 + q5.toNat * 1) 1 = some [.bool q7] ∧
 ((q7 = true → R (.returned (.bool false)) u12) ∧ (q7 = false →
 0 ≤ q5 ∧ q5 < ((6 : Nat) : Int) ∧ 1 = szN 1 ∧
 ∃ cs, putN seen1 (0 + q5.toNat * 1) ([.bool true]) = some cs ∧
 inK .i64 (q4 + 1) ∧ (Loc.mk 54 false ([.slice t_Columns_p t_Columns_n t_Columns_c])) = (Loc.mk 54 false ([.slice t_Columns_p t_Columns_n t_Columns_c])) ∧
 I_1 (q4 + 1) cs u12 ∧ (Loc.mk 54 false ([.slice t_Columns_p t_Columns_n t_Columns_c])) = (Loc.mk 54 false ([.slice t_Columns_p t_Columns_n t_Columns_c])) ∧
 M_1 (q4 + 1) cs u12 < M_1 q4 seen1 u11)))))) ∧ ((decide (q4 < ((q2 : Nat) : Int))) = false →
 inK .i64 (q0 + 1) ∧ (Loc.mk 54 false ([.slice t_Columns_p t_Columns_n t_Columns_c])) = (Loc.mk 54 false ([.slice t_Columns_p t_Columns_n t_Columns_c])) ∧
 I_ (q0 + 1) seen1 u11 ∧ (Loc.mk 54 false ([.slice t_Columns_p t_Columns_n t_Columns_c])) = (Loc.mk 54 false ([.slice t_Columns_p t_Columns_n t_Columns_c])) ∧
 M_ (q0 + 1) seen1 u11 < M_ q0 seen u1))))))) ∧ ((decide (q0 < ((t_Columns_n : Nat) : Int))) = false →
 R (.returned (.bool (decide ((0 : Int) < ((t_Columns_n : Nat) : Int))))) u1))
set_option maxRecDepth 100000 in
theorem vc_tiles_Good_eq (t_Columns_p : Option Addr) (t_Columns_n t_Columns_c : Nat) (u : World) (R : Ending → World → Prop) : wFunc cx_tiles_Good Tryd.f41 [.agg #[.slice t_Columns_p t_Columns_n t_Columns_c]] u R = vc_tiles_Good t_Columns_p t_Columns_n t_Columns_c u R := by kernel_rfl
theorem vc_tiles_Good_spec (t_Columns_p : Option Addr) (t_Columns_n t_Columns_c : Nat) {u : World} {R : Ending → World → Prop} (h : vc_tiles_Good t_Columns_p t_Columns_n t_Columns_c u R) : Spec Tryd.prog fn_tiles_Good #[.agg #[.slice t_Columns_p t_Columns_n t_Columns_c]] u R := func_spec (C := cx_tiles_Good) (fn := Tryd.f41) (args := [.agg #[.slice t_Columns_p t_Columns_n t_Columns_c]]) (ctxOk _ _ _ _ _) Tryd.func41 (vc_tiles_Good_eq t_Columns_p t_Columns_n t_Columns_c u R) h

/-- fenestra/tiles.find -/
noncomputable def cx_tiles_find : Ctx := ⟨Tryd.prog, tab, [], [], [], fns, [(2, ⟨[.keep, .keep, .keep, .keep, .junk, .junk, .junk, .junk, .junk, .junk, .keep, .keep, .keep, .cell (.int .i64), .junk, .junk, .junk, .junk, .junk, .junk, .junk, .junk, .junk, .junk, .junk, .junk], [.keep]⟩)], []⟩
def vc_tiles_find (t_Columns_p : Option Addr) (t_Columns_n t_Columns_c : Nat) (p : Int) (u : World) (R : Ending → World → Prop) : Prop :=
 ∃ (I_ : Int → World → Prop) (M_ : Int → World → Nat), ((Loc.mk 54 false ([.slice t_Columns_p t_Columns_n t_Columns_c])) = (Loc.mk 54 false ([.slice t_Columns_p t_Columns_n t_Columns_c])) ∧
 I_ 0 (allocW u hole)) ∧ ∀ (q0 : Int), (Loc.mk 54 false ([.slice t_Columns_p t_Columns_n t_Columns_c])) = (Loc.mk 54 false ([.slice t_Columns_p t_Columns_n t_Columns_c])) ∧
 ∀ u1 : World, I_ q0 u1 → (((decide (q0 < ((t_Columns_n : Nat) : Int))) = true →
 ∃ b o, t_Columns_p = some ⟨b, o, none⟩ ∧ 0 ≤ q0 ∧ q0 < ((t_Columns_n : Nat) : Int) ∧
 ∃ (q1 : Option Addr) (q2 q3 : Nat), 1 = szN 1 ∧
 Rd u1 b (o + q0.toNat * 1) ([.slice q1 q2 q3]) ∧ Spec Tryd.prog 51 #[.slice q1 q2 q3, .int .i64 p] u1 (fun e u11 => ∃ (q4 : Int), e = .returned (.int .i64 q4) ∧
 (((decide ((0 : Int) ≤ q4)) = true → R (.returned (.tuple #[.int .i64 q0, .int .i64 q4, .bool true])) u11) ∧
 ((decide ((0 : Int) ≤ q4)) = false → inK .i64 (q0 + 1) ∧ (Loc.mk 54 false ([.slice t_Columns_p t_Columns_n t_Columns_c])) = (Loc.mk 54 false ([.slice t_Columns_p t_Columns_n t_Columns_c])) ∧
 I_ (q0 + 1) u11 ∧ (Loc.mk 54 false ([.slice t_Columns_p t_Columns_n t_Columns_c])) = (Loc.mk 54 false ([.slice t_Columns_p t_Columns_n t_Columns_c])) ∧
 M_ (q0 + 1) u11 < M_ q0 u1)))) ∧ ((decide (q0 < ((t_Columns_n : Nat) : Int))) = false →
 R (.returned (.tuple #[.int .i64 0, .int .i64 0, .bool false])) u1))
set_option maxRecDepth 100000 in
theorem vc_tiles_find_eq (t_Columns_p : Option Addr) (t_Columns_n t_Columns_c : Nat) (p : Int) (u : World) (R : Ending → World → Prop) : wFunc cx_tiles_find Tryd.f31 [.agg #[.slice t_Columns_p t_Columns_n t_Columns_c], .int .i64 p] u R = vc_tiles_find t_Columns_p t_Columns_n t_Columns_c p u R := by kernel_rfl
theorem vc_tiles_find_spec (t_Columns_p : Option Addr) (t_Columns_n t_Columns_c : Nat) (p : Int) {u : World} {R : Ending → World → Prop} (h : vc_tiles_find t_Columns_p t_Columns_n t_Columns_c p u R) : Spec Tryd.prog fn_tiles_find #[.agg #[.slice t_Columns_p t_Columns_n t_Columns_c], .int .i64 p] u R := func_spec (C := cx_tiles_find) (fn := Tryd.f31) (args := [.agg #[.slice t_Columns_p t_Columns_n t_Columns_c], .int .i64 p]) (ctxOk _ _ _ _ _) Tryd.func31 (vc_tiles_find_eq t_Columns_p t_Columns_n t_Columns_c p u R) h

/-- fenestra/tiles.Has -/
noncomputable def cx_tiles_Has : Ctx := ⟨Tryd.prog, tab, [], [], [], fns, [], []⟩
def vc_tiles_Has (t_Columns_p : Option Addr) (t_Columns_n t_Columns_c : Nat) (p : Int) (u : World) (R : Ending → World → Prop) : Prop :=
 Spec Tryd.prog 31 #[.agg #[.slice t_Columns_p t_Columns_n t_Columns_c], .int .i64 p] (allocW u hole) (fun e u1 => ∃ (q0 q1 : Int) (q2 : Bool), e = .returned (.tuple #[.int .i64 q0, .int .i64 q1, .bool q2]) ∧
 R (.returned (.bool q2)) u1)
set_option maxRecDepth 100000 in
theorem vc_tiles_Has_eq (t_Columns_p : Option Addr) (t_Columns_n t_Columns_c : Nat) (p : Int) (u : World) (R : Ending → World → Prop) : wFunc cx_tiles_Has Tryd.f17 [.agg #[.slice t_Columns_p t_Columns_n t_Columns_c], .int .i64 p] u R = vc_tiles_Has t_Columns_p t_Columns_n t_Columns_c p u R := by kernel_rfl
theorem vc_tiles_Has_spec (t_Columns_p : Option Addr) (t_Columns_n t_Columns_c : Nat) (p : Int) {u : World} {R : Ending → World → Prop} (h : vc_tiles_Has t_Columns_p t_Columns_n t_Columns_c p u R) : Spec Tryd.prog fn_tiles_Has #[.agg #[.slice t_Columns_p t_Columns_n t_Columns_c], .int .i64 p] u R := func_spec (C := cx_tiles_Has) (fn := Tryd.f17) (args := [.agg #[.slice t_Columns_p t_Columns_n t_Columns_c], .int .i64 p]) (ctxOk _ _ _ _ _) Tryd.func17 (vc_tiles_Has_eq t_Columns_p t_Columns_n t_Columns_c p u R) h

/-- fenestra/tiles.Share -/
noncomputable def cx_tiles_Share : Ctx := ⟨Tryd.prog, tab, [], [], [], fns, [], []⟩
def vc_tiles_Share (length : Int) (n : Int) (k : Int) (u : World) (R : Ending → World → Prop) : Prop :=
 (((decide (n < 1)) = true → R (.returned (.tuple #[.int .i64 0, .int .i64 0])) u) ∧
 ((decide (n < 1)) = false → (((decide ((6 : Int) < n)) = true →
 R (.returned (.tuple #[.int .i64 0, .int .i64 0])) u) ∧ ((decide ((6 : Int) < n)) = false →
 (((decide (k < 0)) = true → R (.returned (.tuple #[.int .i64 0, .int .i64 0])) u) ∧
 ((decide (k < 0)) = false → (((decide (n ≤ k)) = true → R (.returned (.tuple #[.int .i64 0, .int .i64 0])) u) ∧
 ((decide (n ≤ k)) = false → (((decide (length < 0)) = true → R (.returned (.tuple #[.int .i64 0, .int .i64 0])) u) ∧
 ((decide (length < 0)) = false → (((decide ((24 : Int) < length)) = true →
 R (.returned (.tuple #[.int .i64 0, .int .i64 0])) u) ∧ ((decide ((24 : Int) < length)) = false →
 inK .i64 (n - 1) ∧ inK .i64 (length - (n - 1)) ∧ (((decide ((length - (n - 1)) < n)) = true →
 R (.returned (.tuple #[.int .i64 0, .int .i64 0])) u) ∧ ((decide ((length - (n - 1)) < n)) = false →
 0 ≤ (length - (n - 1)) ∧ 0 < n ∧ inK .i64 (length - (n - 1)) ∧
 0 ≤ (length - (n - 1)) ∧ 0 < n ∧ inK .i64 (((length - (n - 1)) / n) + 1) ∧
 inK .i64 (k * (((length - (n - 1)) / n) + 1)) ∧ inK .i64 ((k * (((length - (n - 1)) / n) + 1)) + (min k ((length - (n - 1)) % n))) ∧
 (((decide (k < ((length - (n - 1)) % n))) = true → inK .i64 (((length - (n - 1)) / n) + 1) ∧
 R (.returned (.tuple #[.int .i64 ((k * (((length - (n - 1)) / n) + 1)) + (min k ((length - (n - 1)) % n))), .int .i64 (((length - (n - 1)) / n) + 1)])) (drewW u)) ∧
 ((decide (k < ((length - (n - 1)) % n))) = false → R (.returned (.tuple #[.int .i64 ((k * (((length - (n - 1)) / n) + 1)) + (min k ((length - (n - 1)) % n))), .int .i64 ((length - (n - 1)) / n)])) (drewW u)))))))))))))))))
set_option maxRecDepth 100000 in
theorem vc_tiles_Share_eq (length : Int) (n : Int) (k : Int) (u : World) (R : Ending → World → Prop) : wFunc cx_tiles_Share Tryd.f42 [.int .i64 length, .int .i64 n, .int .i64 k] u R = vc_tiles_Share length n k u R := by kernel_rfl
theorem vc_tiles_Share_spec (length : Int) (n : Int) (k : Int) {u : World} {R : Ending → World → Prop} (h : vc_tiles_Share length n k u R) : Spec Tryd.prog fn_tiles_Share #[.int .i64 length, .int .i64 n, .int .i64 k] u R := func_spec (C := cx_tiles_Share) (fn := Tryd.f42) (args := [.int .i64 length, .int .i64 n, .int .i64 k]) (ctxOk _ _ _ _ _) Tryd.func42 (vc_tiles_Share_eq length n k u R) h

/-- fenestra/tiles.Where -/
noncomputable def cx_tiles_Where : Ctx := ⟨Tryd.prog, tab, [], [], [], fns, [], []⟩
def vc_tiles_Where (t_Columns_p : Option Addr) (t_Columns_n t_Columns_c : Nat) (wide : Int) (high : Int) (p : Int) (u : World) (R : Ending → World → Prop) : Prop :=
 Spec Tryd.prog 31 #[.agg #[.slice t_Columns_p t_Columns_n t_Columns_c], .int .i64 p] (allocW (allocW u hole) hole) (fun e u1 => ∃ (q0 q1 : Int) (q2 : Bool), e = .returned (.tuple #[.int .i64 q0, .int .i64 q1, .bool q2]) ∧
 (((!q2) = true → R (.returned (.agg #[.int .i64 0, .int .i64 0, .int .i64 0, .int .i64 0])) u1) ∧
 ((!q2) = false → Spec Tryd.prog 41 #[.agg #[.slice t_Columns_p t_Columns_n t_Columns_c]] u1 (fun e u11 => ∃ (q3 : Bool), e = .returned (.bool q3) ∧
 (((!q3) = true → R (.returned (.agg #[.int .i64 0, .int .i64 0, .int .i64 0, .int .i64 0])) u11) ∧
 ((!q3) = false → Spec Tryd.prog 42 #[.int .i64 wide, .int .i64 ((t_Columns_n : Nat) : Int), .int .i64 q0] u11 (fun e u12 => ∃ (q4 q5 : Int), e = .returned (.tuple #[.int .i64 q4, .int .i64 q5]) ∧
 ∃ b o, t_Columns_p = some ⟨b, o, none⟩ ∧ 0 ≤ q0 ∧ q0 < ((t_Columns_n : Nat) : Int) ∧
 ∃ (q6 : Option Addr) (q7 q8 : Nat), 1 = szN 1 ∧
 Rd u12 b (o + q0.toNat * 1) ([.slice q6 q7 q8]) ∧
 Spec Tryd.prog 42 #[.int .i64 high, .int .i64 ((q7 : Nat) : Int), .int .i64 q1] u12 (fun e u13 => ∃ (q9 qa : Int), e = .returned (.tuple #[.int .i64 q9, .int .i64 qa]) ∧
 (((decide (q5 = 0)) = true → R (.returned (.agg #[.int .i64 0, .int .i64 0, .int .i64 0, .int .i64 0])) u13) ∧
 ((decide (q5 = 0)) = false → (((decide (qa = 0)) = true → R (.returned (.agg #[.int .i64 0, .int .i64 0, .int .i64 0, .int .i64 0])) u13) ∧
 ((decide (qa = 0)) = false → R (.returned (.agg #[.int .i64 q9, .int .i64 q4, .int .i64 qa, .int .i64 q5])) u13))))))))))))
set_option maxRecDepth 100000 in
theorem vc_tiles_Where_eq (t_Columns_p : Option Addr) (t_Columns_n t_Columns_c : Nat) (wide : Int) (high : Int) (p : Int) (u : World) (R : Ending → World → Prop) : wFunc cx_tiles_Where Tryd.f27 [.agg #[.slice t_Columns_p t_Columns_n t_Columns_c], .int .i64 wide, .int .i64 high, .int .i64 p] u R = vc_tiles_Where t_Columns_p t_Columns_n t_Columns_c wide high p u R := by kernel_rfl
theorem vc_tiles_Where_spec (t_Columns_p : Option Addr) (t_Columns_n t_Columns_c : Nat) (wide : Int) (high : Int) (p : Int) {u : World} {R : Ending → World → Prop} (h : vc_tiles_Where t_Columns_p t_Columns_n t_Columns_c wide high p u R) : Spec Tryd.prog fn_tiles_Where #[.agg #[.slice t_Columns_p t_Columns_n t_Columns_c], .int .i64 wide, .int .i64 high, .int .i64 p] u R := func_spec (C := cx_tiles_Where) (fn := Tryd.f27) (args := [.agg #[.slice t_Columns_p t_Columns_n t_Columns_c], .int .i64 wide, .int .i64 high, .int .i64 p]) (ctxOk _ _ _ _ _) Tryd.func27 (vc_tiles_Where_eq t_Columns_p t_Columns_n t_Columns_c wide high p u R) h

/-- slices.Index[[]int,int] -/
noncomputable def cx_slices_Index_int_int : Ctx := ⟨Tryd.prog, tab, [], [], [], fns, [(2, ⟨[.keep, .keep, .keep, .keep, .junk, .junk, .keep, .keep, .cell (.int .i64), .junk, .junk, .junk, .junk, .junk, .junk, .junk, .junk, .junk, .junk], []⟩)], []⟩
def vc_slices_Index_int_int (s_p : Option Addr) (s_n s_c : Nat) (v : Int) (u : World) (R : Ending → World → Prop) : Prop :=
 ∃ (I_ : Int → World → Prop) (M_ : Int → World → Nat), (I_ 0 u) ∧
 ∀ (q0 : Int), ∀ u1 : World, I_ q0 u1 → (((decide (q0 < ((s_n : Nat) : Int))) = true →
 ∃ b o, s_p = some ⟨b, o, none⟩ ∧ 0 ≤ q0 ∧ q0 < ((s_n : Nat) : Int) ∧
 ∃ (q1 : Int), 1 = szN 1 ∧ Rd u1 b (o + q0.toNat * 1) ([.int .i64 q1]) ∧
 (((decide (v = q1)) = true → R (.returned (.int .i64 q0)) u1) ∧
 ((decide (v = q1)) = false → inK .i64 (q0 + 1) ∧ I_ (q0 + 1) u1 ∧
 M_ (q0 + 1) u1 < M_ q0 u1))) ∧ ((decide (q0 < ((s_n : Nat) : Int))) = false →
 R (.returned (.int .i64 (-1))) u1))
set_option maxRecDepth 100000 in
theorem vc_slices_Index_int_int_eq (s_p : Option Addr) (s_n s_c : Nat) (v : Int) (u : World) (R : Ending → World → Prop) : wFunc cx_slices_Index_int_int Tryd.f51 [.slice s_p s_n s_c, .int .i64 v] u R = vc_slices_Index_int_int s_p s_n s_c v u R := by kernel_rfl
theorem vc_slices_Index_int_int_spec (s_p : Option Addr) (s_n s_c : Nat) (v : Int) {u : World} {R : Ending → World → Prop} (h : vc_slices_Index_int_int s_p s_n s_c v u R) : Spec Tryd.prog fn_slices_Index_int_int #[.slice s_p s_n s_c, .int .i64 v] u R := func_spec (C := cx_slices_Index_int_int) (fn := Tryd.f51) (args := [.slice s_p s_n s_c, .int .i64 v]) (ctxOk _ _ _ _ _) Tryd.func51 (vc_slices_Index_int_int_eq s_p s_n s_c v u R) h

end Go.Proofs.YtkmmphkjmamckabDoor

namespace Go.Proofs.YtkmmphkjmamckabDoor
open Go
set_option linter.all false

/-- fenestra/tiles.own -/
noncomputable def cx_tiles_own : Ctx := ⟨Tryd.prog, tab, [], [], [], fns, [(3, ⟨[.keep, .keep, .keep, .keep, .keep, .junk, .keep, .keep, .keep, .cell (.int .i64), .junk, .junk, .junk, .junk, .junk, .junk, .junk, .junk, .junk, .junk, .junk, .keep], [.keep, .keep, .cells [.slice]]⟩)], []⟩
def vc_tiles_own (t_Columns_p : Option Addr) (t_Columns_n t_Columns_c : Nat) (u : World) (R : Ending → World → Prop) : Prop :=
 ∃ (I_ : Int → Option Addr → Nat → Nat → World → Prop) (M_ : Int →
 Option Addr → Nat → Nat → World → Nat), ((Loc.mk 54 false ([.slice t_Columns_p t_Columns_n t_Columns_c])) = (Loc.mk 54 false ([.slice t_Columns_p t_Columns_n t_Columns_c])) ∧
 (Loc.mk 54 false ([.slice none 0 0])) = (Loc.mk 54 false ([.slice none 0 0])) ∧
 I_ 0 none 0 0 (allocW (allocW (allocW u hole) hole) hole)) ∧ ∀ (q0 : Int) (out_Columns_p : Option Addr) (out_Columns_n out_Columns_c : Nat), (Loc.mk 54 false ([.slice t_Columns_p t_Columns_n t_Columns_c])) = (Loc.mk 54 false ([.slice t_Columns_p t_Columns_n t_Columns_c])) ∧
 (Loc.mk 54 false ([.slice none 0 0])) = (Loc.mk 54 false ([.slice none 0 0])) ∧
 ∀ u1 : World, I_ q0 out_Columns_p out_Columns_n out_Columns_c u1 →
 (((decide (q0 < ((t_Columns_n : Nat) : Int))) = true → ∃ b o, t_Columns_p = some ⟨b, o, none⟩ ∧
 0 ≤ q0 ∧ q0 < ((t_Columns_n : Nat) : Int) ∧ ∃ (q1 : Option Addr) (q2 q3 : Nat), 1 = szN 1 ∧
 Rd u1 b (o + q0.toNat * 1) ([.slice q1 q2 q3]) ∧ Spec Tryd.prog 33 #[.slice q1 q2 q3] (drewW u1) (fun e u11 => ∃ (q4 : Option Addr) (q5 q6 : Nat), e = .returned (.slice q4 q5 q6) ∧
 ∃ old new : List Value, old.length = out_Columns_n * 1 ∧ Gets (allocW u11 (.cells #[.slice q4 q5 q6] 42)) out_Columns_p old ∧
 new.length = 1 * 1 ∧ Gets (allocW u11 (.cells #[.slice q4 q5 q6] 42)) (some (Addr.mk u11.heap.size 0 none)) new ∧
 0 < 24 ∧ (2 * (out_Columns_n + 1) + 192) * 24 ≤ 140737488355328 ∧
 okCells new True ∧ (out_Columns_n + 1 ≤ out_Columns_c → WrS (allocW u11 (.cells #[.slice q4 q5 q6] 42)) out_Columns_p (out_Columns_n * 1) (1 * 1)) ∧
 ∀ p cap u12, AppR (allocW u11 (.cells #[.slice q4 q5 q6] 42)) 42 1 [.slice none 0 0] out_Columns_p out_Columns_n out_Columns_c 1 old new p cap u12 →
 inK .i64 (q0 + 1) ∧ (Loc.mk 54 false ([.slice t_Columns_p t_Columns_n t_Columns_c])) = (Loc.mk 54 false ([.slice t_Columns_p t_Columns_n t_Columns_c])) ∧
 (Loc.mk 54 false ([.slice none 0 0])) = (Loc.mk 54 false ([.slice none 0 0])) ∧
 I_ (q0 + 1) p (out_Columns_n + 1) cap u12 ∧ (Loc.mk 54 false ([.slice t_Columns_p t_Columns_n t_Columns_c])) = (Loc.mk 54 false ([.slice t_Columns_p t_Columns_n t_Columns_c])) ∧
 (Loc.mk 54 false ([.slice none 0 0])) = (Loc.mk 54 false ([.slice none 0 0])) ∧
 M_ (q0 + 1) p (out_Columns_n + 1) cap u12 < M_ q0 out_Columns_p out_Columns_n out_Columns_c u1)) ∧
 ((decide (q0 < ((t_Columns_n : Nat) : Int))) = false → R (.returned (.agg #[.slice out_Columns_p out_Columns_n out_Columns_c])) u1))
set_option maxRecDepth 100000 in
theorem vc_tiles_own_eq (t_Columns_p : Option Addr) (t_Columns_n t_Columns_c : Nat) (u : World) (R : Ending → World → Prop) : wFunc cx_tiles_own Tryd.f46 [.agg #[.slice t_Columns_p t_Columns_n t_Columns_c]] u R = vc_tiles_own t_Columns_p t_Columns_n t_Columns_c u R := by kernel_rfl
theorem vc_tiles_own_spec (t_Columns_p : Option Addr) (t_Columns_n t_Columns_c : Nat) {u : World} {R : Ending → World → Prop} (h : vc_tiles_own t_Columns_p t_Columns_n t_Columns_c u R) : Spec Tryd.prog fn_tiles_own #[.agg #[.slice t_Columns_p t_Columns_n t_Columns_c]] u R := func_spec (C := cx_tiles_own) (fn := Tryd.f46) (args := [.agg #[.slice t_Columns_p t_Columns_n t_Columns_c]]) (ctxOk _ _ _ _ _) Tryd.func46 (vc_tiles_own_eq t_Columns_p t_Columns_n t_Columns_c u R) h

/-- fenestra/tiles.Split -/
noncomputable def cx_tiles_Split : Ctx := ⟨Tryd.prog, tab, [], [], [], fns, [], []⟩
def vc_tiles_Split (t_Columns_p : Option Addr) (t_Columns_n t_Columns_c : Nat) (p : Int) (n : Int) (right : Bool) (u : World) (R : Ending → World → Prop) : Prop :=
 Spec Tryd.prog 31 #[.agg #[.slice t_Columns_p t_Columns_n t_Columns_c], .int .i64 p] (allocW (allocW u hole) hole) (fun e u1 => ∃ (q0 q1 : Int) (q2 : Bool), e = .returned (.tuple #[.int .i64 q0, .int .i64 q1, .bool q2]) ∧
 Spec Tryd.prog 41 #[.agg #[.slice t_Columns_p t_Columns_n t_Columns_c]] u1 (fun e u11 => ∃ (q3 : Bool), e = .returned (.bool q3) ∧
 (((!q3) = true → R (.returned (.tuple #[.agg #[.slice t_Columns_p t_Columns_n t_Columns_c], .int .i64 1])) u11) ∧
 ((!q3) = false → Spec Tryd.prog 45 #[.int .i64 n] u11 (fun e u12 => ∃ (q4 : Bool), e = .returned (.bool q4) ∧
 (((!q4) = true → R (.returned (.tuple #[.agg #[.slice t_Columns_p t_Columns_n t_Columns_c], .int .i64 1])) u12) ∧
 ((!q4) = false → (((!q2) = true → R (.returned (.tuple #[.agg #[.slice t_Columns_p t_Columns_n t_Columns_c], .int .i64 3])) u12) ∧
 ((!q2) = false → Spec Tryd.prog 17 #[.agg #[.slice t_Columns_p t_Columns_n t_Columns_c], .int .i64 n] u12 (fun e u13 => ∃ (q5 : Bool), e = .returned (.bool q5) ∧
 ((q5 = true → R (.returned (.tuple #[.agg #[.slice t_Columns_p t_Columns_n t_Columns_c], .int .i64 4])) u13) ∧
 (q5 = false → (((!right) = true → ∃ b o, t_Columns_p = some ⟨b, o, none⟩ ∧
 0 ≤ q0 ∧ q0 < ((t_Columns_n : Nat) : Int) ∧ ∃ (q6 : Option Addr) (q7 q8 : Nat), 1 = szN 1 ∧
 Rd u13 b (o + q0.toNat * 1) ([.slice q6 q7 q8]) ∧
 (((decide ((3 : Int) ≤ ((q7 : Nat) : Int))) = true → R (.returned (.tuple #[.agg #[.slice t_Columns_p t_Columns_n t_Columns_c], .int .i64 5])) u13) ∧
 ((decide ((3 : Int) ≤ ((q7 : Nat) : Int))) = false → Spec Tryd.prog 46 #[.agg #[.slice t_Columns_p t_Columns_n t_Columns_c]] u13 (fun e u14 => ∃ (q9 : Option Addr) (qa qb : Nat), e = .returned (.agg #[.slice q9 qa qb]) ∧
 ((right = true → inK .i64 (q0 + 1) ∧ Spec Tryd.prog 47 #[.slice q9 qa qb, .int .i64 (q0 + 1), .slice (some (Addr.mk (allocW u14 (.cells #[.int .i64 n] 3)).heap.size 0 none)) 1 1] (allocW (allocW u14 (.cells #[.int .i64 n] 3)) (.cells #[.slice (some (Addr.mk u14.heap.size 0 none)) 1 1] 42)) (fun e u15 => ∃ (qc : Option Addr) (qd qe : Nat), e = .returned (.slice qc qd qe) ∧
 R (.returned (.tuple #[.agg #[.slice qc qd qe], .int .i64 0])) u15)) ∧
 (right = false → ∃ b1 o1, q9 = some ⟨b1, o1, none⟩ ∧
 0 ≤ q0 ∧ q0 < ((qa : Nat) : Int) ∧ ∃ (qf : Option Addr) (qg qh : Nat), 1 = szN 1 ∧
 Rd (drewW u14) b1 (o1 + q0.toNat * 1) ([.slice qf qg qh]) ∧
 inK .i64 (q1 + 1) ∧ Rd (allocW (drewW u14) (.cells #[.int .i64 n] 3)) b1 (o1 + q0.toNat * 1) ([.slice qf qg qh]) ∧
 Spec Tryd.prog 48 #[.slice qf qg qh, .int .i64 (q1 + 1), .slice (some (Addr.mk (drewW u14).heap.size 0 none)) 1 1] (allocW (drewW u14) (.cells #[.int .i64 n] 3)) (fun e u16 => ∃ (qi : Option Addr) (qj qk : Nat), e = .returned (.slice qi qj qk) ∧
 ∃ b2 o2, q9 = some ⟨b2, o2, none⟩ ∧ 0 ≤ q0 ∧ q0 < ((qa : Nat) : Int) ∧
 1 = szN 1 ∧ Wr u16 b2 (o2 + q0.toNat * 1) 1 ∧
 R (.returned (.tuple #[.agg #[.slice q9 qa qb], .int .i64 0])) (putCells u16 b2 (o2 + q0.toNat * 1) ([.slice qi qj qk]))))))))) ∧
 ((!right) = false → Spec Tryd.prog 46 #[.agg #[.slice t_Columns_p t_Columns_n t_Columns_c]] u13 (fun e u17 => ∃ (ql : Option Addr) (qm qn : Nat), e = .returned (.agg #[.slice ql qm qn]) ∧
 ((right = true → inK .i64 (q0 + 1) ∧ Spec Tryd.prog 47 #[.slice ql qm qn, .int .i64 (q0 + 1), .slice (some (Addr.mk (allocW u17 (.cells #[.int .i64 n] 3)).heap.size 0 none)) 1 1] (allocW (allocW u17 (.cells #[.int .i64 n] 3)) (.cells #[.slice (some (Addr.mk u17.heap.size 0 none)) 1 1] 42)) (fun e u18 => ∃ (qo : Option Addr) (qp qq : Nat), e = .returned (.slice qo qp qq) ∧
 R (.returned (.tuple #[.agg #[.slice qo qp qq], .int .i64 0])) u18)) ∧
 (right = false → ∃ b3 o3, ql = some ⟨b3, o3, none⟩ ∧
 0 ≤ q0 ∧ q0 < ((qm : Nat) : Int) ∧ ∃ (qr : Option Addr) (qs qt : Nat), 1 = szN 1 ∧
 Rd (drewW u17) b3 (o3 + q0.toNat * 1) ([.slice qr qs qt]) ∧
 inK .i64 (q1 + 1) ∧ Rd (allocW (drewW u17) (.cells #[.int .i64 n] 3)) b3 (o3 + q0.toNat * 1) ([.slice qr qs qt]) ∧
 Spec Tryd.prog 48 #[.slice qr qs qt, .int .i64 (q1 + 1), .slice (some (Addr.mk (drewW u17).heap.size 0 none)) 1 1] (allocW (drewW u17) (.cells #[.int .i64 n] 3)) (fun e u19 => ∃ (qu : Option Addr) (qv qw : Nat), e = .returned (.slice qu qv qw) ∧
 ∃ b4 o4, ql = some ⟨b4, o4, none⟩ ∧ 0 ≤ q0 ∧ q0 < ((qm : Nat) : Int) ∧
 1 = szN 1 ∧ Wr u19 b4 (o4 + q0.toNat * 1) 1 ∧
 R (.returned (.tuple #[.agg #[.slice ql qm qn], .int .i64 0])) (putCells u19 b4 (o4 + q0.toNat * 1) ([.slice qu qv qw]))))))))))))))))))))
set_option maxRecDepth 100000 in
theorem vc_tiles_Split_eq (t_Columns_p : Option Addr) (t_Columns_n t_Columns_c : Nat) (p : Int) (n : Int) (right : Bool) (u : World) (R : Ending → World → Prop) : wFunc cx_tiles_Split Tryd.f29 [.agg #[.slice t_Columns_p t_Columns_n t_Columns_c], .int .i64 p, .int .i64 n, .bool right] u R = vc_tiles_Split t_Columns_p t_Columns_n t_Columns_c p n right u R := by kernel_rfl
theorem vc_tiles_Split_spec (t_Columns_p : Option Addr) (t_Columns_n t_Columns_c : Nat) (p : Int) (n : Int) (right : Bool) {u : World} {R : Ending → World → Prop} (h : vc_tiles_Split t_Columns_p t_Columns_n t_Columns_c p n right u R) : Spec Tryd.prog fn_tiles_Split #[.agg #[.slice t_Columns_p t_Columns_n t_Columns_c], .int .i64 p, .int .i64 n, .bool right] u R := func_spec (C := cx_tiles_Split) (fn := Tryd.f29) (args := [.agg #[.slice t_Columns_p t_Columns_n t_Columns_c], .int .i64 p, .int .i64 n, .bool right]) (ctxOk _ _ _ _ _) Tryd.func29 (vc_tiles_Split_eq t_Columns_p t_Columns_n t_Columns_c p n right u R) h

/-- fenestra/tiles.Kill -/
noncomputable def cx_tiles_Kill : Ctx := ⟨Tryd.prog, tab, [], [], [], fns, [], []⟩
def vc_tiles_Kill (t_Columns_p : Option Addr) (t_Columns_n t_Columns_c : Nat) (p : Int) (u : World) (R : Ending → World → Prop) : Prop :=
 Spec Tryd.prog 31 #[.agg #[.slice t_Columns_p t_Columns_n t_Columns_c], .int .i64 p] (allocW (allocW u hole) hole) (fun e u1 => ∃ (q0 q1 : Int) (q2 : Bool), e = .returned (.tuple #[.int .i64 q0, .int .i64 q1, .bool q2]) ∧
 Spec Tryd.prog 41 #[.agg #[.slice t_Columns_p t_Columns_n t_Columns_c]] u1 (fun e u11 => ∃ (q3 : Bool), e = .returned (.bool q3) ∧
 (((!q3) = true → R (.returned (.tuple #[.agg #[.slice t_Columns_p t_Columns_n t_Columns_c], .int .i64 1])) u11) ∧
 ((!q3) = false → (((!q2) = true → R (.returned (.tuple #[.agg #[.slice t_Columns_p t_Columns_n t_Columns_c], .int .i64 3])) u11) ∧
 ((!q2) = false → (((decide (((t_Columns_n : Nat) : Int) = 1)) = true →
 ∃ b o, t_Columns_p = some ⟨b, o, none⟩ ∧ 0 ≤ (0 : Int) ∧ (0 : Int) < ((t_Columns_n : Nat) : Int) ∧
 ∃ (q4 : Option Addr) (q5 q6 : Nat), 1 = szN 1 ∧
 Rd u11 b (o + (0 : Int).toNat * 1) ([.slice q4 q5 q6]) ∧
 (((decide (((q5 : Nat) : Int) = 1)) = true → R (.returned (.tuple #[.agg #[.slice t_Columns_p t_Columns_n t_Columns_c], .int .i64 5])) u11) ∧
 ((decide (((q5 : Nat) : Int) = 1)) = false → Spec Tryd.prog 46 #[.agg #[.slice t_Columns_p t_Columns_n t_Columns_c]] u11 (fun e u12 => ∃ (q7 : Option Addr) (q8 q9 : Nat), e = .returned (.agg #[.slice q7 q8 q9]) ∧
 ∃ b1 o1, q7 = some ⟨b1, o1, none⟩ ∧ 0 ≤ q0 ∧ q0 < ((q8 : Nat) : Int) ∧
 ∃ (qa : Option Addr) (qb qc : Nat), 1 = szN 1 ∧
 Rd (drewW u12) b1 (o1 + q0.toNat * 1) ([.slice qa qb qc]) ∧
 inK .i64 (q1 + 1) ∧ Spec Tryd.prog 49 #[.slice qa qb qc, .int .i64 q1, .int .i64 (q1 + 1)] (drewW u12) (fun e u13 => ∃ (qd : Option Addr) (qe qf : Nat), e = .returned (.slice qd qe qf) ∧
 ∃ b2 o2, q7 = some ⟨b2, o2, none⟩ ∧ 0 ≤ q0 ∧ q0 < ((q8 : Nat) : Int) ∧
 1 = szN 1 ∧ Wr u13 b2 (o2 + q0.toNat * 1) 1 ∧
 ∃ b3 o3, q7 = some ⟨b3, o3, none⟩ ∧ 0 ≤ q0 ∧ q0 < ((q8 : Nat) : Int) ∧
 ∃ (qg : Option Addr) (qh qi : Nat), 1 = szN 1 ∧
 Rd (putCells u13 b2 (o2 + q0.toNat * 1) ([.slice qd qe qf])) b3 (o3 + q0.toNat * 1) ([.slice qg qh qi]) ∧
 (((decide (((qh : Nat) : Int) = 0)) = true → inK .i64 (q0 + 1) ∧
 Spec Tryd.prog 50 #[.slice q7 q8 q9, .int .i64 q0, .int .i64 (q0 + 1)] (putCells u13 b2 (o2 + q0.toNat * 1) ([.slice qd qe qf])) (fun e u14 => ∃ (qj : Option Addr) (qk ql : Nat), e = .returned (.slice qj qk ql) ∧
 R (.returned (.tuple #[.agg #[.slice qj qk ql], .int .i64 0])) u14)) ∧
 ((decide (((qh : Nat) : Int) = 0)) = false → R (.returned (.tuple #[.agg #[.slice q7 q8 q9], .int .i64 0])) (putCells u13 b2 (o2 + q0.toNat * 1) ([.slice qd qe qf]))))))))) ∧
 ((decide (((t_Columns_n : Nat) : Int) = 1)) = false → Spec Tryd.prog 46 #[.agg #[.slice t_Columns_p t_Columns_n t_Columns_c]] u11 (fun e u15 => ∃ (qm : Option Addr) (qn qo : Nat), e = .returned (.agg #[.slice qm qn qo]) ∧
 ∃ b4 o4, qm = some ⟨b4, o4, none⟩ ∧ 0 ≤ q0 ∧ q0 < ((qn : Nat) : Int) ∧
 ∃ (qp : Option Addr) (qq qr : Nat), 1 = szN 1 ∧
 Rd (drewW u15) b4 (o4 + q0.toNat * 1) ([.slice qp qq qr]) ∧
 inK .i64 (q1 + 1) ∧ Spec Tryd.prog 49 #[.slice qp qq qr, .int .i64 q1, .int .i64 (q1 + 1)] (drewW u15) (fun e u16 => ∃ (qs : Option Addr) (qt qu : Nat), e = .returned (.slice qs qt qu) ∧
 ∃ b5 o5, qm = some ⟨b5, o5, none⟩ ∧ 0 ≤ q0 ∧ q0 < ((qn : Nat) : Int) ∧
 1 = szN 1 ∧ Wr u16 b5 (o5 + q0.toNat * 1) 1 ∧
 ∃ b6 o6, qm = some ⟨b6, o6, none⟩ ∧ 0 ≤ q0 ∧ q0 < ((qn : Nat) : Int) ∧
 ∃ (qv : Option Addr) (qw qx : Nat), 1 = szN 1 ∧
 Rd (putCells u16 b5 (o5 + q0.toNat * 1) ([.slice qs qt qu])) b6 (o6 + q0.toNat * 1) ([.slice qv qw qx]) ∧
 (((decide (((qw : Nat) : Int) = 0)) = true → inK .i64 (q0 + 1) ∧
 Spec Tryd.prog 50 #[.slice qm qn qo, .int .i64 q0, .int .i64 (q0 + 1)] (putCells u16 b5 (o5 + q0.toNat * 1) ([.slice qs qt qu])) (fun e u17 => ∃ (qy : Option Addr) (qz q10 : Nat), e = .returned (.slice qy qz q10) ∧
 R (.returned (.tuple #[.agg #[.slice qy qz q10], .int .i64 0])) u17)) ∧
 ((decide (((qw : Nat) : Int) = 0)) = false → R (.returned (.tuple #[.agg #[.slice qm qn qo], .int .i64 0])) (putCells u16 b5 (o5 + q0.toNat * 1) ([.slice qs qt qu]))))))))))))))
set_option maxRecDepth 100000 in
theorem vc_tiles_Kill_eq (t_Columns_p : Option Addr) (t_Columns_n t_Columns_c : Nat) (p : Int) (u : World) (R : Ending → World → Prop) : wFunc cx_tiles_Kill Tryd.f30 [.agg #[.slice t_Columns_p t_Columns_n t_Columns_c], .int .i64 p] u R = vc_tiles_Kill t_Columns_p t_Columns_n t_Columns_c p u R := by kernel_rfl
theorem vc_tiles_Kill_spec (t_Columns_p : Option Addr) (t_Columns_n t_Columns_c : Nat) (p : Int) {u : World} {R : Ending → World → Prop} (h : vc_tiles_Kill t_Columns_p t_Columns_n t_Columns_c p u R) : Spec Tryd.prog fn_tiles_Kill #[.agg #[.slice t_Columns_p t_Columns_n t_Columns_c], .int .i64 p] u R := func_spec (C := cx_tiles_Kill) (fn := Tryd.f30) (args := [.agg #[.slice t_Columns_p t_Columns_n t_Columns_c], .int .i64 p]) (ctxOk _ _ _ _ _) Tryd.func30 (vc_tiles_Kill_eq t_Columns_p t_Columns_n t_Columns_c p u R) h

end Go.Proofs.YtkmmphkjmamckabDoor

