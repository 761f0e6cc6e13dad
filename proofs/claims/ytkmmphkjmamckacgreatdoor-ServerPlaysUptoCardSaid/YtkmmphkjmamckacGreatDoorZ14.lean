/- Texts joined: VRefS. -/
import Derived.Test.YtkmmphkjmamckacGreatDoorZ01
namespace Go.Proofs.YtkmmphkjmamckacGreatDoor
open Go
set_option linter.all false
noncomputable def mB : Ctx := ⟨Tryz.prog, tab, [], [], [2, 3], fns, [(2, ⟨kp 4 (jk 2 (.cell (.int .i64) :: jk 13 (kp 26 []))), [.aa, .aa]⟩)], []⟩
def fX (a : List Value) (b : List Value) (u : World) (R : Ending -> World -> Prop) : Prop :=
 ∃(c:Int->World->Prop) (d:Int->World->Nat),(lq (Loc.mk 36 true a)/\lq (Loc.mk 36 true b)/\c 0 (ab (ab u hole) hole))/\∀(e:Int),lq (Loc.mk 36 true a)/\lq (Loc.mk 36 true b)/\∀f:World,c e f->(cnd (decide (e<6)) (0<=e/\e<((6:Nat):Int)/\∃(g h:Int) (i:Option Addr) (j k:Nat) (l m n:Int) (o:Bool) (p q:Int),takeN a (1+e.toNat*9) 9=some [iI g,iI h,.slice i j k,iI l,iI m,iI n,.bool o,iI p,iI q]/\0<=e/\e<((6:Nat):Int)/\
 ∃(r s:Int) (t:Option Addr) (v w:Nat) (x y z:Int) (a0:Bool) (a1 a2:Int),takeN b (1+e.toNat*9) 9=some [iI r,iI s,.slice t v w,iI x,iI y,iI z,.bool a0,iI a1,iI a2]/\Spec Tryz.prog 13 #[.agg #[iI g,iI h,.slice i j k,iI l,iI m,iI n,.bool o,iI p,iI q],.agg #[iI r,iI s,.slice t v w,iI x,iI y,iI z,.bool a0,iI a1,iI a2]] (af f) (fun a3 a4=>∃(a5:Bool),a3=.returned (.bool a5)/\(cnd (!a5) (R (.returned (.bool false)) a4) (inK .i64 (e+1)/\
 lq (Loc.mk 36 true a)/\lq (Loc.mk 36 true b)/\c (e+1) a4/\lq (Loc.mk 36 true a)/\lq (Loc.mk 36 true b)/\d (e+1) a4<d e f)))) (∃(g:Option Addr) (h i:Nat),takeN a 0 1=some [.slice g h i]/\∃(j:Option Addr) (k l:Nat),takeN b 0 1=some [.slice j k l]/\Spec Tryz.prog 14 #[.agg #[.slice g h i],.agg #[.slice j k l]] f (fun m n=>∃(o:Bool),m=.returned (.bool o)/\(cnd o (∃(p:Int),takeN a 55 1=some [iI p]/\∃(q:Int),takeN b 55 1=some [iI q]/\
 (cnd (decide (p=q)) (∃(r:Int),takeN a 56 1=some [iI r]/\∃(s:Int),takeN b 56 1=some [iI s]/\(cnd (decide (r=s)) (∃(t:Int),takeN a 57 1=some [iI t]/\∃(v:Int),takeN b 57 1=some [iI v]/\R (.returned (.bool (decide (t=v)))) n) (R (.returned (.bool false)) n))) (R (.returned (.bool false)) n))) (R (.returned (.bool false)) n)))))
set_option maxRecDepth 100000 in
theorem jH (a : List Value) (b : List Value) {u : World} {R : Ending -> World -> Prop} (h : fX a b u R) : Spec Tryz.prog cX #[.agg a.toArray, .agg b.toArray] u R := ai (C := mB) (fn := Tryz.f6) (args := [.agg a.toArray, .agg b.toArray]) (ax _ _ _ _ _) Tryz.func6 (by kernel_rfl) h
end Go.Proofs.YtkmmphkjmamckacGreatDoor
