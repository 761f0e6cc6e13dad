/- Texts joined: VRefSv, VWalk. -/
import Derived.Test.YtkmmphkjmamckacGreatDoorZ03
import Derived.Test.YtkmmphkjmamckacGreatDoorZ08
namespace Go.Proofs.YtkmmphkjmamckacGreatDoor
open Go
set_option linter.all false
noncomputable def ma : Ctx := ⟨Tryz.prog, tab, [7], [], [], fns, [], []⟩
def fm  (u : World) (R : Ending -> World -> Prop) : Prop :=
 Spec Tryz.prog 12 #[.pointer (some ⟨(ab (ab u (.cells #[iI 0] 3)) (.cells #[.slice (some (Addr.mk u.heap.size 0 none)) 1 1] 38)).heap.size,0,none⟩)] (ab (ab (ab u (.cells #[iI 0] 3)) (.cells #[.slice (some (Addr.mk u.heap.size 0 none)) 1 1] 38)) (.cells ([.slice (some (Addr.mk (ab u (.cells #[iI 0] 3)).heap.size 0 none)) 1 1,iI 0,iI 0,.slice none 0 0,iI 0,iI 0,iI 0,.bool false,iI 0,iI 0,iI 0,iI 0,.slice none 0 0,iI 0,iI 0,iI 0,.bool false,iI 0,iI 0,iI 0,iI 0,.slice none 0 0,iI 0,iI 0,iI 0,.bool false,iI 0,iI 0,iI 0,iI 0,.slice none 0 0,iI 0,iI 0,iI 0,.bool false,iI 0,iI 0,iI 0,iI 0,.slice none 0 0,iI 0,iI 0,iI 0,.bool false,iI 0,iI 0,iI 0,iI 0,.slice none 0 0,iI 0,iI 0,iI 0,.bool false,iI 0,iI 0,iI 20,iI 7,iI 0,iI 0,.slice none 0 0,.string (ByteArray.mk #[]),.bool false,iI 0,.slice none 0 0,.string (ByteArray.mk #[]),.bool false,iI 0,.slice none 0 0,.string (ByteArray.mk #[]),.bool false,iI 0,.slice none 0 0,.string (ByteArray.mk #[]),.bool false,iI 0,.slice none 0 0,.string (ByteArray.mk #[]),.bool false,iI 0,.slice none 0 0,.string (ByteArray.mk #[]),.bool false,.bool false,.bool false,.bool false,iI 0]:List Value).toArray 44)) (fun a b=>a=.returned (.tuple #[])/\
 R (.returned (.pointer (some ⟨(ab (ab u (.cells #[iI 0] 3)) (.cells #[.slice (some (Addr.mk u.heap.size 0 none)) 1 1] 38)).heap.size,0,none⟩))) b)
set_option maxRecDepth 100000 in
theorem jl  {u : World} {R : Ending -> World -> Prop} (h : fm  u R) : Spec Tryz.prog eR #[] u R := ai (C := ma) (fn := Tryz.f5) (args := []) (ax _ _ _ _ _) Tryz.func5 (by kernel_rfl) h
noncomputable def lG : Ctx := ⟨Tryz.prog, tab, [], [], [], fns, [(1, ⟨kp 2 (jk 5 (.cell (.int .i64) :: jk 89 [])), []⟩)], []⟩
def tb (a : Int) (b : Int -> World -> Prop) (c : World) (d : Int -> World -> Nat) (e : World) : Prop :=
 inK .i64 (a+1)/\b (a+1) c/\d (a+1) c<d a e
def Bk (a b : Int) (c : Option Addr) (d e : Nat) (f g h : Int) (i : Bool) (j k l m : Int) (n : World) (o : Int) (s_b s_o : Nat) (p : Int -> World -> Prop) (q : Int -> World -> Nat) (r : World) : Prop :=
 Spec Tryz.prog 36 #[.agg #[iI a,iI b,.slice c d e,iI f,iI g,iI h,.bool i,iI j,iI k],iI (max l 1),iI (max m 1)] n (fun s t=>∃(v w:Int) (x:Option Addr) (y z:Nat) (a0 a1 a2:Int) (a3:Bool) (a4 a5 a6:Int),s=.returned (.tuple #[.agg #[iI v,iI w,.slice x y z,iI a0,iI a1,iI a2,.bool a3,iI a4,iI a5],iI a6])/\0<=o/\o<((6:Nat):Int)/\9=szN 9/\Wr t s_b (s_o+0+1+o.toNat*9) 9/\tb o p (ae t s_b (s_o+0+1+o.toNat*9) ([iI v,iI w,.slice x y z,iI a0,iI a1,iI a2,.bool a3,iI a4,iI a5])) q r)
def A9 (a : Int) (b : World) (s_b s_o : Nat) (c d : Int) (e : World) (f : Int -> World -> Prop) (g : Int -> World -> Nat) (h i : World) : Prop :=
 0<=a/\a<((6:Nat):Int)/\∃(j k:Int) (l:Option Addr) (m n:Nat) (o p q:Int) (r:Bool) (s t:Int),9=szN 9/\Rd b s_b (s_o+0+1+a.toNat*9) ([iI j,iI k,.slice l m n,iI o,iI p,iI q,.bool r,iI s,iI t])/\(cnd (decide (j=0)) (Spec Tryz.prog 35 #[iI (max c 1),iI (max d 1)] e (fun v w=>∃(x y:Int) (z:Option Addr) (a0 a1:Nat) (a2 a3 a4:Int) (a5:Bool) (a6 a7:Int),v=.returned (.agg #[iI x,iI y,.slice z a0 a1,iI a2,iI a3,iI a4,.bool a5,iI a6,iI a7])/\
 0<=a/\a<((6:Nat):Int)/\9=szN 9/\Wr w s_b (s_o+0+1+a.toNat*9) 9/\tb a f (ae w s_b (s_o+0+1+a.toNat*9) ([iI x,iI y,.slice z a0 a1,iI a2,iI a3,iI a4,.bool a5,iI a6,iI a7])) g h)) ((cnd (!decide (j=(max c 1))) (Bk j k l m n o p q r s t c d e a s_b s_o f g h) ((cnd (!decide (k=(max d 1))) (Bk j k l m n o p q r s t c d e a s_b s_o f g h) (tb a f i g h))))))
def eA (s_b s_o : Nat) (u : World) (R : Ending -> World -> Prop) : Prop :=
 ∃(a:Int->World->Prop) (b:Int->World->Nat),(a 0 u)/\∀(c:Int),∀d:World,a c d->(cnd (decide (c<6)) (∃(e:Option Addr) (f g:Nat),1=szN 1/\Rd d s_b (s_o+0+0) ([.slice e f g])/\Spec Tryz.prog 24 #[.agg #[.slice e f g],iI c] d (fun h i=>∃(j:Bool),h=.returned (.bool j)/\(cnd (!j) (0<=c/\c<((6:Nat):Int)/\9=szN 9/\Wr (af i) s_b (s_o+0+1+c.toNat*9) 9/\0<=c/\c<((6:Nat):Int)/\4=([iI 0,.slice none 0 0,.string (ByteArray.mk #[]),.bool false]:List Value).length/\
 Wr (ae (af i) s_b (s_o+0+1+c.toNat*9) ([iI 0,iI 0,.slice none 0 0,iI 0,iI 0,iI 0,.bool false,iI 0,iI 0])) s_b (s_o+58+c.toNat*4) 4/\tb c a (ae (ae (af i) s_b (s_o+0+1+c.toNat*9) ([iI 0,iI 0,.slice none 0 0,iI 0,iI 0,iI 0,.bool false,iI 0,iI 0])) s_b (s_o+58+c.toNat*4) ([iI 0,.slice none 0 0,.string (ByteArray.mk #[]),.bool false])) b d) (∃(k:Option Addr) (l m:Nat),1=szN 1/\
 Rd (af i) s_b (s_o+0+0) ([.slice k l m])/\∃(n:Int),1=szN 1/\Rd (af i) s_b (s_o+0+55) ([iI n])/\∃(o:Int),1=szN 1/\Rd (af i) s_b (s_o+0+56) ([iI o])/\((Spec Tryz.prog 34 #[.agg #[.slice k l m],iI n,iI o,iI c] (af i) (fun p q=>∃(r s t v:Int),p=.returned (.agg #[iI r,iI s,iI t,iI v])/\Rd (ab q hole) s_b (s_o+0+56) ([iI o])/\Rd (ab q hole) s_b (s_o+0+55) ([iI n])/\Rd (ab q hole) s_b (s_o+0+0) ([.slice k l m])/\
 A9 c (af (ab q hole)) s_b s_o v t (af (ab (af (ab q hole)) hole)) a b d (ab (af (ab q hole)) hole)))/\(Rd (ab (af i) hole) s_b (s_o+0+56) ([iI o])/\Rd (ab (af i) hole) s_b (s_o+0+55) ([iI n])/\Rd (ab (af i) hole) s_b (s_o+0+0) ([.slice k l m])/\Spec Tryz.prog 34 #[.agg #[.slice k l m],iI n,iI o,iI c] (ab (af i) hole) (fun p q=>∃(r s t v:Int),p=.returned (.agg #[iI r,iI s,iI t,iI v])/\
 A9 c (af q) s_b s_o v t (af (ab (af q) hole)) a b d (ab (af q) hole)))))))) (R (.returned (.tuple #[])) d))
set_option maxRecDepth 100000 in
theorem iO (s_b s_o : Nat) {u : World} {R : Ending -> World -> Prop} (h : eA s_b s_o u R) : Spec Tryz.prog cO #[.pointer (some ⟨s_b, s_o, none⟩)] u R := ai (C := lG) (fn := Tryz.f12) (args := [.pointer (some ⟨s_b, s_o, none⟩)]) (ax _ _ _ _ _) Tryz.func12 (by kernel_rfl) h
noncomputable def px : Ctx := ⟨Tryz.prog, tab, [], [], [], fns, [], []⟩
def jA (a_Kind : Int) (a_P : Int) (a_N : Int) (a_M : Int) (a_Bytes : ByteArray) (u : World) (R : Ending -> World -> Prop) : Prop :=
 (cnd (decide ((1:Int)<=a_N)) ((cnd (decide (a_N<=24)) ((cnd (decide ((1:Int)<=a_M)) (R (.returned (.bool (decide (a_M<=10)))) (ab u hole)) (R (.returned (.bool false)) (ab u hole)))) (R (.returned (.bool false)) (ab u hole)))) (R (.returned (.bool false)) (ab u hole)))
set_option maxRecDepth 100000 in
theorem lH (a_Kind : Int) (a_P : Int) (a_N : Int) (a_M : Int) (a_Bytes : ByteArray) {u : World} {R : Ending -> World -> Prop} (h : jA a_Kind a_P a_N a_M a_Bytes u R) : Spec Tryz.prog jy #[.agg #[.int .i64 a_Kind, .int .i64 a_P, .int .i64 a_N, .int .i64 a_M, .string a_Bytes]] u R := ai (C := px) (fn := Tryz.f30) (args := [.agg #[.int .i64 a_Kind, .int .i64 a_P, .int .i64 a_N, .int .i64 a_M, .string a_Bytes]]) (ax _ _ _ _ _) Tryz.func30 (by kernel_rfl) h
noncomputable def jW : Ctx := ⟨Tryz.prog, tab, [], [], [], fns, [], []⟩
def dG (e_ : Int) (u : World) (R : Ending -> World -> Prop) : Prop :=
 R (.returned (.agg #[iI e_,iI 0,.string (ByteArray.mk #[])])) (ab u hole)
set_option maxRecDepth 100000 in
theorem gN (e_ : Int) {u : World} {R : Ending -> World -> Prop} (h : dG e_ u R) : Spec Tryz.prog cE #[.int .i64 e_] u R := ai (C := jW) (fn := Tryz.f23) (args := [.int .i64 e_]) (ax _ _ _ _ _) Tryz.func23 (by kernel_rfl) h
theorem wj (c : Int) {u : World} : Spec Tryz.prog l9 #[.int .i64 c] u fun e u' => e = .returned (ClV (sign c)) /\ Ext u u' := by
 apply rJ
 delta qR cnd iI lq
 exact ⟨rfl, (Upd.refl u).alloc _⟩
theorem F2 {u : World} {cs : List Value} {v : Vw} (h : VwM u cs v) (row col : Int) (hr : inK .i64 row) (hc : inK .i64 col) :
  Spec Tryz.prog qX #[.agg cs.toArray, .int .i64 row, .int .i64 col] u fun e u' => e = .returned (ClV (cellV v row col)) /\ Ext u u' := by
 apply rp
 delta qD Av Ao zM nc sr cnd iI lq
 simp only [decide_eq_true_eq, decide_eq_false_iff_not, true_and]
 simp only [inK] at hr hc
 have hu : Ext u (ab (ab u hole) hole) := ((Upd.refl u).alloc _).alloc _
 have out : (row < 0 \/ col < 0 \/ v.high <= row \/ v.wide <= col) -> Spec Tryz.prog l9 #[.int .i64 46] (ab (ab u hole) hole) (fun e u1 => ∃ (x30q_Ch : Int) (x30q_Ink : Int) (x30q_Pic : Int) (x30q_Bold : Bool), e = .returned (.agg #[.int .i64 x30q_Ch, .int .i64 x30q_Ink, .int .i64 x30q_Pic, .bool x30q_Bold]) /\
   (Ending.returned (.agg #[.int .i64 x30q_Ch, .int .i64 x30q_Ink, .int .i64 x30q_Pic, .bool x30q_Bold]) = .returned (ClV (cellV v row col)) /\ Ext u u1)) := fun ho => (wj 46).mono fun e u1 ⟨he, hu1⟩ => ⟨_, _, _, _, he, by
  unfold cellV
  rw [if_pos ho], hu.ext hu1⟩
 refine ⟨fun h1 => out (.inl h1), fun h1 => ⟨fun h2 => out (.inr (.inl h2)), fun h2 => ⟨_, h.high, fun h3 => out (.inr (.inr (.inl h3))), fun h3 => ⟨_, h.wide, fun h4 => out (.inr (.inr (.inr h4))), fun h4 => ?_⟩⟩⟩⟩
 have hcell : cellV v row col = match lv v.aj v.wide v.high row col with
  | some p => atG (v.aG.getD p .zero) (row - (whereT v.aj v.wide v.high p).row) (col - (whereT v.aj v.wide v.high p).col)
  | none => if Ab v.wide v.aj.length col = true then sign 124 else sign 45 := by
  unfold cellV
  rw [if_neg (by omega)]
  cases lv v.aj v.wide v.high row col <;> rfl
 rw [hcell]
 refine ⟨fun x a b c d w => Ext u w /\ 0 <= x /\ x <= 6 /\ ∀ q : Nat, q < x.toNat -> ¬ inR (whereT v.aj v.wide v.high q) row col, fun x _ _ _ _ _ => (6 - x).toNat, ⟨hu, Int.le_refl _, by decide, by omega⟩, ?_⟩
 rintro x a1 a2 a3 a4 w ⟨hw, h0, h6, hq⟩
 refine ⟨fun hx => ?_, fun hx => ?_⟩
 ·obtain ⟨p, c, hp, ht⟩ := (h.ext hw).aj
  refine ⟨_, _, _, hp, _, h.wide, _, h.high, (js ht c v.wide v.high x (h.few.le (by decide))).mono fun e u2 ⟨he, hu2⟩ => ⟨_, _, _, _, he, ?_⟩⟩
  have sm := vf v.aj v.wide v.high x
  have ha : Ext u2 (ab u2 hole) := (Upd.refl _).alloc _
  have x2 := (hw.ext hu2).ext ha
  have next : ¬ inR (whereT v.aj v.wide v.high x) row col -> inK .i64 (x + 1) /\ (Ext u (ab u2 hole) /\ 0 <= x + 1 /\ x + 1 <= 6 /\ ∀ q : Nat, q < (x + 1).toNat -> ¬ inR (whereT v.aj v.wide v.high q) row col) /\ (6 - (x + 1)).toNat < (6 - x).toNat := fun hn => by
   refine ⟨by simp only [inK]; omega, ⟨x2, by omega, by omega, fun q hq' => ?_⟩, by omega⟩
   rcases (by omega : q < x.toNat \/ q = x.toNat) with h | rfl
   ·exact hq q h
   ·rw [show ((x.toNat : Nat) : Int) = x by omega]; exact hn
  refine ⟨fun c1 => ⟨by simp only [inK]; omega, fun c2 => ⟨fun c3 => ⟨by simp only [inK]; omega, fun c4 => ?_, fun c4 => next fun hi => c4 hi.2.2.2⟩, fun c3 => next fun hi => c3 hi.2.2.1⟩, fun c2 => next fun hi => c2 hi.2.1⟩, fun c1 => next fun hi => c1 hi.1⟩
  obtain ⟨gp, gc, hg, hcl, hgl, _⟩ := (h.ext (x2.drew)).qz x.toNat (by omega)
  refine ⟨h0, by omega, _, _, _, _, _, _, _, _, _, _, _, hg, by simp only [inK]; omega, by simp only [inK]; omega, ?_⟩
  refine (D0 hcl gc _ _ (by omega)).mono fun e u3 ⟨he, hu3⟩ => ⟨_, _, _, _, he, ?_, (x2.drew).ext hu3⟩
  have hpa : lv v.aj v.wide v.high row col = some x.toNat := CC (by omega) (by rw [show ((x.toNat : Nat) : Int) = x by omega]; exact ⟨c1, c2, c3, c4⟩)
  rw [hpa]
  dsimp only
  rw [show ((x.toNat : Nat) : Int) = x by omega]
 ·have hpa : lv v.aj v.wide v.high row col = none := B6 fun p hp => hq p (by omega)
  rw [hpa]
  dsimp only
  have hn := h.few.n
  obtain ⟨p, c, hp, ht⟩ := h.aj
  refine ⟨_, _, _, hp, by simp only [inK]; omega, fun x a b c d w => Ext u w /\ 0 <= x /\ ∀ q : Nat, q < x.toNat -> ¬ (q + 1 < v.aj.length /\ 0 < (aw v.wide v.aj.length q).2 /\ col = (aw v.wide v.aj.length q).1 + (aw v.wide v.aj.length q).2), fun x _ _ _ _ _ => (v.aj.length - x).toNat, ⟨hw, Int.le_refl _, by omega⟩, ?_⟩
  rintro y b1 b2 b3 b4 w1 ⟨hw1, y0, hq1⟩
  refine ⟨fun hy => ?_, fun hy => (wj 45).mono fun e u4 ⟨he, hu4⟩ => ⟨_, _, _, _, he, ?_, hw1.ext hu4⟩⟩
  ·refine ⟨_, h.wide, _, _, _, hp, (yb v.wide v.aj.length y).mono fun e u3 ⟨he, hu3⟩ => ⟨_, _, he, ?_⟩⟩
   have ss := Bj v.wide v.aj.length y
   have ey : ((y.toNat : Nat) : Int) = y := by omega
   have next : ¬ (0 < (aw v.wide v.aj.length y).2 /\ col = (aw v.wide v.aj.length y).1 + (aw v.wide v.aj.length y).2) -> inK .i64 (y + 1) /\ (Ext u u3 /\ 0 <= y + 1 /\ ∀ q : Nat, q < (y + 1).toNat -> ¬ (q + 1 < v.aj.length /\ 0 < (aw v.wide v.aj.length q).2 /\ col = (aw v.wide v.aj.length q).1 + (aw v.wide v.aj.length q).2)) /\ ((v.aj.length : Int) - (y + 1)).toNat < ((v.aj.length : Int) - y).toNat := fun hn => by
    refine ⟨by simp only [inK]; omega, ⟨hw1.ext hu3, by omega, fun q hq' => ?_⟩, by omega⟩
    rcases (by omega : q < y.toNat \/ q = y.toNat) with h | rfl
    ·exact hq1 q h
    ·rw [ey]; exact fun hh => hn hh.2
   refine ⟨fun c1 => ⟨by simp only [inK]; omega, fun c2 => (wj 124).mono fun e u4 ⟨he, hu4⟩ => ⟨_, _, _, _, he, ?_, (hw1.ext hu3).ext hu4⟩, fun c2 => next fun hh => c2 hh.2⟩, fun c1 => next fun hh => c1 hh.1⟩
   rw [if_pos]
   rw [xL]
   exact ⟨y.toNat, by omega, by rw [ey]; exact c1, by rw [ey]; exact c2⟩
  ·rw [if_neg]
   rw [xL]
   rintro ⟨i, i1, i2, i3⟩
   exact hq1 i (by omega) ⟨i1, i2, i3⟩
theorem DQ {u : World} {cs : List Value} {v : Vw} (h : VwM u cs v) (col : Int) (hc : inK .i64 col) :
  Spec Tryz.prog oD #[.agg cs.toArray, .int .i64 col] u fun e u' => e = .returned (ClV (nh v.aj v.focus col)) /\ Ext u u' := by
 apply pM
 delta oz cnd iI lq
 simp only [decide_eq_true_eq, decide_eq_false_iff_not, true_and]
 simp only [inK] at hc
 have hu : Ext u (ab (ab u hole) hole) := ((Upd.refl u).alloc _).alloc _
 obtain ⟨p, c, hp, ht⟩ := h.aj
 have hn := h.few.n
 refine ⟨_, _, _, hp, fun k x a b c d w => Ext u w /\ 0 <= x /\ x <= v.aj.length /\ k = ((v.aj.take x.toNat).flatten.length : Nat) /\ ∀ j : Nat, j < k.toNat -> col ≠ 2 * j, fun _ x _ _ _ _ _ => (v.aj.length - x).toNat, ⟨hu, Int.le_refl _, by omega, by simp, by omega⟩, ?_⟩
 rintro k x a1 a2 a3 a4 w ⟨hw, h0, h1, hk, hj⟩
 refine ⟨fun hx => ?_, fun hx => (wj 32).mono fun e u4 ⟨he, hu4⟩ => ⟨_, _, _, _, he, ?_, hw.ext hu4⟩⟩
 ·obtain ⟨b, o, q', c', hp', hr, hnum⟩ := (ht.ext hw).at (i := x.toNat) (by omega)
  have hcl := h.few.getD x.toNat
  have hfl := h.few.flat x.toNat (by omega)
  have hm : x.toNat * 1048576 <= 1048576 * 1048576 := Nat.mul_le_mul_right _ (by omega)
  refine ⟨b, o, hp', h0, hx, _, _, _, rfl, hr, fun k1 y a b c d w1 => Ext u w1 /\ Ext w w1 /\ 0 <= y /\ y <= (v.aj.getD x.toNat []).length /\ k1 = k + y /\ ∀ j : Nat, j < k1.toNat -> col ≠ 2 * j, fun _ y _ _ _ _ _ => ((v.aj.getD x.toNat []).length - y).toNat, ⟨hw, Upd.refl _, Int.le_refl _, by omega, by omega, hj⟩, ?_⟩
  rintro k1 y b1 b2 b3 b4 w1 ⟨hw1, hww, y0, y1, hk1, hj1⟩
  refine ⟨fun hy => ?_, fun hy => ⟨by simp only [inK]; omega, ⟨hw1, by omega, by omega, ?_, hj1⟩, by first | omega | (dsimp only; omega)⟩⟩
  ·obtain ⟨b5, o5, hp5, hr5⟩ := (hnum.ext hww).at (i := y.toNat) (by omega)
   have fa := G5 (t := v.aj) (x := x.toNat) (y := y.toNat) (by omega) (by omega)
   generalize (v.aj.getD x.toNat []).getD y.toNat 0 = z at hr5 fa
   refine ⟨b5, o5, hp5, y0, hy, _, rfl, hr5, by simp only [inK]; omega, fun heq => ⟨by simp only [inK]; omega, _, h.focus, ?_, hw1⟩, fun hne => ⟨by simp only [inK]; omega, by simp only [inK]; omega, ⟨hw1, hww, by omega, by omega, by omega, fun j hj' => ?_⟩, by first | omega | (dsimp only; omega)⟩⟩
   ·have e : (col / 2).toNat = (v.aj.take x.toNat).flatten.length + y.toNat := by omega
    unfold nh
    rw [if_pos ⟨by omega, by omega, by rw [e]; exact fa.2⟩, e, fa.1]
   ·rcases (by omega : j < k1.toNat \/ j = k1.toNat) with h | rfl
    ·exact hj1 j h
    ·omega
  ·have hfl : (v.aj.take (x + 1).toNat).flatten = (v.aj.take x.toNat).flatten ++ v.aj.getD x.toNat [] := by
    rw [show (x + 1).toNat = x.toNat + 1 by omega, bN v.aj [] (by omega), List.flatten_append]
    simp
   rw [hfl, List.length_append]
   omega
 ·rw [List.take_of_length_le (by omega)] at hk
  unfold nh
  rw [if_neg]
  rintro ⟨c1, c2, c3⟩
  exact hj (col / 2).toNat (by omega) (by omega)
theorem xW {u : World} {cs : List Value} {v : Vw} (h : VwM u cs v) (wide high : Int) :
  Spec Tryz.prog nU #[.agg cs.toArray, .int .i64 wide, .int .i64 high] u (rU u (aX v wide high)) := by
 apply pJ
 delta oa Bc Au zE AM wL nN nE cnd iI lq
 simp only [decide_eq_true_eq, decide_eq_false_iff_not, true_and]
 have hu : Ext u (ab (ab u hole) hole) := ((Upd.refl u).alloc _).alloc _
 refine (lP wide high).mono fun e u1 ⟨⟨b, he, ho, hb⟩, hu1⟩ => ⟨_, _, _, _, _, _, _, _, _, _, _, he, ?_⟩
 have hg := dr wide high
 have hcl := kV hg
 have hw1 := hg.w1
 have hw2 := hg.w2
 have hh1 := hg.h1
 have hh2 := hg.h2
 have hscr : aX v wide high = ⟨(aO wide high).wide, (aO wide high).high, df v (aO wide high).wide.toNat (aO wide high).high.toNat, (cx v (aO wide high).wide (aO wide high).high).1, (cx v (aO wide high).wide (aO wide high).high).2, 0, false, 0, (aO wide high).high⟩ := rfl
 have hrest : (aO wide high).row = 0 /\ (aO wide high).col = 0 /\ (aO wide high).ink = 0 /\ (aO wide high).bold = false /\ (aO wide high).top = 0 /\ (aO wide high).aA = (aO wide high).high := ⟨rfl, rfl, rfl, rfl, rfl, rfl⟩
 rw [hscr]
 generalize aO wide high = g at hg hcl hw1 hw2 hh1 hh2 ho he hrest
 have hsl := xu v g.wide.toNat g.high.toNat
 have hsl2 : (df v g.wide.toNat g.high.toNat).length = g.cells.length := by rw [hsl, hcl, Nat.mul_comm]
 have hscg := fun (r c : Nat) hc hr => ER v (w := g.wide.toNat) (h := g.high.toNat) (r := r) (c := c) hc hr
 generalize hC : df v g.wide.toNat g.high.toNat = C at hsl2 hscg
 have x1 := hu.ext hu1
 have hb0 : u.heap.size <= b := by have := hu.size; omega
 have S0 : oI u C b g.cells.length 0 (ab u1 hole) := ⟨⟨g.cells, ho.ext ((Upd.refl _).alloc _), hsl2.symm, by omega⟩, x1.alloc _, hb0⟩
 have hfew := aK hg
 obtain ⟨q1, q2, q3, q4, q5, q6⟩ := hrest
 refine ⟨fun r w => 0 <= r /\ r <= g.high /\ oI u C b g.cells.length (r.toNat * g.wide.toNat) w, fun r _ => (g.high - r).toNat, ⟨Int.le_refl _, by omega, by simpa using S0⟩, ?_⟩
 rintro r w ⟨r0, r1, S⟩
 refine ⟨fun hr => ?_, fun hr => ?_⟩
 ·have f0 := aB hg r0 r1
  have f1 := aB hg (r := r + 1) (by omega) (by omega)
  rw [bQ] at f1
  have f2 : (r + 1).toNat * g.wide.toNat = r.toNat * g.wide.toNat + g.wide.toNat := by rw [show (r + 1).toNat = r.toNat + 1 by omega, Nat.add_mul, Nat.one_mul]
  refine ⟨fun c w => 0 <= c /\ c <= g.wide /\ oI u C b g.cells.length (r.toNat * g.wide.toNat + c.toNat) w, fun c _ => (g.wide - c).toNat, ⟨Int.le_refl _, by omega, by simpa using S⟩, ?_⟩
  rintro c w' ⟨c0, c1, S'⟩
  refine ⟨fun hc => ?_, fun hc => ⟨by simp only [inK]; omega, ⟨by omega, by omega, ?_⟩, by first | omega | (dsimp only; omega)⟩⟩
  ·have hd : Ext w' (af w') := (Upd.refl _).drew
   have ev := h.ext (S'.ext.ext hd)
   have hidx : (r * g.wide + c).toNat = r.toNat * g.wide.toNat + c.toNat := by omega
   have hcg := hscg r.toNat c.toNat (by omega) (by omega)
   rw [show ((r.toNat : Nat) : Int) = r by omega, show ((c.toNat : Nat) : Int) = c by omega] at hcg
   have put : ∀ {k : Cl} {w2 : World}, Ext (af w') w2 -> k = cg C (r.toNat * g.wide.toNat + c.toNat) -> ∃ b1 o1, some (Addr.mk b 0 none) = some ⟨b1, o1, none⟩ /\ 0 <= r * g.wide + c /\ r * g.wide + c < ((g.cells.length : Nat) : Int) /\ 4 = ([.int .i64 k.ch, .int .i64 k.ink, .int .i64 k.pic, .bool k.bold] : List Value).length /\
     Wr w2 b1 (o1 + (r * g.wide + c).toNat * 4) 4 /\ inK .i64 (c + 1) /\ (0 <= c + 1 /\ c + 1 <= g.wide /\ oI u C b g.cells.length (r.toNat * g.wide.toNat + (c + 1).toNat) (ae w2 b1 (o1 + (r * g.wide + c).toNat * 4) [.int .i64 k.ch, .int .i64 k.ink, .int .i64 k.pic, .bool k.bold])) /\ (g.wide - (c + 1)).toNat < (g.wide - c).toNat := fun {k w2} hw2' hk => by
    have st := (S'.ext' (hd.ext hw2')).store (o := 0 + (r * g.wide + c).toNat * 4) (k := k) (by omega) (by omega) hk
    rw [show r.toNat * g.wide.toNat + c.toNat + 1 = r.toNat * g.wide.toNat + (c + 1).toNat by omega] at st
    exact ⟨b, 0, rfl, by omega, by omega, rfl, st.1, by simp only [inK]; omega, ⟨by omega, by omega, st.2⟩, by omega⟩
   refine ⟨by simp only [inK]; omega, fun hl => ⟨by simp only [inK]; omega, by simp only [inK]; omega, h.whole, (DQ ev c (by simp only [inK]; omega)).mono fun e u3 ⟨he, hu3⟩ => ⟨_, _, _, _, he, put hu3 ?_⟩⟩, fun hl => ⟨by simp only [inK]; omega, by simp only [inK]; omega, h.whole, (F2 ev r c (by simp only [inK]; omega) (by simp only [inK]; omega)).mono fun e u3 ⟨he, hu3⟩ => ⟨_, _, _, _, he, put hu3 ?_⟩⟩⟩
   ·rw [hcg, if_pos (by omega)]
   ·rw [hcg, if_neg (by omega)]
  ·rw [f2, show g.wide.toNat = c.toNat by omega]
   rw [show g.wide.toNat = c.toNat by omega] at S'
   exact S'
 ·have hfin : r.toNat * g.wide.toNat = C.length := by rw [hsl2, hcl, show r.toNat = g.high.toNat by omega]
  have O := S.done hfin
  have xw := S.ext
  have same : ∀ {w' : World}, Ext w w' -> (cx v g.wide g.high = (0, 0)) -> rU u ⟨g.wide, g.high, C, (cx v g.wide g.high).1, (cx v g.wide g.high).2, 0, false, 0, g.high⟩ (.returned (.agg #[.int .i64 g.wide, .int .i64 g.high, .slice (some ⟨b, 0, none⟩) g.cells.length g.cells.length, .int .i64 g.row, .int .i64 g.col, .int .i64 g.ink, .bool g.bold, .int .i64 g.top, .int .i64 g.aA])) w' := fun hw' hz => by
   rw [hz, q1, q2, q3, q4, q5, q6, <- hsl2]
   rw [<- hsl2] at O
   exact ⟨⟨b, rfl, O.ext hw', hb0⟩, xw.ext hw'⟩
  refine ⟨_, h.focus, fun h1 => same (Upd.refl _) (by unfold cx; rw [if_pos (.inl h1)]), fun h1 => ⟨_, h.focus, fun h2 => same (Upd.refl _) (by unfold cx; rw [if_pos (.inr h2)]), fun h2 => ?_⟩⟩
  obtain ⟨p, c, hp, ht⟩ := h.aj
  obtain ⟨gp, gc, hgr, hgc, hgl, hgrow, hgcol⟩ := h.qz v.focus.toNat (by omega)
  simp only [inK] at hgrow hgcol
  have sm := vf v.aj v.wide v.high v.focus
  have hcur : cx v g.wide g.high = if 0 < (whereT v.aj v.wide v.high v.focus).wide then (max 0 (min ((whereT v.aj v.wide v.high v.focus).row + min (v.aG.getD v.focus.toNat .zero).row ((whereT v.aj v.wide v.high v.focus).high - 1)) (g.high - 1)), max 0 (min ((whereT v.aj v.wide v.high v.focus).col + min (v.aG.getD v.focus.toNat .zero).col ((whereT v.aj v.wide v.high v.focus).wide - 1)) (g.wide - 1))) else (0, 0) := by
   unfold cx
   rw [if_neg (by omega)]
  have fin : ∀ {w' : World}, Ext w w' -> (0 < (whereT v.aj v.wide v.high v.focus).wide -> inK .i64 ((whereT v.aj v.wide v.high v.focus).high - 1) /\ inK .i64 ((whereT v.aj v.wide v.high v.focus).row + min (v.aG.getD v.focus.toNat .zero).row ((whereT v.aj v.wide v.high v.focus).high - 1)) /\ inK .i64 (g.high - 1) /\
    inK .i64 ((whereT v.aj v.wide v.high v.focus).wide - 1) /\ inK .i64 ((whereT v.aj v.wide v.high v.focus).col + min (v.aG.getD v.focus.toNat .zero).col ((whereT v.aj v.wide v.high v.focus).wide - 1)) /\ inK .i64 (g.wide - 1) /\
    rU u ⟨g.wide, g.high, C, (cx v g.wide g.high).1, (cx v g.wide g.high).2, 0, false, 0, g.high⟩ (.returned (.agg #[.int .i64 g.wide, .int .i64 g.high, .slice (some ⟨b, 0, none⟩) g.cells.length g.cells.length, .int .i64 (max 0 (min ((whereT v.aj v.wide v.high v.focus).row + min (v.aG.getD v.focus.toNat .zero).row ((whereT v.aj v.wide v.high v.focus).high - 1)) (g.high - 1))), .int .i64 (max 0 (min ((whereT v.aj v.wide v.high v.focus).col + min (v.aG.getD v.focus.toNat .zero).col ((whereT v.aj v.wide v.high v.focus).wide - 1)) (g.wide - 1))), .int .i64 g.ink, .bool g.bold, .int .i64 g.top, .int .i64 g.aA])) w') /\
    (¬ 0 < (whereT v.aj v.wide v.high v.focus).wide -> rU u ⟨g.wide, g.high, C, (cx v g.wide g.high).1, (cx v g.wide g.high).2, 0, false, 0, g.high⟩ (.returned (.agg #[.int .i64 g.wide, .int .i64 g.high, .slice (some ⟨b, 0, none⟩) g.cells.length g.cells.length, .int .i64 g.row, .int .i64 g.col, .int .i64 g.ink, .bool g.bold, .int .i64 g.top, .int .i64 g.aA])) w') := fun {w'} hw' => by
   refine ⟨fun hp => ⟨by simp only [inK]; omega, by simp only [inK]; omega, by simp only [inK]; omega, by simp only [inK]; omega, by simp only [inK]; omega, by simp only [inK]; omega, ?_⟩, fun hp => same hw' (by rw [hcur, if_neg hp])⟩
   rw [hcur, if_pos hp, q3, q4, q5, q6, <- hsl2]
   rw [<- hsl2] at O
   exact ⟨⟨b, rfl, O.ext hw', hb0⟩, xw.ext hw'⟩
  have d0 : Ext w (af w) := (Upd.refl w).drew
  have d1 : Ext w (ab (af w) hole) := d0.alloc _
  have d2 : Ext w (ab (ab (af w) hole) hole) := d1.alloc _
  refine ⟨_, _, _, hp, _, h.wide, _, h.high, _, h.focus, _, h.focus, by omega, by omega, _, _, _, _, _, _, _, _, _, _, _, hgr, ?_⟩
  refine ⟨(js (ht.ext (xw.ext d0)) c _ _ _ (h.few.le (by decide))).mono fun e u3 ⟨he, hu3⟩ => ⟨_, _, _, _, he, ⟨fin (((d0.ext hu3).alloc _).alloc _), fin (((d0.ext hu3).alloc _).alloc _)⟩⟩, ⟨?_, ?_⟩, ⟨?_, ?_⟩⟩
  ·exact (js (ht.ext (xw.ext d1)) c _ _ _ (h.few.le (by decide))).mono fun e u3 ⟨he, hu3⟩ => ⟨_, _, _, _, he, fin ((d1.ext hu3).alloc _)⟩
  ·exact (js (ht.ext (xw.ext d2)) c _ _ _ (h.few.le (by decide))).mono fun e u3 ⟨he, hu3⟩ => ⟨_, _, _, _, he, fin (d2.ext hu3)⟩
  ·exact (js (ht.ext (xw.ext d1)) c _ _ _ (h.few.le (by decide))).mono fun e u3 ⟨he, hu3⟩ => ⟨_, _, _, _, he, fin ((d1.ext hu3).alloc _)⟩
  ·exact (js (ht.ext (xw.ext d2)) c _ _ _ (h.few.le (by decide))).mono fun e u3 ⟨he, hu3⟩ => ⟨_, _, _, _, he, fin (d2.ext hu3)⟩
end Go.Proofs.YtkmmphkjmamckacGreatDoor
