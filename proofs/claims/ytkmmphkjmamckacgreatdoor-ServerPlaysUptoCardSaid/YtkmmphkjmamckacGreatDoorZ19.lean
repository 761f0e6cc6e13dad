/- Texts joined: TSplit, ZS. -/
import Derived.Test.YtkmmphkjmamckacGreatDoorZ18
import Derived.Test.YtkmmphkjmamckacGreatDoorZ03
namespace Go.Proofs.YtkmmphkjmamckacGreatDoor
open Go
set_option linter.all false
def TlF (u : World) (ok : Nat -> Prop) (p : Option Addr) (t : aD) : Prop := ∃ ls, Arr u 1 p t.length ls /\ cH u ok ls t /\ ∀ k, At p k -> ok k
theorem TlF.tl {u : World} {ok : Nat -> Prop} {p : Option Addr} {t : aD} (h : TlF u ok p t) : Tl u p t := by
 obtain ⟨ls, h1, h2, _⟩ := h
 exact ⟨ls, h1, cH.upd (S := fun _ => False) (Upd.refl u) (fun _ _ => ⟨fun h => h, trivial⟩) h2⟩
theorem TlF.mono {u : World} {ok ok' : Nat -> Prop} {p : Option Addr} {t : aD} (h : TlF u ok p t) (hk : ∀ k, ok k -> ok' k) : TlF u ok' p t := by
 obtain ⟨ls, h1, h2, h3⟩ := h
 exact ⟨ls, h1, cH.upd (S := fun _ => False) (Upd.refl u) (fun _ hk1 => ⟨fun h => h, hk _ hk1⟩) h2, fun k hk1 => hk k (h3 k hk1)⟩
def HT (u : World) (ok : Nat -> Prop) (v : Value) (l : List Int) : Prop := ∃ q c, v = .slice q l.length c /\ bY u q l.length l /\ ∀ k, At q k -> ok k
def ColsW (u : World) (ok : Nat -> Prop) : List Value -> aD -> Prop
 | [], [] => True
 | v :: vs, l :: ls => HT u ok v l /\ ColsW u ok vs ls
 | _, _ => False
section
variable {u u' : World} {ok : Nat -> Prop}
theorem ColsW.len : ∀ {vs : List Value} {ls : aD}, ColsW u ok vs ls -> vs.length = ls.length
 | [], [], _ => rfl
 | _ :: _, _ :: _, h => by simp only [List.length_cons, ColsW.len h.2]
theorem ColsW.take : ∀ {vs : List Value} {ls : aD} (i : Nat), ColsW u ok vs ls -> ColsW u ok (vs.take i) (ls.take i)
 | [], [], _, _ => by simp [ColsW]
 | _ :: _, _ :: _, 0, _ => by simp [ColsW]
 | _ :: _, _ :: _, i + 1, h => ⟨h.1, ColsW.take i h.2⟩
theorem ColsW.drop : ∀ {vs : List Value} {ls : aD} (i : Nat), ColsW u ok vs ls -> ColsW u ok (vs.drop i) (ls.drop i)
 | [], [], _, _ => by simp [ColsW]
 | _ :: _, _ :: _, 0, h => h
 | _ :: _, _ :: _, i + 1, h => ColsW.drop i h.2
theorem ColsW.append : ∀ {vs : List Value} {ls : aD} {ws : List Value} {ms : aD}, ColsW u ok vs ls -> ColsW u ok ws ms -> ColsW u ok (vs ++ ws) (ls ++ ms)
 | [], [], _, _, _, h => h
 | _ :: _, _ :: _, _, _, h, k => ⟨h.1, ColsW.append h.2 k⟩
theorem ColsW.Bw : ∀ (t : aD) (f : Nat -> Value), (∀ i : Nat, i < t.length -> HT u ok (f i) (t.getD i [])) -> ColsW u ok ((List.range t.length).map f) t
 | [], _, _ => by simp [ColsW]
 | l :: t, f, h => by
  rw [List.length_cons, List.range_succ_eq_map, List.map_cons, List.map_map]
  refine ⟨by simpa using h 0 (by simp), ColsW.Bw t (f ∘ Nat.succ) fun i hi => ?_⟩
  have := h (i + 1) (by simp; omega)
  simpa using this
theorem ColsW.aj : ∀ {vs : List Value} {ls : aD}, ColsW u ok vs ls -> cH u ok (vs.map fun v => [v]) ls
 | [], [], _ => trivial
 | _ :: _, _ :: _, h => ⟨by
  obtain ⟨q, c, h1, h2, h3⟩ := h.1
  exact ⟨q, c, by rw [h1], h2, h3⟩, ColsW.aj h.2⟩
theorem CN : ∀ vs : List Value, (vs.map fun v => [v]).flatten = vs
 | [] => rfl
 | v :: vs => by rw [List.map_cons, List.flatten_cons, CN vs]; rfl
theorem ColsW.tlF {p : Option Addr} {vs : List Value} {t : aD} (h : ColsW u ok vs t) (hp : Gets u p vs) (hk : ∀ k, At p k -> ok k) : TlF u ok p t :=
 ⟨vs.map fun v => [v], ⟨by rw [CN]; exact hp, by rw [List.length_map]; exact h.len, fun y hy => by obtain ⟨v, _, rfl⟩ := List.mem_map.1 hy; rfl⟩, h.aj, hk⟩
end
abbrev nm (t : aD) (bf cf : Nat -> Nat) (i : Nat) : Value := .slice (some ⟨bf i, 0, none⟩) (t.getD i []).length (cf i)
structure yK (u0 u : World) (b c : Nat) (t : aD) (bf cf : Nat -> Nat) : Prop where
 own : Own u 1 (some ⟨b, 0, none⟩) t.length c ((List.range t.length).map (nm t bf cf))
 col : ∀ i : Nat, i < t.length -> Own u 1 (some ⟨bf i, 0, none⟩) (t.getD i []).length (cf i) (bg (t.getD i []))
 Ij : ∀ i j : Nat, i < t.length -> j < t.length -> bf i = bf j -> i = j
 out : ∀ i : Nat, i < t.length -> bf i ≠ b /\ u0.heap.size <= bf i
 new : u0.heap.size <= b
theorem yK.aj {u0 u : World} {b c : Nat} {t : aD} {bf cf : Nat -> Nat} (h : yK u0 u b c t bf cf) : ColsW u (fun k => u0.heap.size <= k) ((List.range t.length).map (nm t bf cf)) t :=
 ColsW.Bw t _ fun i hi => ⟨_, _, rfl, (h.col i hi).iG, fun k hk => by have := ar hk; simp only at this; rw [this]; exact (h.out i hi).2⟩
theorem yK.ext {u0 u u' : World} {b c : Nat} {t : aD} {bf cf : Nat -> Nat} (h : yK u0 u b c t bf cf) (hu : Ext u u') : yK u0 u' b c t bf cf :=
 ⟨h.own.ext hu, fun i hi => (h.col i hi).ext hu, h.Ij, h.out, h.new⟩
theorem yK.rd {u0 u : World} {b c : Nat} {t : aD} {bf cf : Nat -> Nat} (h : yK u0 u b c t bf cf) {i : Nat} (hi : i < t.length) : Rd u b (0 + i * 1) [nm t bf cf i] := by
 obtain ⟨_, hr⟩ := h.own.aH
 have e : (List.range t.length).map (nm t bf cf) = ((List.range t.length).map (nm t bf cf)).take i ++ ([nm t bf cf i] ++ ((List.range t.length).map (nm t bf cf)).drop (i + 1)) := by
  conv => lhs; rw [<- List.take_append_drop i ((List.range t.length).map (nm t bf cf)), List.drop_eq_getElem_cons (by simpa using hi)]
  simp
 rw [e] at hr
 have h1 := (fw _ _ _ hr).2
 have h2 := (fw _ _ _ h1).1
 rw [List.length_take, List.length_map, List.length_range] at h2
 rwa [show 0 + min i t.length = 0 + i * 1 by omega] at h2
theorem ya {u : World} {q : Option Addr} {t : aD} (h : Tl u q t) (c : Nat) (p : Int) (hl : dO 10000000 t) :
  Spec Tryz.prog sE #[TlV q t c, .int .i64 p] u (Told u (br t p)) := by
 apply sR
 delta sA cnd iI lq
 have hu : Ext u (ab u hole) := (Upd.refl u).alloc _
 refine (wB (h.ext hu) c p hl).mono fun e u1 ⟨he, hu1⟩ => ?_
 unfold vC at he
 cases hf : findT t p with
 | none =>
  rw [hf] at he
  exact ⟨_, _, _, he, by rw [iS.1 hf], hu.ext hu1⟩
 | some x =>
  obtain ⟨i, k⟩ := x
  rw [hf] at he
  exact ⟨_, _, _, he, by rw [kQ.2 ⟨i, k, hf⟩], hu.ext hu1⟩
theorem yu {t : aD} {bf cf : Nat -> Nat} : okCells ((List.range t.length).map (nm t bf cf)) True := by
 rw [bm]
 refine ⟨fun c hc => ?_, trivial⟩
 obtain ⟨i, _, rfl⟩ := List.mem_map.1 hc
 rfl
theorem DD {u : World} {q : Option Addr} {t : aD} (h : Tl u q t) (hg : cF t) (c : Nat) :
  Spec Tryz.prog sI #[TlV q t c] u fun e u' => ∃ b c' bf cf, e = .returned (.agg #[.slice (some ⟨b, 0, none⟩) t.length c']) /\ yK u u' b c' t bf cf /\ Ext u u' := by
 apply sB
 delta ta tF tq cnd iI lq
 simp only [decide_eq_true_eq, decide_eq_false_iff_not, true_and]
 have hu : Ext u (ab (ab (ab u hole) hole) hole) := (((Upd.refl u).alloc _).alloc _).alloc _
 have hn := hg.few
 have hne : t.length ≠ 0 := fun e => hg.some (List.length_eq_zero_iff.1 e)
 refine ⟨fun x p n cap v => ∃ bf cf : Nat -> Nat, Own v 1 p n cap ((List.range x.toNat).map (nm t bf cf)) /\ (∀ i : Nat, i < x.toNat -> Own v 1 (some ⟨bf i, 0, none⟩) (t.getD i []).length (cf i) (bg (t.getD i []))) /\ (∀ i j : Nat, i < x.toNat -> j < x.toNat -> bf i = bf j -> i = j) /\
   (∀ i : Nat, i < x.toNat -> ¬ At p (bf i) /\ u.heap.size <= bf i /\ bf i < v.heap.size) /\ (∀ k, At p k -> u.heap.size <= k) /\ n = x.toNat /\ Ext u v /\ 0 <= x /\ x <= t.length, fun x _ _ _ _ => (t.length - x).toNat,
  ⟨fun _ => 0, fun _ => 0, Own.nil _ _, by omega, by omega, by omega, fun k hk => (aJ hk).elim, rfl, hu, Int.le_refl _, by omega⟩, ?_⟩
 rintro x p n cap v ⟨bf, cf, o, cl, di, ou, nw, rfl, hv, h0, h1⟩
 refine ⟨fun hx => ?_, fun hx => ?_⟩
 ·obtain ⟨b, of, q', c', hp, hr, hnum⟩ := (h.ext hv).at (i := x.toNat) (by omega)
  have hcm := hg.each _ (cA (l := t) (d := []) (i := x.toNat) (by omega))
  have hd : Ext v (af v) := (Upd.refl v).drew
  refine ⟨b, of, hp, h0, hx, _, _, _, rfl, hr, (Cd q' _ c' (hnum.ext hd) (by omega)).mono fun e w ⟨q2, c2, he, ho2, hw, hnew⟩ => ⟨_, _, _, he, ?_⟩⟩
  obtain ⟨nb, rfl⟩ := ho2.uV (by omega)
  have hnb : v.heap.size <= nb := hnew nb ⟨_, rfl, rfl⟩
  have hnl : nb < w.heap.size := (ho2.at ⟨_, rfl, rfl⟩).1
  have hvw := hd.ext hw
  have ha : Ext w (ab w (.cells #[.slice (some ⟨nb, 0, none⟩) (t.getD x.toNat []).length c2] aL)) := (Upd.refl _).alloc _
  have o' := (o.ext hvw).ext ha
  have ef : Own (ab w (.cells #[.slice (some ⟨nb, 0, none⟩) (t.getD x.toNat []).length c2] aL)) 1 _ 1 1 [.slice (some ⟨nb, 0, none⟩) (t.getD x.toNat []).length c2] := Own.fresh w (cs := [.slice (some ⟨nb, 0, none⟩) (t.getD x.toNat []).length c2]) rfl
  refine ⟨_, [.slice (some ⟨nb, 0, none⟩) (t.getD x.toNat []).length c2], o'.len, o'.aH, rfl, ef.aH, by decide, by omega, by simp [okCells], fun hc => o'.wrs (by omega), fun p' cap' w2 hr2 => ?_⟩
  obtain ⟨a1, a2, a3⟩ := o'.app hr2 o'.len o'.aH rfl rfl
  have hx1 : (x + 1).toNat = x.toNat + 1 := by omega
  have hpv : ∀ k, At p k -> k < v.heap.size := fun k hk => (o.at hk).1
  have hsz := hw.size
  have hsz0 : (af v).heap.size = v.heap.size := rfl
  have hsa := a2.size
  have hal : (ab w (.cells #[.slice (some ⟨nb, 0, none⟩) (t.getD x.toNat []).length c2] aL)).heap.size = w.heap.size + 1 := size_alloc _ _
  have hp' : ∀ k, At p' k -> At p k \/ w.heap.size < k := fun k hk => by
   rcases a3 with ⟨rfl, _⟩ | ⟨rfl, _⟩
   ·exact .inl hk
   ·right; rw [ar hk]; show w.heap.size < (ab w _).heap.size; omega
  have hvw2 : Upd (At p) v w2 := ((hvw.ext ha).any (S := At p)).trans a2 fun _ _ h => h
  refine ⟨by simp only [inK]; omega, ⟨fun i => if i = x.toNat then nb else bf i, fun i => if i = x.toNat then c2 else cf i, ?_, fun i hi => ?_, fun i j hi hj hij => ?_, fun i hi => ?_, fun k hk => ?_, by omega, ?_, by omega, by omega⟩, by first | omega | (dsimp only; omega)⟩
  ·rw [hx1, List.range_succ, List.map_append, List.map_singleton]
   have e1 : (List.range x.toNat).map (nm t (fun i => if i = x.toNat then nb else bf i) fun i => if i = x.toNat then c2 else cf i) = (List.range x.toNat).map (nm t bf cf) := by
    refine List.map_congr_left fun i hi => ?_
    have : i ≠ x.toNat := by have := List.mem_range.1 hi; omega
    simp only [nm, if_neg this]
   rw [e1]
   simp only [nm, if_true]
   exact a1
  ·rw [hx1] at hi
   by_cases e : i = x.toNat
   ·subst e
    simp only [if_true]
    exact ((ho2.ext ha).upd a2 fun k hk hat => by have := hpv k hat; have := ar hk; simp only at this; omega)
   ·simp only [if_neg e]
    exact (cl i (by omega)).upd hvw2 fun k hk hat => by
     have := ar hk
     simp only at this
     subst this
     exact (ou i (by omega)).1 hat
  ·rw [hx1] at hi hj
   have hb := fun i (hi : i < x.toNat) => (ou i hi).2.2
   by_cases e : i = x.toNat <;> by_cases e2 : j = x.toNat
   ·omega
   ·simp only [e, if_true, if_neg e2] at hij
    have := hb j (by omega)
    omega
   ·simp only [e2, if_true, if_neg e] at hij
    have := hb i (by omega)
    omega
   ·simp only [if_neg e, if_neg e2] at hij
    exact di i j (by omega) (by omega) hij
  ·rw [hx1] at hi
   by_cases e : i = x.toNat
   ·simp only [if_pos e]
    refine ⟨fun hat => ?_, by have := hv.size; omega, by omega⟩
    rcases hp' _ hat with h | h
    ·have := hpv _ h; omega
    ·omega
   ·simp only [if_neg e]
    obtain ⟨g1, g2, g3⟩ := ou i (by omega)
    refine ⟨fun hat => ?_, g2, by omega⟩
    rcases hp' _ hat with h | h
    ·exact g1 h
    ·omega
  ·rcases hp' k hk with h | h
   ·exact nw k h
   ·have := hv.size; omega
  ·exact (hv.trans hvw2 fun k hk hat => by have := nw k hat; omega).mono fun _ _ h => h
 ·have hxn : x.toNat = t.length := by omega
  rw [hxn] at o cl di ou ⊢
  obtain ⟨b, rfl⟩ := o.uV (by omega)
  exact ⟨b, cap, bf, cf, rfl, ⟨o, cl, di, fun i hi => ⟨fun e => (ou i hi).1 ⟨_, rfl, e.symm⟩, (ou i hi).2.1⟩, nw b ⟨_, rfl, rfl⟩⟩, hv⟩
structure nX (u : World) (r : aD × Int) (e : Ending) (u' : World) : Prop where
 ex : ∃ p c, e = .returned (.tuple #[TlV p r.1 c, .int .i64 r.2]) /\ Tl u' p r.1 /\ (r.2 = 0 -> TlF u' (fun k => u.heap.size <= k) p r.1)
 ext : Ext u u'
theorem nX.same {u u' : World} {t : aD} {q : Option Addr} {n : Int} (hn : n ≠ 0) (h : Tl u q t) (c : Nat) (hu : Ext u u') : nX u (t, n) (.returned (.tuple #[TlV q t c, .int .i64 n])) u' := ⟨⟨q, c, rfl, h.ext hu, fun h => (hn h).elim⟩, hu⟩
theorem Fk {t : aD} {f g : Nat -> Value} {i : Nat} (hi : i < t.length) (hfg : ∀ j, j ≠ i -> f j = g j) : ((List.range t.length).map f).take i ++ [g i] ++ ((List.range t.length).map f).drop (i + 1) = (List.range t.length).map g := by
 have e : ((List.range t.length).map f).set i (g i) = (List.range t.length).map g := by
  refine List.ext_getElem (by simp) fun j h1 h2 => ?_
  rw [List.getElem_set]
  split
  ·next e => subst e; simp
  ·next e => simp [hfg j (fun h => e h.symm)]
 rw [<- e, ud (by simpa using hi)]
 simp
theorem yK.store {u0 u v : World} {b c : Nat} {t : aD} {bf cf : Nat -> Nat} (h : yK u0 u b c t bf cf) {i : Nat} (hi : i < t.length) {p' : Option Addr} {c' : Nat} {l : List Int} (ho : bY v p' l.length l) (hu : Upd (At (some ⟨bf i, 0, none⟩)) u v) (hk : ∀ k, At p' k -> k ≠ b /\ u0.heap.size <= k) :
  Wr v b (0 + i * 1) 1 /\ ∃ vs, (∀ w, Upd (At (some ⟨b, 0, none⟩)) (ae v b (0 + i * 1) [.slice p' l.length c']) w -> ColsW w (fun k => u0.heap.size <= k) vs (t.set i l)) /\ Own (ae v b (0 + i * 1) [.slice p' l.length c']) 1 (some ⟨b, 0, none⟩) t.length c vs /\ okCells vs True /\ vs[i]? = some (.slice p' l.length c') := by
 have hbi := (h.out i hi).1
 have hov : Own v 1 (some ⟨b, 0, none⟩) t.length c ((List.range t.length).map (nm t bf cf)) := h.own.upd hu fun k hk1 hk2 => by
  have := ar hk1
  have := ar hk2
  simp only at *
  omega
 refine ⟨by have := (hov.wrs (o := i) (m := 1) (by have := hov.le; omega)).2; simpa using this, (List.range t.length).map (fun j => if j = i then .slice p' l.length c' else nm t bf cf j), ?_, ?_, ?_, ?_⟩
 ·intro w hw
  have hlen : (t.set i l).length = t.length := List.length_set ..
  rw [<- hlen]
  refine ColsW.Bw _ _ fun j hj => ?_
  rw [hlen] at hj
  by_cases e : j = i
  ·subst e
   rw [if_pos rfl]
   have : (t.set j l).getD j [] = l := by simp [List.getD_eq_getElem?_getD, hj]
   rw [this]
   exact ⟨p', c', rfl, (ho.upd (aI b _ _) fun k hk1 e => (hk k hk1).1 e).upd hw fun k hk1 e => (hk k hk1).1 (ar e), fun k hk1 => (hk k hk1).2⟩
  ·rw [if_neg e]
   have : (t.set i l).getD j [] = t.getD j [] := by simp [List.getD_eq_getElem?_getD, List.getElem?_set_ne (fun h => e h.symm)]
   rw [this]
   refine ⟨_, _, rfl, ?_, fun k hk1 => by have := ar hk1; simp only at this; rw [this]; exact (h.out j hj).2⟩
   have h1 := (h.col j hj).iG
   have h2 : bY v (some ⟨bf j, 0, none⟩) (t.getD j []).length (t.getD j []) := h1.upd hu fun k hk1 hk2 => by
    have e1 := ar hk1
    have e2 := ar hk2
    simp only at e1 e2
    exact e (h.Ij j i hj hi (by rw [<- e1, <- e2]))
   exact (h2.upd (aI b _ _) fun k hk1 e3 => by
    have e1 := ar hk1
    simp only at e1
    exact (h.out j hj).1 (by rw [<- e1, e3])).upd hw fun k hk1 e3 => by
    have e1 := ar hk1
    have e4 := ar e3
    simp only at e1 e4
    exact (h.out j hj).1 (by rw [<- e1, e4])
 ·have o := hov.over (o := i) (ys := [.slice p' l.length c']) (by simp; omega)
  have hz : 0 + i * 1 = i := by omega
  rw [hz]
  have := Fk (t := t) (f := nm t bf cf) (g := fun j => if j = i then .slice p' l.length c' else nm t bf cf j) hi (fun j hj => by simp only [if_neg hj])
  simp only [if_true] at this
  rw [<- this]
  simpa using o
 ·rw [bm]
  refine ⟨fun x hx => ?_, trivial⟩
  obtain ⟨j, _, rfl⟩ := List.mem_map.1 hx
  split <;> rfl
 ·simp [hi]
theorem zh {u : World} {q : Option Addr} {t : aD} (h : Tl u q t) (c : Nat) (p n : Int) (right : Bool) (hl : dO 10000000 t) :
  Spec Tryz.prog oX #[TlV q t c, .int .i64 p, .int .i64 n, .bool right] u (nX u (aY t p n right)) := by
 apply qw
 delta pH A3 cnd iI lq
 simp only [decide_eq_true_eq, decide_eq_false_iff_not, Bool.not_eq_true', Bool.not_eq_false', true_and]
 have hu : Ext u (ab (ab u hole) hole) := ((Upd.refl u).alloc _).alloc _
 refine (wB (h.ext hu) c p hl).mono fun e u1 ⟨he, hu1⟩ => ?_
 have x1 := hu.ext hu1
 obtain ⟨a, b, f, hf, hab, he⟩ : ∃ (a b : Int) (f : Bool), (f = true ↔ findT t p ≠ none) /\ (∀ i k : Nat, findT t p = some (i, k) -> a = i /\ b = k) /\ e = .returned (.tuple #[.int .i64 a, .int .i64 b, .bool f]) := by
  unfold vC at he
  cases hff : findT t p with
  | none =>
   rw [hff] at he
   exact ⟨0, 0, false, by simp, fun i k hik => (by cases hik), he⟩
  | some z =>
   obtain ⟨i, k⟩ := z
   rw [hff] at he
   exact ⟨i, k, true, by simp, fun i' k' hik => (by cases hik; exact ⟨rfl, rfl⟩), he⟩
 refine ⟨a, b, f, he, (xG (h.ext x1) c hl).mono fun e u2 ⟨he, hu2⟩ => ⟨_, he, fun hb => ?_, fun hb => ?_⟩⟩
 ·have : aY t p n right = (t, 1) := by unfold aY; rw [if_pos (.inl hb)]
  rw [this]
  exact nX.same (by decide) h c (x1.ext hu2)
 have hg := bI.1 hb
 have x2 := x1.ext hu2
 refine (ED n).mono fun e u3 ⟨he, hu3⟩ => ⟨_, he, fun hb2 => ?_, fun hb2 => ?_⟩
 ·have : aY t p n right = (t, 1) := by unfold aY; rw [if_pos (.inr hb2)]
  rw [this]
  exact nX.same (by decide) h c (x2.ext hu3)
 have x3 := x2.ext hu3
 have hs : aY t p n right = match findT t p with
   | none => (t, 3)
   | some (i, k) =>
    if br t n = true then (t, 4)
    else if right = false /\ 3 <= (t.getD i []).length then (t, 5)
    else if right = true then (gQ t (i + 1) [n], 0)
    else (t.set i (gQ (t.getD i []) (k + 1) n), 0) := by
  unfold aY
  rw [if_neg (by rw [hb, hb2]; simp)]
  cases findT t p <;> rfl
 rw [hs]
 cases hff : findT t p with
 | none =>
  have hf0 : f = false := by
   cases f with
   | false => rfl
   | true => exact (hf.1 rfl hff).elim
  refine ⟨fun _ => nX.same (by decide) h c x3, fun hn => ?_⟩
  rw [hf0] at hn; cases hn
 | some z =>
  obtain ⟨i, k⟩ := z
  obtain ⟨rfl, rfl⟩ := hab i k hff
  have hf1 : f = true := hf.2 (by rw [hff]; simp)
  obtain ⟨hi, hk, hpk⟩ := db hff
  dsimp only
  refine ⟨fun hn => (by rw [hf1] at hn; cases hn), fun _ => (ya (h.ext x3) c n hl).mono fun e u4 ⟨he, hu4⟩ => ⟨_, he, fun hh => ?_, fun hh => ?_⟩⟩
  ·rw [if_pos hh]
   exact nX.same (by decide) h c (x3.ext hu4)
  rw [if_neg (by rw [hh]; simp)]
  have x4 := x3.ext hu4
  have hfew := hg.few
  cases right with
  | false =>
   simp only [Bool.false_eq_true, false_implies, true_implies, and_true, true_and, Bool.true_eq_false, if_false]
   obtain ⟨b0, o0, q0, c0, hp0, hr0, hn0⟩ := (h.ext x4).at (i := i) hi
   refine ⟨b0, o0, hp0, by omega, by omega, _, _, _, rfl, hr0, fun h3 => ?_, fun h3 => ?_⟩
   ·rw [if_pos (by omega)]
    exact nX.same (by decide) h c x4
   rw [if_neg (by omega)]
   refine (DD (h.ext x4) hg c).mono fun e u5 ⟨b, c', bf, cf, he, hO, hu5⟩ => ⟨_, _, _, he, ?_⟩
   have x5 := x4.ext hu5
   have hd : Ext u5 (af u5) := (Upd.refl u5).drew
   have ha : Ext (af u5) (ab (af u5) (.cells #[.int .i64 n] aF)) := (Upd.refl _).alloc _
   have O2 := (hO.ext hd).ext ha
   refine ⟨b, 0, rfl, by omega, by omega, _, _, _, rfl, (hO.ext hd).rd hi, by simp only [inK]; omega, O2.rd hi, ?_⟩
   have ef : Own (ab (af u5) (.cells #[.int .i64 n] aF)) 1 (some ⟨(af u5).heap.size, 0, none⟩) 1 1 [.int .i64 n] := Own.fresh (af u5) (cs := [.int .i64 n]) rfl
   have hbl := fun j hj => ((hO.col j hj).at ⟨_, rfl, rfl⟩).1
   have hins := Fj (O2.col i hi) (iY _) (i := k + 1) (by omega) (by omega) ef (by simp [okCells]) (fun k' hk' => by
    have e1 := ar hk'
    have := hbl i hi
    simp only at e1 this
    show k' ≠ u5.heap.size
    omega)
   have ek : ((k : Nat) : Int) + 1 = ((k + 1 : Nat) : Int) := by omega
   rw [ek]
   refine hins.mono fun e u6 ⟨⟨p6, c6, he, ho6, hk6⟩, hu6⟩ => ⟨_, _, _, he, b, 0, rfl, by omega, by omega, rfl, ?_⟩
   have hnl : gQ (t.getD i []) (k + 1) n = (t.getD i []).take (k + 1) ++ n :: (t.getD i []).drop (k + 1) := rfl
   have hnv : (bg (t.getD i [])).take (k + 1) ++ [.int .i64 n] ++ (bg (t.getD i [])).drop (k + 1) = bg (gQ (t.getD i []) (k + 1) n) := by
    rw [hnl]; simp [bg, List.map_take, List.map_drop]
   rw [hnv] at ho6
   have hlen : (t.getD i []).length + 1 = (gQ (t.getD i []) (k + 1) n).length := by
    rw [hnl]; simp; omega
   rw [hlen] at ho6 ⊢
   have hb5 : b < u5.heap.size := (hO.own.at ⟨_, rfl, rfl⟩).1
   have hs6 : (ab (af u5) (.cells #[.int .i64 n] aF)).heap.size = u5.heap.size + 1 := size_alloc _ _
   have hs54 := hu5.size
   obtain ⟨w1, vs, w2, w3, _, _⟩ := O2.store hi (c' := c6) ho6.iG hu6 (fun k' hk' => by
    rcases hk6 k' hk' with h7 | h7
    ·have e1 := ar h7
     simp only at e1
     have := hO.out i hi
     omega
    ·omega)
   have TF := (w2 _ (Upd.refl _)).tlF w3.aH fun k hk => by have := ar hk; simp only at this; rw [this]; exact hO.new
   refine ⟨w1, ⟨⟨some ⟨b, 0, none⟩, c', ?_, TF.tl, fun _ => TF.mono fun k hk => by have := x4.size; omega⟩, ?_⟩⟩
   ·show _ = Ending.returned (.tuple #[.agg #[.slice _ (t.set i _).length _], _])
    rw [List.length_set]
   ·have hnew := (hO.out i hi).2
    have hnb := hO.new
    have e6 := ((x5.ext hd).ext ha)
    have e7 : Upd (fun k => k = bf i \/ k = b) u (ae u6 b (0 + i * 1) [.slice p6 (gQ (t.getD i []) (k + 1) n).length c6]) := ((e6.any (S := fun k => k = bf i \/ k = b)).trans hu6 fun k' _ hk' => .inl (ar hk')).put (fun _ => .inr rfl) _ _
    have := x4.size
    exact ⟨e7.size, fun k' hk' _ => e7.old k' hk' (fun hh => by rcases hh with hh | hh <;> omega), e7.os, e7.output, e7.tape⟩
  | true =>
   simp only [Bool.false_eq_true, false_implies, true_implies, and_true, true_and, Bool.true_eq_false, if_false, if_true, false_and]
   refine (DD (h.ext x4) hg c).mono fun e u5 ⟨b, c', bf, cf, he, hO, hu5⟩ => ⟨_, _, _, he, ?_⟩
   have x5 := x4.ext hu5
   have ha : Ext u5 (ab u5 (.cells #[.int .i64 n] aF)) := (Upd.refl _).alloc _
   have hb' : Ext (ab u5 (.cells #[.int .i64 n] aF)) (ab (ab u5 (.cells #[.int .i64 n] aF)) (.cells #[.slice (some (Addr.mk u5.heap.size 0 none)) 1 1] aL)) := (Upd.refl _).alloc _
   have O2 := (hO.ext ha).ext hb'
   have nf : bY (ab u5 (.cells #[.int .i64 n] aF)) (some ⟨u5.heap.size, 0, none⟩) 1 [n] := (Own.fresh u5 (cs := bg [n]) (n := 1) (es := 1) rfl).iG
   have ef : Own (ab (ab u5 (.cells #[.int .i64 n] aF)) (.cells #[.slice (some (Addr.mk u5.heap.size 0 none)) 1 1] aL)) 1 (some ⟨(ab u5 (.cells #[.int .i64 n] aF)).heap.size, 0, none⟩) 1 1 [.slice (some (Addr.mk u5.heap.size 0 none)) 1 1] := Own.fresh (ab u5 (.cells #[.int .i64 n] aF)) (cs := [.slice (some (Addr.mk u5.heap.size 0 none)) 1 1]) rfl
   have hb5 : b < u5.heap.size := (hO.own.at ⟨_, rfl, rfl⟩).1
   have hs6 : (ab u5 (.cells #[.int .i64 n] aF)).heap.size = u5.heap.size + 1 := size_alloc _ _
   have hins := Dk O2.own yu (i := i + 1) (by omega) (by omega) ef (by simp [okCells]) (fun k' hk' => by
    have e1 := ar hk'
    simp only at e1
    omega)
   have ek : ((i : Nat) : Int) + 1 = ((i + 1 : Nat) : Int) := by omega
   rw [ek]
   refine ⟨by simp only [inK]; omega, hins.mono fun e u6 ⟨⟨p6, c6, he, ho6, hk6⟩, hu6⟩ => ⟨_, _, _, he, ?_⟩⟩
   have hnl : gQ t (i + 1) [n] = t.take (i + 1) ++ [[n]] ++ t.drop (i + 1) := by unfold gQ; simp
   have hlen : t.length + 1 = (gQ t (i + 1) [n]).length := by rw [hnl]; simp; omega
   have hs54 := hu5.size
   have O6 : ColsW u6 (fun k => u4.heap.size <= k) ((List.range t.length).map (nm t bf cf)) t := ColsW.Bw t _ fun j hj => ⟨_, _, rfl, (O2.col j hj).iG.upd hu6 fun k' hk1 hk2 => by
    have e1 := ar hk1
    have e2 := ar hk2
    simp only at e1 e2
    exact (hO.out j hj).1 (by rw [<- e1, e2]), fun k hk => by have := ar hk; simp only at this; rw [this]; exact (hO.out j hj).2⟩
   have N6 : HT u6 (fun k => u4.heap.size <= k) (.slice (some (Addr.mk u5.heap.size 0 none)) 1 1) [n] := ⟨_, _, rfl, (nf.ext hb').upd hu6 fun k' hk1 hk2 => by
    have e1 := ar hk1
    have e2 := ar hk2
    simp only at e1 e2
    omega, fun k hk => by have := ar hk; simp only at this; omega⟩
   have C6 := ((O6.take (i + 1)).append (ws := [.slice (some (Addr.mk u5.heap.size 0 none)) 1 1]) (ms := [[n]]) ⟨N6, trivial⟩).append (O6.drop (i + 1))
   rw [<- hnl] at C6
   have TF := C6.tlF ho6.aH fun k hk => (hk6 k hk).elim (fun h7 => by have := ar h7; simp only at this; rw [this]; exact hO.new) fun h7 => by have := hb'.size; omega
   refine ⟨⟨p6, c6, ?_, TF.tl, fun _ => TF.mono fun k hk => by have := x4.size; omega⟩, ?_⟩
   ·show _ = Ending.returned (.tuple #[.agg #[.slice _ (gQ t (i + 1) [n]).length _], _])
    rw [<- hlen]
   ·have hnb := hO.new
    have := x4.size
    exact (((x5.ext ha).ext hb').trans hu6 fun k' hk' hat => by have := ar hat; simp only at this; omega).mono fun _ _ h => h
section
variable {α : Type}
theorem eZ : ∀ (l : List α) (k n : Nat) (x : List α), x.length = n -> (∀ j, j < n -> l[k + j]? = x[j]?) -> takeN l k n = some x
 | _, _, 0, [], _, _ => by simp [takeN]
 | [], k, n + 1, y :: x, _, h => by have := h 0 (by omega); simp at this
 | a :: r, 0, n + 1, y :: x, hx, h => by
  have h0 := h 0 (by omega)
  simp only [Nat.add_zero, List.getElem?_cons_zero, Option.some.injEq] at h0
  subst h0
  have ih := eZ r 0 n x (by simpa using hx) fun j hj => by
   have := h (j + 1) (by omega)
   simpa using this
  simp [takeN, ih]
 | a :: r, k + 1, n + 1, x, hx, h => by
  have ih := eZ r k (n + 1) x hx fun j hj => by
   have := h j hj
   rw [show k + 1 + j = (k + j) + 1 by omega] at this
   simpa using this
  simp [takeN, ih]
theorem cQ : ∀ (l : List α) (k n : Nat) (x : List α), takeN l k n = some x -> x.length = n /\ ∀ j, j < n -> l[k + j]? = x[j]?
 | _, _, 0, x, h => by
  simp only [takeN, Option.some.injEq] at h
  subst h
  exact ⟨rfl, fun j hj => by omega⟩
 | [], k, n + 1, x, h => by simp [takeN] at h
 | a :: r, 0, n + 1, x, h => by
  simp only [takeN] at h
  cases hr : takeN r 0 n with
  | none => rw [hr] at h; cases h
  | some y =>
   rw [hr] at h
   simp only [Option.some.injEq] at h
   subst h
   have ih := cQ r 0 n y hr
   refine ⟨by simp [ih.1], fun j hj => ?_⟩
   cases j with
   | zero => simp
   | succ j =>
    have := ih.2 j (by omega)
    simpa using this
 | a :: r, k + 1, n + 1, x, h => by
  simp only [takeN] at h
  have ih := cQ r k (n + 1) x h
  refine ⟨ih.1, fun j hj => ?_⟩
  have := ih.2 j hj
  rw [show k + 1 + j = (k + j) + 1 by omega]
  simpa using this
theorem kF : ∀ (l : List α) (o : Nat) (ys r : List α), putN l o ys = some r -> r.length = l.length /\ o + ys.length <= max l.length o /\ ∀ i, r[i]? = if o <= i /\ i < o + ys.length then ys[i - o]? else l[i]?
 | l, o, [], r, h => by
  have : putN l o [] = some l := by cases l <;> simp [putN]
  rw [this] at h
  simp only [Option.some.injEq] at h
  subst h
  refine ⟨rfl, by simp only [List.length_nil]; omega, fun i => ?_⟩
  rw [if_neg (by simp only [List.length_nil]; omega)]
 | [], o, y :: ys, r, h => by simp [putN] at h
 | a :: l, 0, y :: ys, r, h => by
  simp only [putN] at h
  cases hr : putN l 0 ys with
  | none => rw [hr] at h; cases h
  | some z =>
   rw [hr] at h
   simp only [Option.some.injEq] at h
   subst h
   have ih := kF l 0 ys z hr
   refine ⟨by simp [ih.1], by have := ih.2.1; simp; omega, fun i => ?_⟩
   cases i with
   | zero => simp
   | succ i =>
    have := ih.2.2 i
    simp only [Nat.zero_le, true_and, Nat.zero_add, Nat.sub_zero, List.getElem?_cons_succ, List.length_cons, Nat.add_lt_add_iff_right] at this ⊢
    exact this
 | a :: l, o + 1, y :: ys, r, h => by
  simp only [putN] at h
  cases hr : putN l o (y :: ys) with
  | none => rw [hr] at h; cases h
  | some z =>
   rw [hr] at h
   simp only [Option.some.injEq] at h
   subst h
   have ih := kF l o (y :: ys) z hr
   refine ⟨by simp [ih.1], by have := ih.2.1; simp at this ⊢; omega, fun i => ?_⟩
   cases i with
   | zero => rw [if_neg (by omega)]; simp
   | succ i =>
    have := ih.2.2 i
    simp only [List.getElem?_cons_succ] at this ⊢
    rw [this]
    by_cases hi : o <= i /\ i < o + (y :: ys).length
    ·rw [if_pos hi, if_pos (by omega), show i + 1 - (o + 1) = i - o by omega]
    ·rw [if_neg hi, if_neg (by omega)]
theorem qq : ∀ (l : List α) (o : Nat) (ys : List α), o + ys.length <= l.length -> ∃ r, putN l o ys = some r
 | l, o, [], _ => ⟨l, by cases l <;> simp [putN]⟩
 | [], o, y :: ys, h => by simp at h
 | a :: l, 0, y :: ys, h => by
  obtain ⟨r, hr⟩ := qq l 0 ys (by simp at h ⊢; omega)
  exact ⟨y :: r, by simp only [putN, hr]⟩
 | a :: l, o + 1, y :: ys, h => by
  obtain ⟨r, hr⟩ := qq l o (y :: ys) (by simp at h ⊢; omega)
  exact ⟨a :: r, by simp only [putN, hr]⟩
theorem bP {x ys : List α} (h : x.length = ys.length) : putN x 0 ys = some ys := by
 obtain ⟨r, hr⟩ := qq x 0 ys (by omega)
 rw [hr]
 obtain ⟨h1, _, h2⟩ := kF x 0 ys r hr
 congr 1
 refine List.ext_getElem? fun i => ?_
 rw [h2 i]
 split
 ·rfl
 ·next hn => rw [List.getElem?_eq_none (by omega), List.getElem?_eq_none (by omega)]
structure HF (cs : List α) (o : Nat) (ys cs' : List α) : Prop where
 put : putN cs o ys = some cs'
 len : cs'.length = cs.length
 off : ∀ {a n x}, a + n <= o \/ o + ys.length <= a -> takeN cs a n = some x -> takeN cs' a n = some x
 on : ∀ {A n x x'}, takeN cs A n = some x -> A <= o -> o + ys.length <= A + n -> putN x (o - A) ys = some x' -> takeN cs' A n = some x'
theorem cZ {cs ys : List α} {o : Nat} (h : o + ys.length <= cs.length) : ∃ cs', HF cs o ys cs' := by
 obtain ⟨cs', hp⟩ := qq cs o ys h
 obtain ⟨h1, _, h2⟩ := kF cs o ys cs' hp
 refine ⟨cs', hp, h1, fun {a n x} hd hx => ?_, fun {A n x x'} hx hA hn hp' => ?_⟩
 ·obtain ⟨k1, k2⟩ := cQ _ _ _ _ hx
  refine eZ _ _ _ _ k1 fun j hj => ?_
  rw [h2, if_neg (by omega)]
  exact k2 j hj
 ·obtain ⟨k1, k2⟩ := cQ _ _ _ _ hx
  obtain ⟨m1, _, m2⟩ := kF _ _ _ _ hp'
  refine eZ _ _ _ _ (by omega) fun j hj => ?_
  rw [h2, m2]
  by_cases hj2 : o <= A + j /\ A + j < o + ys.length
  ·rw [if_pos hj2, if_pos (by omega), show A + j - o = j - (o - A) by omega]
  ·rw [if_neg hj2, if_neg (by omega)]
   exact k2 j hj
theorem ua {cs x y : List α} {A n j m : Nat} (h : takeN cs A n = some x) (hy : takeN x j m = some y) (hjm : j + m <= n) : takeN cs (A + j) m = some y := by
 obtain ⟨k1, k2⟩ := cQ _ _ _ _ h
 obtain ⟨m1, m2⟩ := cQ _ _ _ _ hy
 refine eZ _ _ _ _ m1 fun i hi => ?_
 rw [<- m2 i hi, Nat.add_assoc, k2 (j + i) (by omega)]
end
structure HX (u : World) (ok : Nat -> Prop) (g : Gr) (x : List Value) : Prop where
 ex : ∃ p c, x = grV g p g.cells.length c /\ Cells u p g.cells /\ (0 < g.cells.length -> ∀ k, At p k -> ok k) /\ g.cells.length <= c
 few : g.cells.length <= 1000
structure Fo (u : World) (ok : Nat -> Prop) (r : Pr) (x : List Value) : Prop where
 ex : ∃ p n c, x = [.int .i64 r.at_, .slice p n c, .string r.pl, .bool r.fA] /\ bY u p n r.ps /\ (0 < r.ps.length -> ∀ k, At p k -> ok k)
structure Gp (u : World) (ok : Nat -> Prop) (c : Ct) (x : List Value) : Prop where
 ex : ∃ p d, x = [.bool c.here] ++ grV c.shown p c.shown.cells.length d ++ [.string (aW c.queue), .bool c.lost] /\ Cells u p c.shown.cells /\ (0 < c.shown.cells.length -> ∀ k, At p k -> ok k)
 few : c.shown.cells.length <= 1000
structure SvC (u : World) (ok : Nat -> Prop) (s : Sv) (cs : List Value) : Prop where
 len : cs.length = 119
 oY : ∃ p c, takeN cs 0 1 = some [.slice p s.v.aj.length c] /\ TlF u ok p s.v.aj
 qz : ∀ i, i < 6 -> ∃ x, takeN cs (1 + i * 9) 9 = some x /\ HX u ok (aq s.v i) x
 wide : takeN cs 55 1 = some [.int .i64 s.v.wide]
 high : takeN cs 56 1 = some [.int .i64 s.v.high]
 focus : takeN cs 57 1 = some [.int .i64 s.v.focus]
 parser : ∀ i, i < 6 -> ∃ x, takeN cs (58 + i * 4) 4 = some x /\ Fo u ok (an s i) x
 ue : ∀ i, i < 3 -> ∃ x, takeN cs (82 + i * 12) 12 = some x /\ Gp u ok (ag s i) x
 ay : takeN cs 118 1 = some [.int .i64 s.ay]
structure SvM (u : World) (sb : Nat) (B : Nat -> Prop) (s : Sv) : Prop where
 ex : ∃ cs, Blk u sb cs /\ SvC u (fun k => ¬ B k) s cs
 own : B sb
 old : ∀ k, B k -> k < u.heap.size
theorem ao.pos {g : Gr} (h : ao g) : 0 < g.cells.length := by
 have h1 := h.w1
 have h2 := h.h1
 have h3 := h.len
 have : 0 < g.wide * g.high := Int.mul_pos (by omega) (by omega)
 omega
theorem yY {u u' : World} {p : Option Addr} (h : Gets u p []) : Gets u' p [] := by
 cases p with
 | none => exact h
 | some a => exact ⟨fun h => (h rfl).elim, trivial⟩
theorem Cells.EU {S : Nat -> Prop} {u u' : World} {p : Option Addr} {l : List Cl} (h : Cells u p l) (hu : Upd S u u') (hn : 0 < l.length -> ∀ k, At p k -> ¬ S k) : Cells u' p l := by
 by_cases h0 : 0 < l.length
 ·exact h.upd hu (hn h0)
 ·have : l = [] := List.length_eq_zero_iff.1 (by omega)
  subst this
  exact ⟨yY h.aH⟩
theorem bY.EU {S : Nat -> Prop} {u u' : World} {p : Option Addr} {n : Nat} {l : List Int} (h : bY u p n l) (hu : Upd S u u') (hn : 0 < l.length -> ∀ k, At p k -> ¬ S k) : bY u' p n l := by
 by_cases h0 : 0 < l.length
 ·exact h.upd hu (hn h0)
 ·have : l = [] := List.length_eq_zero_iff.1 (by omega)
  subst this
  exact ⟨yY h.1, h.2⟩
theorem bY.lt0 {u : World} {p : Option Addr} {n : Nat} {l : List Int} (h : bY u p n l) (h0 : 0 < l.length) {k : Nat} (hk : At p k) : k < u.heap.size := by
 obtain ⟨b, o, rfl, hr⟩ := h.at (i := 0) (by have := h.2; omega)
 have := ar hk
 simp only at this
 subst this
 exact uL hr
theorem rz {u : World} {ok ok' : Nat -> Prop} (hk : ∀ k, ok k -> k < u.heap.size -> ok' k) : ∀ {ls : aD} {xs : List (List Value)}, (∀ l ∈ ls, 0 < l.length) -> cH u ok xs ls -> cH u ok' xs ls
 | [], [], _, _ => trivial
 | l :: ls, x :: xs, h0, h => ⟨by
  obtain ⟨q, c, h1, h2, h3⟩ := h.1
  exact ⟨q, c, h1, h2, fun k hk1 => hk k (h3 k hk1) (h2.lt0 (h0 l List.mem_cons_self) hk1)⟩, rz hk (fun l hl => h0 l (List.mem_cons_of_mem _ hl)) h.2⟩
theorem TlF.upd {S : Nat -> Prop} {u u' : World} {ok : Nat -> Prop} {p : Option Addr} {t : aD} (h : TlF u ok p t) (hu : Upd S u u') (hk : ∀ k, ok k -> ¬ S k) : TlF u' ok p t := by
 obtain ⟨ls, h1, h2, h3⟩ := h
 exact ⟨ls, h1.upd hu fun k hk1 => hk k (h3 k hk1), cH.upd hu (fun k hk1 => ⟨hk k hk1, hk1⟩) h2, h3⟩
theorem SvC.upd {S : Nat -> Prop} {u u' : World} {ok : Nat -> Prop} {s : Sv} {cs : List Value} (h : SvC u ok s cs) (hu : Upd S u u') (hk : ∀ k, ok k -> ¬ S k) : SvC u' ok s cs := by
 obtain ⟨h1, ⟨p, c, h2, h3⟩, h4, h5, h6, h7, h8, h9, h10⟩ := h
 refine ⟨h1, ⟨p, c, h2, h3.upd hu hk⟩, fun i hi => ?_, h5, h6, h7, fun i hi => ?_, fun i hi => ?_, h10⟩
 ·obtain ⟨x, k1, ⟨p, c, k2, k3, k4, k5⟩, k6⟩ := h4 i hi
  exact ⟨x, k1, ⟨p, c, k2, k3.EU hu fun h0 k hk1 => hk k (k4 h0 k hk1), k4, k5⟩, k6⟩
 ·obtain ⟨x, k1, ⟨p, n, c, k2, k3, k4⟩⟩ := h8 i hi
  exact ⟨x, k1, ⟨p, n, c, k2, k3.EU hu fun h0 k hk1 => hk k (k4 h0 k hk1), k4⟩⟩
 ·obtain ⟨x, k1, ⟨p, c, k2, k3, k4⟩, k6⟩ := h9 i hi
  exact ⟨x, k1, ⟨p, c, k2, k3.EU hu fun h0 k hk1 => hk k (k4 h0 k hk1), k4⟩, k6⟩
theorem SvC.mono {u : World} {ok ok' : Nat -> Prop} {s : Sv} {cs : List Value} (h : SvC u ok s cs) (hc : cF s.v.aj) (hk : ∀ k, ok k -> k < u.heap.size -> ok' k) : SvC u ok' s cs := by
 obtain ⟨h1, ⟨p, c, h2, ls, t1, t2, t3⟩, h4, h5, h6, h7, h8, h9, h10⟩ := h
 refine ⟨h1, ⟨p, c, h2, ls, t1, ?_, fun k hk1 => hk k (t3 k hk1) ?_⟩, fun i hi => ?_, h5, h6, h7, fun i hi => ?_, fun i hi => ?_, h10⟩
 ·exact rz hk (fun l hl => (hc.each l hl).1) t2
 ·obtain ⟨b, o, rfl, hr⟩ := t1.at (i := 0) (List.length_pos_iff.2 hc.some) (by decide)
  have := ar hk1
  simp only at this
  subst this
  obtain ⟨q, c, hx, _⟩ := cH.at t2 (i := 0) (List.length_pos_iff.2 hc.some)
  rw [hx] at hr
  exact uL hr
 ·obtain ⟨x, k1, ⟨p, c, k2, k3, k4, k5⟩, k6⟩ := h4 i hi
  exact ⟨x, k1, ⟨p, c, k2, k3, fun h0 k hk1 => hk k (k4 h0 k hk1) (k3.lt h0 hk1), k5⟩, k6⟩
 ·obtain ⟨x, k1, ⟨p, n, c, k2, k3, k4⟩⟩ := h8 i hi
  exact ⟨x, k1, ⟨p, n, c, k2, k3, fun h0 k hk1 => hk k (k4 h0 k hk1) (k3.lt0 h0 hk1)⟩⟩
 ·obtain ⟨x, k1, ⟨p, c, k2, k3, k4⟩, k6⟩ := h9 i hi
  exact ⟨x, k1, ⟨p, c, k2, k3, fun h0 k hk1 => hk k (k4 h0 k hk1) (k3.lt h0 hk1)⟩, k6⟩
theorem SvM.lt {u : World} {sb : Nat} {B : Nat -> Prop} {s : Sv} (h : SvM u sb B s) : sb < u.heap.size := h.old sb h.own
theorem SvM.new {u : World} {sb : Nat} {B : Nat -> Prop} {s : Sv} (h : SvM u sb B s) {k : Nat} (hk : u.heap.size <= k) : ¬ B k := fun hb => by have := h.old k hb; omega
theorem SvM.upd {S : Nat -> Prop} {u u' : World} {sb : Nat} {B : Nat -> Prop} {s : Sv} (h : SvM u sb B s) (hu : Upd S u u') (hS : ∀ k, k < u.heap.size -> S k -> B k /\ k ≠ sb) : SvM u' sb B s := by
 have hlt := h.lt
 obtain ⟨⟨cs, h1, h2⟩, h3, h4⟩ := h
 have hu' : Upd (fun k => B k /\ k ≠ sb) u u' := hu.mono hS
 exact ⟨⟨cs, h1.upd hu' fun h => h.2 rfl, h2.upd hu' fun k hk h => hk h.1⟩, h3, fun k hk => by have := h4 k hk; have := hu.size; omega⟩
theorem SvM.ext {u u' : World} {sb : Nat} {B : Nat -> Prop} {s : Sv} (h : SvM u sb B s) (hu : Ext u u') : SvM u' sb B s := h.upd hu fun _ _ h => h.elim
theorem SvM.more {u u' : World} {sb : Nat} {B B' : Nat -> Prop} {s : Sv} (h : SvM u sb B s) (hc : cF s.v.aj) (hu : Ext u u') (h1 : B' sb) (h2 : ∀ k, B' k -> (B k \/ u.heap.size <= k) /\ k < u'.heap.size) : SvM u' sb B' s := by
 obtain ⟨⟨cs, k1, k2⟩, k3, k4⟩ := h
 refine ⟨⟨cs, k1.ext hu, (k2.mono hc fun k hk hl hb => ?_).upd hu fun _ _ h => h⟩, h1, fun k hk => (h2 k hk).2⟩
 rcases (h2 k hb).1 with h | h
 ·exact hk h
 ·omega
theorem SvM.over {S : Nat -> Prop} {u u1 u' : World} {sb : Nat} {B : Nat -> Prop} {s : Sv} (h : SvM u sb B s) (hc : cF s.v.aj) (hu : Ext u u1) (hw : Upd S u1 u') (hS : ∀ k, S k -> u.heap.size <= k) : SvM u' sb B s := by
 have hlt := h.lt
 have hs := hu.size
 have hs' := hw.size
 obtain ⟨⟨cs, k1, k2⟩, k3, k4⟩ := h
 refine ⟨⟨cs, (k1.ext hu).upd hw fun h => by have := hS _ h; omega, ?_⟩, k3, fun k hk => by have := k4 k hk; omega⟩
 have : SvC u (fun k => ¬ B k /\ k < u.heap.size) s cs := k2.mono hc fun k hk hl => ⟨hk, hl⟩
 have := (this.upd hu fun _ _ h => h).upd hw fun k hk h => by have := hS k h; omega
 exact this.mono hc fun k hk _ => hk.1
theorem SvM.rd {u : World} {sb : Nat} {B : Nat -> Prop} {s : Sv} (h : SvM u sb B s) : ∃ cs, SvC u (fun k => ¬ B k) s cs /\ (∀ {o n x}, takeN cs o n = some x -> Rd u sb o x) := by
 obtain ⟨⟨cs, h1, h2⟩, _⟩ := h
 exact ⟨cs, h2, fun hx => h1.dL hx⟩
theorem SvM.lS {u : World} {sb : Nat} {B : Nat -> Prop} {s : Sv} (h : SvM u sb B s) (hl : s.v.aG.length = 6) {i : Nat} (hi : i < 6) {g : Gr} {x : List Value} (hx : HX u (fun k => ¬ B k) g x) {o : Nat} (ho : o = 1 + i * 9) :
  Wr u sb o 9 /\ SvM (ae u sb o x) sb B { s with v := { s.v with aG := s.v.aG.set i g } } := by
 obtain ⟨⟨cs, hb, hc⟩, hB, hold⟩ := h
 obtain ⟨p, c, rfl, k3, k4, k5⟩ := hx.ex
 have hxl : (grV g p g.cells.length c).length = 9 := rfl
 obtain ⟨cs', P⟩ := cZ (cs := cs) (o := o) (ys := grV g p g.cells.length c) (by rw [hc.len, hxl]; omega)
 have hup := aI (u := u) sb o (grV g p g.cells.length c)
 refine ⟨by have := hb.oF P.put; rwa [hxl] at this, ⟨cs', hb.putAt P.put, ?_⟩, hB, fun k hk => by have := hold k hk; have := hup.size; omega⟩
 refine SvC.upd (S := (· = sb)) (u := u) ?_ hup fun k hk e => hk (e ▸ hB)
 obtain ⟨h1, ⟨p', c', h2, h3⟩, h4, h5, h6, h7, h8, h9, h10⟩ := hc
 have off := fun {a n : Nat} {y : List Value} (hd : a + n <= o \/ o + 9 <= a) (hy : takeN cs a n = some y) => P.off (x := y) (by rw [hxl]; exact hd) hy
 refine ⟨by rw [P.len, h1], ⟨p', c', off (by omega) h2, h3⟩, fun j hj => ?_, off (by omega) h5, off (by omega) h6, off (by omega) h7, fun j hj => ?_, fun j hj => ?_, off (by omega) h10⟩
 ·by_cases e : j = i
  ·subst e
   obtain ⟨y, k1, _⟩ := h4 j hj
   have ylen := (cQ _ _ _ _ k1).1
   refine ⟨_, P.on k1 (by omega) (by rw [hxl]; omega) (by rw [show o - (1 + j * 9) = 0 by omega]; exact bP (by rw [ylen, hxl])), ?_⟩
   have : aq { s.v with aG := s.v.aG.set j g } j = g := by show (s.v.aG.set j g).getD j .zero = g; simp [List.getD_eq_getElem?_getD, hl, hj]
   rw [this]
   exact hx
  ·obtain ⟨y, k1, k2⟩ := h4 j hj
   refine ⟨y, off (by omega) k1, ?_⟩
   have : aq { s.v with aG := s.v.aG.set i g } j = aq s.v j := by show (s.v.aG.set i g).getD j .zero = _; simp [List.getD_eq_getElem?_getD, List.getElem?_set_ne (fun h => e h.symm)]
   rw [this]
   exact k2
 ·obtain ⟨y, k1, k2⟩ := h8 j hj
  exact ⟨y, off (by omega) k1, k2⟩
 ·obtain ⟨y, k1, k2⟩ := h9 j hj
  exact ⟨y, off (by omega) k1, k2⟩
theorem SvM.z6 {u : World} {sb : Nat} {B : Nat -> Prop} {s : Sv} (h : SvM u sb B s) (n : Int) {o : Nat} (ho : o = 55) :
  Wr u sb o 1 /\ SvM (ae u sb o [.int .i64 n]) sb B { s with v := { s.v with wide := n } } := by
 obtain ⟨⟨cs, hb, hc⟩, hB, hold⟩ := h
 have hxl : ([.int .i64 n] : List Value).length = 1 := rfl
 obtain ⟨cs', P⟩ := cZ (cs := cs) (o := o) (ys := [.int .i64 n]) (by rw [hc.len, hxl]; omega)
 have hup := aI (u := u) sb o [.int .i64 n]
 refine ⟨by have := hb.oF P.put; exact this, ⟨cs', hb.putAt P.put, ?_⟩, hB, fun k hk => by have := hold k hk; have := hup.size; omega⟩
 refine SvC.upd (S := (· = sb)) (u := u) ?_ hup fun k hk e => hk (e ▸ hB)
 obtain ⟨h1, ⟨p', c', h2, h3⟩, h4, h5, h6, h7, h8, h9, h10⟩ := hc
 have off := fun {a n : Nat} {y : List Value} (hd : a + n <= o \/ o + 1 <= a) (hy : takeN cs a n = some y) => P.off (x := y) (by rw [hxl]; exact hd) hy
 have on1 : takeN cs' 55 1 = some [.int .i64 n] := P.on h5 (by omega) (by rw [hxl]; omega) (by rw [show o - 55 = 0 by omega]; exact bP rfl)
 exact ⟨by rw [P.len, h1], ⟨p', c', off (by omega) h2, h3⟩, fun j hj => (h4 j hj).imp fun y k => ⟨off (by omega) k.1, k.2⟩, on1, off (by omega) h6, off (by omega) h7, fun j hj => (h8 j hj).imp fun y k => ⟨off (by omega) k.1, k.2⟩, fun j hj => (h9 j hj).imp fun y k => ⟨off (by omega) k.1, k.2⟩, off (by omega) h10⟩
theorem SvM.Bl {u : World} {sb : Nat} {B : Nat -> Prop} {s : Sv} (h : SvM u sb B s) (n : Int) {o : Nat} (ho : o = 56) :
  Wr u sb o 1 /\ SvM (ae u sb o [.int .i64 n]) sb B { s with v := { s.v with high := n } } := by
 obtain ⟨⟨cs, hb, hc⟩, hB, hold⟩ := h
 have hxl : ([.int .i64 n] : List Value).length = 1 := rfl
 obtain ⟨cs', P⟩ := cZ (cs := cs) (o := o) (ys := [.int .i64 n]) (by rw [hc.len, hxl]; omega)
 have hup := aI (u := u) sb o [.int .i64 n]
 refine ⟨by have := hb.oF P.put; exact this, ⟨cs', hb.putAt P.put, ?_⟩, hB, fun k hk => by have := hold k hk; have := hup.size; omega⟩
 refine SvC.upd (S := (· = sb)) (u := u) ?_ hup fun k hk e => hk (e ▸ hB)
 obtain ⟨h1, ⟨p', c', h2, h3⟩, h4, h5, h6, h7, h8, h9, h10⟩ := hc
 have off := fun {a n : Nat} {y : List Value} (hd : a + n <= o \/ o + 1 <= a) (hy : takeN cs a n = some y) => P.off (x := y) (by rw [hxl]; exact hd) hy
 have on1 : takeN cs' 56 1 = some [.int .i64 n] := P.on h6 (by omega) (by rw [hxl]; omega) (by rw [show o - 56 = 0 by omega]; exact bP rfl)
 exact ⟨by rw [P.len, h1], ⟨p', c', off (by omega) h2, h3⟩, fun j hj => (h4 j hj).imp fun y k => ⟨off (by omega) k.1, k.2⟩, off (by omega) h5, on1, off (by omega) h7, fun j hj => (h8 j hj).imp fun y k => ⟨off (by omega) k.1, k.2⟩, fun j hj => (h9 j hj).imp fun y k => ⟨off (by omega) k.1, k.2⟩, off (by omega) h10⟩
theorem SvM.g6 {u : World} {sb : Nat} {B : Nat -> Prop} {s : Sv} (h : SvM u sb B s) (n : Int) {o : Nat} (ho : o = 57) :
  Wr u sb o 1 /\ SvM (ae u sb o [.int .i64 n]) sb B { s with v := { s.v with focus := n } } := by
 obtain ⟨⟨cs, hb, hc⟩, hB, hold⟩ := h
 have hxl : ([.int .i64 n] : List Value).length = 1 := rfl
 obtain ⟨cs', P⟩ := cZ (cs := cs) (o := o) (ys := [.int .i64 n]) (by rw [hc.len, hxl]; omega)
 have hup := aI (u := u) sb o [.int .i64 n]
 refine ⟨by have := hb.oF P.put; exact this, ⟨cs', hb.putAt P.put, ?_⟩, hB, fun k hk => by have := hold k hk; have := hup.size; omega⟩
 refine SvC.upd (S := (· = sb)) (u := u) ?_ hup fun k hk e => hk (e ▸ hB)
 obtain ⟨h1, ⟨p', c', h2, h3⟩, h4, h5, h6, h7, h8, h9, h10⟩ := hc
 have off := fun {a n : Nat} {y : List Value} (hd : a + n <= o \/ o + 1 <= a) (hy : takeN cs a n = some y) => P.off (x := y) (by rw [hxl]; exact hd) hy
 have on1 : takeN cs' 57 1 = some [.int .i64 n] := P.on h7 (by omega) (by rw [hxl]; omega) (by rw [show o - 57 = 0 by omega]; exact bP rfl)
 exact ⟨by rw [P.len, h1], ⟨p', c', off (by omega) h2, h3⟩, fun j hj => (h4 j hj).imp fun y k => ⟨off (by omega) k.1, k.2⟩, off (by omega) h5, off (by omega) h6, on1, fun j hj => (h8 j hj).imp fun y k => ⟨off (by omega) k.1, k.2⟩, fun j hj => (h9 j hj).imp fun y k => ⟨off (by omega) k.1, k.2⟩, off (by omega) h10⟩
theorem SvM.AO {u : World} {sb : Nat} {B : Nat -> Prop} {s : Sv} (h : SvM u sb B s) (n : Int) {o : Nat} (ho : o = 118) :
  Wr u sb o 1 /\ SvM (ae u sb o [.int .i64 n]) sb B { s with ay := n } := by
 obtain ⟨⟨cs, hb, hc⟩, hB, hold⟩ := h
 have hxl : ([.int .i64 n] : List Value).length = 1 := rfl
 obtain ⟨cs', P⟩ := cZ (cs := cs) (o := o) (ys := [.int .i64 n]) (by rw [hc.len, hxl]; omega)
 have hup := aI (u := u) sb o [.int .i64 n]
 refine ⟨by have := hb.oF P.put; exact this, ⟨cs', hb.putAt P.put, ?_⟩, hB, fun k hk => by have := hold k hk; have := hup.size; omega⟩
 refine SvC.upd (S := (· = sb)) (u := u) ?_ hup fun k hk e => hk (e ▸ hB)
 obtain ⟨h1, ⟨p', c', h2, h3⟩, h4, h5, h6, h7, h8, h9, h10⟩ := hc
 have off := fun {a n : Nat} {y : List Value} (hd : a + n <= o \/ o + 1 <= a) (hy : takeN cs a n = some y) => P.off (x := y) (by rw [hxl]; exact hd) hy
 have on1 : takeN cs' 118 1 = some [.int .i64 n] := P.on h10 (by omega) (by rw [hxl]; omega) (by rw [show o - 118 = 0 by omega]; exact bP rfl)
 exact ⟨by rw [P.len, h1], ⟨p', c', off (by omega) h2, h3⟩, fun j hj => (h4 j hj).imp fun y k => ⟨off (by omega) k.1, k.2⟩, off (by omega) h5, off (by omega) h6, off (by omega) h7, fun j hj => (h8 j hj).imp fun y k => ⟨off (by omega) k.1, k.2⟩, fun j hj => (h9 j hj).imp fun y k => ⟨off (by omega) k.1, k.2⟩, on1⟩
theorem SvM.mP {u : World} {sb : Nat} {B : Nat -> Prop} {s : Sv} (h : SvM u sb B s) {t : aD} {p : Option Addr} (c : Nat) (ht : TlF u (fun k => ¬ B k) p t) {o : Nat} (ho : o = 0) :
  Wr u sb o 1 /\ SvM (ae u sb o [.slice p t.length c]) sb B { s with v := { s.v with aj := t } } := by
 obtain ⟨⟨cs, hb, hc⟩, hB, hold⟩ := h
 have hxl : ([.slice p t.length c] : List Value).length = 1 := rfl
 obtain ⟨cs', P⟩ := cZ (cs := cs) (o := o) (ys := [.slice p t.length c]) (by rw [hc.len, hxl]; omega)
 have hup := aI (u := u) sb o [.slice p t.length c]
 refine ⟨by have := hb.oF P.put; exact this, ⟨cs', hb.putAt P.put, ?_⟩, hB, fun k hk => by have := hold k hk; have := hup.size; omega⟩
 refine SvC.upd (S := (· = sb)) (u := u) ?_ hup fun k hk e => hk (e ▸ hB)
 obtain ⟨h1, ⟨p', c', h2, h3⟩, h4, h5, h6, h7, h8, h9, h10⟩ := hc
 have off := fun {a n : Nat} {y : List Value} (hd : a + n <= o \/ o + 1 <= a) (hy : takeN cs a n = some y) => P.off (x := y) (by rw [hxl]; exact hd) hy
 have on1 : takeN cs' 0 1 = some [.slice p t.length c] := P.on h2 (by omega) (by rw [hxl]; omega) (by rw [show o - 0 = 0 by omega]; exact bP rfl)
 exact ⟨by rw [P.len, h1], ⟨p, c, on1, ht⟩, fun j hj => (h4 j hj).imp fun y k => ⟨off (by omega) k.1, k.2⟩, off (by omega) h5, off (by omega) h6, off (by omega) h7, fun j hj => (h8 j hj).imp fun y k => ⟨off (by omega) k.1, k.2⟩, fun j hj => (h9 j hj).imp fun y k => ⟨off (by omega) k.1, k.2⟩, off (by omega) h10⟩
theorem SvM.mS {u : World} {sb : Nat} {B : Nat -> Prop} {s : Sv} (h : SvM u sb B s) (hl : s.az.length = 6) {i : Nat} (hi : i < 6) {r : Pr} {x : List Value} (hx : Fo u (fun k => ¬ B k) r x) {o : Nat} (ho : o = 58 + i * 4) :
  Wr u sb o 4 /\ SvM (ae u sb o x) sb B { s with az := s.az.set i r } := by
 obtain ⟨⟨cs, hb, hc⟩, hB, hold⟩ := h
 obtain ⟨p, n, c, rfl, k3, k4⟩ := hx.ex
 have hxl : ([.int .i64 r.at_, .slice p n c, .string r.pl, .bool r.fA] : List Value).length = 4 := rfl
 obtain ⟨cs', P⟩ := cZ (cs := cs) (o := o) (ys := [.int .i64 r.at_, .slice p n c, .string r.pl, .bool r.fA]) (by rw [hc.len, hxl]; omega)
 have hup := aI (u := u) sb o [.int .i64 r.at_, .slice p n c, .string r.pl, .bool r.fA]
 refine ⟨by have := hb.oF P.put; exact this, ⟨cs', hb.putAt P.put, ?_⟩, hB, fun k hk => by have := hold k hk; have := hup.size; omega⟩
 refine SvC.upd (S := (· = sb)) (u := u) ?_ hup fun k hk e => hk (e ▸ hB)
 obtain ⟨h1, ⟨p', c', h2, h3⟩, h4, h5, h6, h7, h8, h9, h10⟩ := hc
 have off := fun {a n : Nat} {y : List Value} (hd : a + n <= o \/ o + 4 <= a) (hy : takeN cs a n = some y) => P.off (x := y) (by rw [hxl]; exact hd) hy
 refine ⟨by rw [P.len, h1], ⟨p', c', off (by omega) h2, h3⟩, fun j hj => (h4 j hj).imp fun y k => ⟨off (by omega) k.1, k.2⟩, off (by omega) h5, off (by omega) h6, off (by omega) h7, fun j hj => ?_, fun j hj => (h9 j hj).imp fun y k => ⟨off (by omega) k.1, k.2⟩, off (by omega) h10⟩
 by_cases e : j = i
 ·subst e
  obtain ⟨y, k1, _⟩ := h8 j hj
  have ylen := (cQ _ _ _ _ k1).1
  refine ⟨_, P.on k1 (by omega) (by rw [hxl]; omega) (by rw [show o - (58 + j * 4) = 0 by omega]; exact bP (by rw [ylen, hxl])), ?_⟩
  have : an { s with az := s.az.set j r } j = r := by show (s.az.set j r).getD j .zero = r; simp [List.getD_eq_getElem?_getD, hl, hj]
  rw [this]
  exact hx
 ·obtain ⟨y, k1, k2⟩ := h8 j hj
  refine ⟨y, off (by omega) k1, ?_⟩
  have : an { s with az := s.az.set i r } j = an s j := by show (s.az.set i r).getD j .zero = _; simp [List.getD_eq_getElem?_getD, List.getElem?_set_ne (fun h => e h.symm)]
  rw [this]
  exact k2
theorem SvM.iJ {u : World} {sb : Nat} {B : Nat -> Prop} {s : Sv} (h : SvM u sb B s) (hl : s.ak.length = 3) {i : Nat} (hi : i < 3) {r : Ct} {a m : Nat} {ys : List Value} (hys : ys.length = m) (ham : a + m <= 12)
  (hx : ∀ x, Gp u (fun k => ¬ B k) (ag s i) x -> ∃ x', putN x a ys = some x' /\ Gp u (fun k => ¬ B k) r x') {o : Nat} (ho : o = 82 + i * 12 + a) :
  Wr u sb o m /\ SvM (ae u sb o ys) sb B { s with ak := s.ak.set i r } := by
 obtain ⟨⟨cs, hb, hc⟩, hB, hold⟩ := h
 have hxl : ys.length = m := hys
 obtain ⟨cs', P⟩ := cZ (cs := cs) (o := o) (ys := ys) (by rw [hc.len, hxl]; omega)
 have hup := aI (u := u) sb o ys
 refine ⟨by have := hb.oF P.put; rwa [hxl] at this, ⟨cs', hb.putAt P.put, ?_⟩, hB, fun k hk => by have := hold k hk; have := hup.size; omega⟩
 refine SvC.upd (S := (· = sb)) (u := u) ?_ hup fun k hk e => hk (e ▸ hB)
 obtain ⟨h1, ⟨p', c', h2, h3⟩, h4, h5, h6, h7, h8, h9, h10⟩ := hc
 have off := fun {a n : Nat} {y : List Value} (hd : a + n <= o \/ o + m <= a) (hy : takeN cs a n = some y) => P.off (x := y) (by rw [hxl]; exact hd) hy
 refine ⟨by rw [P.len, h1], ⟨p', c', off (by omega) h2, h3⟩, fun j hj => (h4 j hj).imp fun y k => ⟨off (by omega) k.1, k.2⟩, off (by omega) h5, off (by omega) h6, off (by omega) h7, fun j hj => (h8 j hj).imp fun y k => ⟨off (by omega) k.1, k.2⟩, fun j hj => ?_, off (by omega) h10⟩
 by_cases e : j = i
 ·subst e
  obtain ⟨y, k1, k2⟩ := h9 j hj
  obtain ⟨x', p1, p2⟩ := hx y k2
  refine ⟨x', P.on k1 (by omega) (by rw [hxl]; omega) (by rw [show o - (82 + j * 12) = a by omega]; exact p1), ?_⟩
  have : ag { s with ak := s.ak.set j r } j = r := by show (s.ak.set j r).getD j .zero = r; simp [List.getD_eq_getElem?_getD, hl, hj]
  rw [this]
  exact p2
 ·obtain ⟨y, k1, k2⟩ := h9 j hj
  refine ⟨y, off (by omega) k1, ?_⟩
  have : ag { s with ak := s.ak.set i r } j = ag s j := by show (s.ak.set i r).getD j .zero = _; simp [List.getD_eq_getElem?_getD, List.getElem?_set_ne (fun h => e h.symm)]
  rw [this]
  exact k2
end Go.Proofs.YtkmmphkjmamckacGreatDoor
