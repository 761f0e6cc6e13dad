/- Texts joined: ZB, Ctx. -/
import Derived.Test.YtkmmphkjmamckacGreatDoorZ00
import Derived.Lib.AppendZerosOnto
import Derived.Laws.AppendOwn
import Derived.Test.YtkmmphkjmamckacGreatDoorProg
namespace Go.Proofs.YtkmmphkjmamckacGreatDoor
open Go
set_option linter.all false
def Gd (e : Eff) (ρ : List Nat) (ls ls' : List Loc) (w w' : World) : Prop :=
 match e with
 | .oA l => (∀ m, m ≠ l -> ls'[m]? = ls[m]?) /\ ∀ k : Nat, (∀ b, ρ[l]? = some b -> k ≠ b) -> w'.heap[k]? = w.heap[k]?
 | .wr => ∀ m, m < ls.length -> ls'[m]? = ls[m]?
 | _ => w' = w /\ ls' = ls
def cK (u0 w0 : World) (ρ : List Nat) (ls : List Loc) (u w : World) (a : Act) (o : Oper) (k : KO) (a' : Act) (w' : World) : Prop :=
 ∃ s ls' u' e v ρ', k s ls' u' e /\ a' = a.put o.dst v /\ (∃ r, ρ' = ρ ++ r /\ ∀ b ∈ r, u.heap.size <= b) /\ s.holds ρ' v /\ MS u0 w0 ρ' ls' u' w' /\ u.heap.size <= u'.heap.size /\ Gd e ρ ls ls' w w'
section ms
variable {u0 w0 u w : World} {ρ : List Nat} {ls : List Loc}
theorem MS.alloc (h : MS u0 w0 ρ ls u w) (o : Obj) : MS u0 w0 ρ ls (ab u o) (ab w o) := by
 refine ⟨h.le.alloc o, ⟨?_, fun k hk => ?_⟩, ?_, h.len, h.nodup, fun i l b hl hb => ?_, h.new⟩
 ·have : (ab u o).heap.size = u.heap.size + 1 := by simp [ab]
  have := h.kept.size; omega
 ·obtain ⟨h1, h2⟩ := h.kept.hole k hk
  have hlt : k < u.heap.size := (Array.getElem?_eq_some_iff.1 h1).1
  rw [heap_alloc, heap_alloc, if_neg (by omega), if_neg (by rw [h.le.size]; omega)]
  exact ⟨h1, h2⟩
 ·have : (ab u o).heap.size = u.heap.size + 1 := by simp [ab]
  have := h.sz; omega
 ·obtain ⟨h1, h2⟩ := h.own i l b hl hb
  have hlt : b < u.heap.size := (Array.getElem?_eq_some_iff.1 h1).1
  rw [heap_alloc, heap_alloc, if_neg (by omega), if_neg (by rw [h.le.size]; omega)]
  exact ⟨h1, h2⟩
theorem MS.GC (h : MS u0 w0 ρ ls u w) (t : TypeId) (q : Bool) (cells : List Value) : MS u0 w0 (ρ ++ [u.heap.size]) (ls ++ [⟨t, q, cells⟩]) (ab u hole) (ab w (.cells cells.toArray t)) := by
 refine ⟨h.le.hole _, ⟨?_, fun k hk => ?_⟩, ?_, by simp [h.len], ?_, fun i l b hl hb => ?_, fun b hb => ?_⟩
 ·have : (ab u hole).heap.size = u.heap.size + 1 := by simp [ab]
  have := h.kept.size; omega
 ·obtain ⟨h1, h2⟩ := h.kept.hole k hk
  have hlt : k < u.heap.size := (Array.getElem?_eq_some_iff.1 h1).1
  rw [heap_alloc, heap_alloc, if_neg (by omega), if_neg (by rw [h.le.size]; omega)]
  exact ⟨h1, h2⟩
 ·have : (ab u hole).heap.size = u.heap.size + 1 := by simp [ab]
  have := h.sz; omega
 ·rw [List.nodup_append]
  refine ⟨h.nodup, by simp, fun b hb c hc => ?_⟩
  simp only [List.mem_singleton] at hc
  subst hc
  intro e
  subst e
  obtain ⟨i, hi⟩ := List.mem_iff_getElem?.1 hb
  have hlt : i < ls.length := by rw [<- h.len]; exact (List.getElem?_eq_some_iff.1 hi).1
  obtain ⟨h1, _⟩ := h.own i _ _ (List.getElem?_eq_getElem hlt) hi
  have := (Array.getElem?_eq_some_iff.1 h1).1
  omega
 ·rcases Nat.lt_or_ge i ls.length with hi | hi
  ·rw [List.getElem?_append_left hi] at hl
   rw [List.getElem?_append_left (by rw [h.len]; exact hi)] at hb
   obtain ⟨h1, h2⟩ := h.own i l b hl hb
   have hlt : b < u.heap.size := (Array.getElem?_eq_some_iff.1 h1).1
   rw [heap_alloc, heap_alloc, if_neg (by omega), if_neg (by rw [h.le.size]; omega)]
   exact ⟨h1, h2⟩
  ·rw [List.getElem?_append_right hi] at hl
   rw [List.getElem?_append_right (by rw [h.len]; exact hi), h.len] at hb
   cases hj : i - ls.length with
   | zero =>
    rw [hj] at hl hb
    simp only [List.getElem?_cons_zero, Option.some.injEq] at hl hb
    subst hl hb
    rw [heap_alloc, heap_alloc, if_pos rfl, if_pos h.le.size.symm]
    exact ⟨rfl, rfl⟩
   | succ j => rw [hj] at hl; simp at hl
 ·simp only [List.mem_append, List.mem_singleton] at hb
  rcases hb with hb | hb
  ·exact h.new b hb
  ·subst hb; exact h.sz
theorem MS.drew (h : MS u0 w0 ρ ls u w) : MS u0 w0 ρ ls (af u) (af w) := ⟨h.le.drew, ⟨h.kept.size, h.kept.hole⟩, h.sz, h.len, h.nodup, h.own, h.new⟩
theorem MS.put (h : MS u0 w0 ρ ls u w) {b o : Nat} {cs : List Value} (hw : Wr u b o cs.length) : MS u0 w0 ρ ls (ae u b o cs) (ae w b o cs) := by
 by_cases hne : cs = []
 ·subst hne; exact h
 have hbk : ∀ k : Nat, u.heap[k]? = some hole -> k ≠ b := by
  intro k hk e
  subst e
  obtain ⟨⟨x, hx⟩, _⟩ := hw 0 (by cases cs with | nil => exact absurd rfl hne | cons => simp)
  obtain ⟨c', t, f, hb, _, _⟩ := fD hx
  rw [hk] at hb
  simp [hole] at hb
 refine ⟨h.le.put cs o hw, ⟨by rw [fb]; exact h.kept.size, fun k hk => ?_⟩, by rw [fb]; exact h.sz, h.len, h.nodup, fun i l c hl hc => ?_, h.new⟩
 ·obtain ⟨h1, h2⟩ := h.kept.hole k hk
  have := hbk k h1
  rw [bE _ _ _ _ this, bE _ _ _ _ this]
  exact ⟨h1, h2⟩
 ·obtain ⟨h1, h2⟩ := h.own i l c hl hc
  have := hbk c h1
  rw [bE _ _ _ _ this, bE _ _ _ _ this]
  exact ⟨h1, h2⟩
theorem MS.bj (h : MS u0 w0 ρ ls u w) {p : Option Addr} {off : Nat} {cs : List Value} (hw : WrS u p off cs.length) : MS u0 w0 ρ ls (bj u p off cs) (bj w p off cs) := by
 cases p with
 | none => exact h
 | some a => exact h.put hw.2
theorem MS.local (h : MS u0 w0 ρ ls u w) {i b off : Nat} {l : Loc} {cs cs' : List Value} (hl : ls[i]? = some l) (hb : ρ[i]? = some b) (hp : putN l.cells off cs = some cs') :
  MS u0 w0 ρ (ls.set i { l with cells := cs' }) u (ae w b off cs) := by
 obtain ⟨hub, hwb⟩ := h.own i l b hl hb
 have hil : i < ls.length := (List.getElem?_eq_some_iff.1 hl).1
 have hput := kB cs off l.cells cs' w hwb hp
 refine ⟨⟨by rw [fb]; exact h.le.size, ?_, ?_, ?_, ?_, fun k o hk => ?_⟩, ⟨h.kept.size, fun k hk => ?_⟩, h.sz, by simp [h.len], h.nodup, fun j l' c hl' hc => ?_, h.new⟩
 ·have : ∀ (cs : List Value) (o : Nat) (w : World), (ae w b o cs).tape = w.tape := by intro cs; induction cs with | nil => intros; rfl | cons c cs ih => intro o w; rw [ae, ih]; rfl
  rw [this]; exact h.le.tape
 ·have : ∀ (cs : List Value) (o : Nat) (w : World), (ae w b o cs).drawn = w.drawn := by intro cs; induction cs with | nil => intros; rfl | cons c cs ih => intro o w; rw [ae, ih]; rfl
  rw [this]; exact h.le.drawn
 ·have : ∀ (cs : List Value) (o : Nat) (w : World), (ae w b o cs).os = w.os := by intro cs; induction cs with | nil => intros; rfl | cons c cs ih => intro o w; rw [ae, ih]; rfl
  rw [this]; exact h.le.os
 ·have : ∀ (cs : List Value) (o : Nat) (w : World), (ae w b o cs).output = w.output := by intro cs; induction cs with | nil => intros; rfl | cons c cs ih => intro o w; rw [ae, ih]; rfl
  rw [this]; exact h.le.output
 ·by_cases hkb : k = b
  ·subst hkb; rw [hub] at hk; simp only [Option.some.injEq] at hk; exact .inl hk.symm
  ·rw [bE _ _ _ _ hkb]; exact h.le.block k o hk
 ·obtain ⟨h1, h2⟩ := h.kept.hole k hk
  have hne : k ≠ b := by
   have h3 := h.new b (List.mem_of_getElem? hb)
   have h4 := (Array.getElem?_eq_some_iff.1 hk).1
   omega
  rw [bE _ _ _ _ hne]
  exact ⟨h1, h2⟩
 ·by_cases hj : j = i
  ·subst hj
   rw [List.getElem?_set_self hil] at hl'
   simp only [Option.some.injEq] at hl'
   subst hl'
   rw [hb] at hc
   simp only [Option.some.injEq] at hc
   subst hc
   exact ⟨hub, hput⟩
  ·rw [List.getElem?_set_ne (by omega)] at hl'
   obtain ⟨h1, h2⟩ := h.own j l' c hl' hc
   have hne : c ≠ b := by
    intro e
    subst e
    have hjl : j < ρ.length := (List.getElem?_eq_some_iff.1 hc).1
    have := (List.getElem?_inj hjl h.nodup).1 (hc.trans hb.symm)
    exact hj this
   rw [bE _ _ _ _ hne]
   exact ⟨h1, h2⟩
theorem MS.call (h : MS u0 w0 ρ ls u w) {u' w' : World} (hl : Le u' w') (hk : Kept u w u' w') : MS u0 w0 ρ ls u' w' := by
 refine ⟨hl, ⟨Nat.le_trans h.kept.size hk.size, fun k h0 => ?_⟩, Nat.le_trans h.sz hk.size, h.len, h.nodup, fun i l b hl' hb => ?_, h.new⟩
 ·obtain ⟨h1, h2⟩ := h.kept.hole k h0
  obtain ⟨h3, h4⟩ := hk.hole k h1
  exact ⟨h3, h4.trans h2⟩
 ·obtain ⟨h1, h2⟩ := h.own i l b hl' hb
  obtain ⟨h3, h4⟩ := hk.hole b h1
  exact ⟨h3, h4.trans h2⟩
end ms
theorem kW (u : World) (o : Obj) : u.heap.size <= (ab u o).heap.size := by simp [ab]
theorem xf (u : World) (p : Option Addr) (off : Nat) (cs : List Value) : u.heap.size <= (bj u p off cs).heap.size := by cases p <;> simp [bj, fb]
theorem cK.wr {u0 w0 u w w' : World} {ρ : List Nat} {ls : List Loc} {a : Act} {o : Oper} {k : KO} {y : Value} {u' : World} (h : k (.v y) ls u' .wr) (hm : MS u0 w0 ρ ls u' w') (hsz : u.heap.size <= u'.heap.size) : cK u0 w0 ρ ls u w a o k (a.put o.dst y) w' :=
 ⟨.v y, ls, u', .wr, y, ρ, h, rfl, ⟨[], by simp, by simp⟩, rfl, hm, hsz, fun _ _ => rfl⟩
theorem cK.read {P : Program} {u0 w0 u w : World} {ρ : List Nat} {ls : List Loc} {a : Act} {o : Oper} {k : KO} {Q : Exit -> Act -> World -> Prop} (hm : MS u0 w0 ρ ls u w) (h : aR P ρ ls u w a o k) : o.wp P a w (cK u0 w0 ρ ls u w a o k) Q := by
 obtain ⟨s, v, e, hk, hs, hc, _, hr⟩ := h
 unfold Oper.wp
 rw [hr w hc]
 refine ⟨s, ls, u, e, v, ρ, hk, rfl, ⟨[], by simp, by simp⟩, hs, hm, Nat.le_refl _, ?_⟩
 cases e <;> first | exact ⟨rfl, rfl⟩ | exact hc.elim
theorem CE {z : List Value} : ∀ (n j : Nat), j < n * z.length -> (aS n z)[j]? = z[j % z.length]?
 | 0, j, h => by simp at h
 | n + 1, j, h => by
  have e : aS (n + 1) z = z ++ aS n z := by simp [aS, List.replicate_succ]
  rw [e]
  rcases Nat.lt_or_ge j z.length with hj | hj
  ·rw [List.getElem?_append_left hj, Nat.mod_eq_of_lt hj]
  ·rw [List.getElem?_append_right hj, CE n (j - z.length) (by rw [Nat.add_mul, Nat.one_mul] at h; omega), Nat.mod_eq_sub_mod hj]
theorem jm (n : Nat) (z : List Value) : (aS n z).length = n * z.length := by
 induction n with
 | zero => simp [aS]
 | succ n ih => rw [show aS (n + 1) z = z ++ aS n z by simp [aS, List.replicate_succ], List.length_append, ih, Nat.add_mul, Nat.one_mul, Nat.add_comm]
theorem pS (n : Nat) (z : List Value) (hz : z ≠ []) : ((Array.range (n * z.length)).map fun i => z.toArray[i % z.toArray.size]!) = (aS n z).toArray := by
 have hpos : 0 < z.length := List.length_pos_iff.2 hz
 apply Array.ext'
 apply List.ext_getElem?
 intro j
 rw [Array.getElem?_toList, Array.getElem?_map]
 rcases Nat.lt_or_ge j (n * z.length) with h | h
 ·have hm : j % z.length < z.length := Nat.mod_lt _ hpos
  rw [show (Array.range (n * z.length))[j]? = some j by simp [h]]
  simp only [Option.map_some, List.size_toArray]
  rw [CE n j h, List.getElem?_eq_getElem hm]
  simp [hm]
 ·rw [Array.getElem?_eq_none (by simpa using h)]
  simp only [Option.map_none]
  rw [List.getElem?_eq_none (by rw [jm]; exact h)]
theorem kE {P : Program} {t : TypeId} {ti : TI} (h : TIok P t ti) (hk : ∀ ts, ti.k ≠ .tuple ts) : ∃ i z, P.info? t = some i /\ i.zero = some z /\ z.cells = ti.zero.toArray := by
 have hz := h.zero
 cases hki : ti.k <;> rw [hki] at hz <;> first | exact hz | exact absurd hki (hk _)
theorem cK.jK {P : Program} {u0 w0 u w : World} {ρ : List Nat} {ls : List Loc} {a : Act} {o : Oper} {k : KO} {Q : Exit -> Act -> World -> Prop} {y : Value} {w' : World} (hr : (execOp a.eval o).run P w = .ok (.value y) w') (h : cK u0 w0 ρ ls u w a o k (a.put o.dst y) w') :
  o.wp P a w (cK u0 w0 ρ ls u w a o k) Q := by
 unfold Oper.wp
 rw [hr]
 exact h
section
variable {C : Ctx} {ρ : List Nat} {fr : List SV} {ls : List Loc} {u0 w0 u w : World} {a : Act} {Q : Exit -> Act -> World -> Prop}
theorem CA (hm : MS u0 w0 ρ ls u w) {o : Oper} {t : TypeId} {big : Bool} {cells : List Value} {k : KO} (h : Hx C o.dst t big cells ls u k)
  (hr : (execOp a.eval o).run C.P w = .ok (.value (.pointer (some ⟨w.heap.size, 0, none⟩))) (ab w (.cells cells.toArray t))) : o.wp C.P a w (cK u0 w0 ρ ls u w a o k) Q := by
 refine cK.jK hr ?_
 unfold Hx at h
 split at h
 ·rw [hm.le.size]
  exact cK.wr h (hm.alloc _) (kW _ _)
 ·refine ⟨.lp ls.length 0, _, _, .wr, _, ρ ++ [u.heap.size], h, rfl, ⟨[u.heap.size], rfl, by simp⟩, ⟨u.heap.size, ?_, by rw [hm.le.size]⟩, hm.GC t _ cells, kW _ _, fun m hlt => ?_⟩
  ·rw [<- hm.len]; simp
  ·rw [List.getElem?_append_left hlt]
theorem xy {P : Program} (t : TypeId) (v : Value) (w : World) : (newVar t v).run P w = .ok ⟨w.heap.size, 0, none⟩ (ab w (.cells v.cells t)) := by
 simp only [newVar, newRow, Sem.run_bind, run_newObj, Result.andThen_ok, Sem.run_pure]
 rfl
theorem DE (hC : bS C) (hm : MS u0 w0 ρ ls u w) (hf : cm ρ fr a) {dst : Option Tmp} {t : TypeId} {x y : Operand} {ty : TypeId} {pos : String} {after : Array Edge} {g : Option (Nat × Bool)} {k : KO}
  (h : wOp C ⟨dst, .store t x y, ty, pos, after, g⟩ fr ls u k) : (Oper.mk dst (.store t x y) ty pos after g).wp C.P a w (cK u0 w0 ρ ls u w a ⟨dst, .store t x y, ty, pos, after, g⟩ k) Q := by
 simp only [wOp] at h
 split at h
 ·rename_i v hv
  have hy := cd hf hv
  unfold wStore at h
  split at h
  ·rename_i ti hti
   have hti' := hC.ti t ti hti
   have run : ∀ (b q : Nat), a.eval x = .pointer (some ⟨b, q, none⟩) -> ti.size = v.cells.toList.length -> (∀ c ∈ v.cells.toList, plain c = true) -> Wr w b q ti.size ->
     (execOp a.eval ⟨dst, .store t x y, ty, pos, after, g⟩).run C.P w = .ok .skip (ae w b q v.cells.toList) := fun b q hx hz hp hw => by
    simp only [execOp, hx, hy, Sem.run_bind, CJ hti' hz hp hw, Result.andThen_ok, Sem.run_pure]
   have fin : ∀ (b q : Nat) (s : SV) (ls' : List Loc) (u' : World) (e : Eff), a.eval x = .pointer (some ⟨b, q, none⟩) -> ti.size = v.cells.toList.length -> (∀ c ∈ v.cells.toList, plain c = true) -> Wr w b q ti.size -> k .ah ls' u' e ->
     MS u0 w0 ρ ls' u' (ae w b q v.cells.toList) -> u.heap.size <= u'.heap.size -> Gd e ρ ls ls' w (ae w b q v.cells.toList) -> (Oper.mk dst (.store t x y) ty pos after g).wp C.P a w (cK u0 w0 ρ ls u w a ⟨dst, .store t x y, ty, pos, after, g⟩ k) Q :=
    fun b q s ls' u' e hx hz hp hw hk hm' hle he => by
     unfold Oper.wp
     rw [run b q hx hz hp hw]
     exact ⟨.ah, ls', u', e, undef, ρ, hk, rfl, ⟨[], by simp, by simp⟩, trivial, hm', hle, he⟩
   split at h
   ·rename_i i off hx
    obtain ⟨b, hb, hx'⟩ := BK hf hx
    split at h
    ·rename_i l hl
     obtain ⟨hub, hwb⟩ := hm.own i l b hl hb
     have loc : ∀ cs, putN l.cells off v.cells.toList = some cs -> ti.size = v.cells.toList.length -> (∀ c ∈ v.cells.toList, plain c = true) -> k .ah (ls.set i { l with cells := cs }) u (.oA i) ->
       (Oper.mk dst (.store t x y) ty pos after g).wp C.P a w (cK u0 w0 ρ ls u w a ⟨dst, .store t x y, ty, pos, after, g⟩ k) Q := fun cs hp hz hpl hk => by
      refine fin b off .ah _ u (.oA i) hx' hz hpl (by rw [hz]; exact pt hwb hp) hk (hm.local hl hb hp) (Nat.le_refl _) ⟨fun m hne => by rw [List.getElem?_set_ne (by omega)], fun j hj => bE _ _ _ _ (hj b hb)⟩
     split at h
     ·obtain ⟨hz, h⟩ := h
      rw [bm] at h
      obtain ⟨hp, cs, hput, hk⟩ := h
      exact loc cs hput hz hp hk
     ·split at h
      ·rename_i hz
       have hz' := Nat.eq_of_beq_eq_true hz
       split at h
       ·rename_i cs hput
        rw [bm] at h
        exact loc cs hput hz' h.1 h.2
       ·exact h.elim
      ·exact h.elim
    ·exact h.elim
   ·rename_i b q hx
    have hx' := kY hf hx
    obtain ⟨hz, h⟩ := h
    rw [bm] at h
    obtain ⟨hp, hw, hk⟩ := h
    refine fin b q .ah ls _ .wr hx' hz hp (hm.le.wr hw) hk (hm.put (by rw [<- hz]; exact hw)) (by rw [fb]; exact Nat.le_refl _) (fun _ _ => rfl)
   ·exact h.elim
  ·exact h.elim
 ·exact h.elim
theorem nextslicecap_le (need cap : Nat) (h : cap < need) : Builtin.nextslicecap need cap <= 2 * need + 192 := by
 have grow : ∀ (r c : Nat), c <= 2 * need + 192 -> Builtin.growBy need r c <= 2 * need + 192 := by
  intro r
  induction r with
  | zero => intro c hc; exact hc
  | succ r ih =>
   intro c hc
   rw [Builtin.growBy]
   split
   ·exact hc
   ·exact ih _ (by omega)
 unfold Builtin.nextslicecap
 split
 ·omega
 ·split
  ·omega
  ·exact grow 4 cap (by omega)
theorem DS {t t' e : TypeId} {ei : TI} {ats : Array TypeId} {ty : TypeId} (ha : ats = #[t, t']) (he : TIok C.P e ei) (hk : ∀ ts, ei.k ≠ .tuple ts) (hd : C.P.underlying t = some (.slice e)) (hd' : ∃ d, C.P.underlying t' = some d /\ ∀ k, d ≠ .int k)
  {p : Option Addr} {n c m : Nat} {x : Value} {old new : List Value} (ho : old.length = n * ei.size) (hold : Gets w p old) 
  (hlen : ∀ w', (Builtin.lenOf x).run C.P w' = .ok m w') (hcells0 : (Builtin.firstCells ei.size m x).run C.P w = .ok new.toArray w) (hcells1 : (Builtin.firstCells ei.size m x).run C.P (af w) = .ok new.toArray (af w))
  (hb : 0 < ei.bytes) (hroom : (2 * (n + m) + 192) * ei.bytes <= 140737488355328) (hp : ∀ y ∈ new, plain y = true) (hw : n + m <= c -> WrS w p (n * ei.size) new.length) :
  (n + m <= c /\ (Builtin.append_ ats ty #[.slice p n c, x]).run C.P w = .ok (.slice p (n + m) c) (bj w p (n * ei.size) new)) \/
  (c < n + m /\ ∃ cap, n + m <= cap /\ (Builtin.append_ ats ty #[.slice p n c, x]).run C.P w = .ok (.slice (some ⟨w.heap.size, 0, none⟩) (n + m) cap) (ab (af w) (.cells (old ++ new ++ aS (cap - (n + m)) ei.zero).toArray e))) := by
 subst ha
 obtain ⟨dd, hdd, hni⟩ := hd'
 obtain ⟨inf, hinf, hsz, hby⟩ := he.info
 obtain ⟨inf', z, hinf', hzz, hzc⟩ := kE he hk
 rw [hinf] at hinf'
 simp only [Option.some.injEq] at hinf'
 subst hinf'
 have hzl : ei.zero.length = ei.size := by
  have := he.Ha
  cases hki : ei.k <;> rw [hki] at this <;> first | exact this | exact absurd hki (hk _)
 by_cases hc : n + m <= c
 ·refine .inl ⟨hc, ?_⟩
  simp only [Builtin.append_, List.getElem?_toArray, List.getElem?_cons_zero, List.getElem?_cons_succ, Sem.run_bind, av hd, Result.andThen_ok, run_sizeOf he, av hdd, Bool.false_eq_true, ↓reduceIte, hlen, hc, Bool.not_false, hcells0, Sem.run_pure, Sem.run_ite]
  cases p with
  | none => simp [bj]
  | some ad =>
   have := fF (P := C.P) (hw hc) hp
   simp only [bj, Sem.run_bind, this, Result.andThen_ok, Sem.run_pure]
 ·refine .inr ⟨by omega, ?_⟩
  have hcapq : ∀ tp, ∃ cap, n + m <= cap /\ (Question.appendCap (n + m) c e).cut tp = cap := fun tp => ⟨_, Nat.le_add_right _ _, rfl⟩
  obtain ⟨cap, hcap, hcut⟩ := hcapq (w.tape w.drawn (.appendCap (n + m) c e))
  refine ⟨cap, hcap, ?_⟩
  have hns := nextslicecap_le (n + m) c (by omega)
  have h1 : ¬ Builtin.nextslicecap (n + m) c * inf.bytes > 2 ^ 48 := by
   rw [hby]
   have := Nat.mul_le_mul_right ei.bytes hns
   omega
  have hforced : (Question.appendCap (n + m) c e).forced = false := rfl
  have hfirst : (Builtin.firstCells ei.size n (.slice p n c)).run C.P (af w) = .ok old.toArray (af w) := by
   cases p with
   | none =>
    have : old = [] := hold
    subst this
    simp [Builtin.firstCells]
   | some ad =>
    have hr : Gets (af w) (some ad) old := ⟨hold.1, by
     have := hold.2
     rw [l8] at this ⊢
     exact this⟩
    simp only [Builtin.firstCells]
    rw [<- ho]
    exact cI hr
  have hzero : ∀ k : Nat, Builtin.zeroCells ei.zero.toArray k = (aS k ei.zero).toArray := fun k => by
   by_cases hz0 : ei.zero = []
   ·rw [hz0]; simp [Builtin.zeroCells, aS]
   ·unfold Builtin.zeroCells
    rw [<- pS k ei.zero hz0]
    simp
  simp only [Builtin.append_, List.getElem?_toArray, List.getElem?_cons_zero, List.getElem?_cons_succ, Sem.run_bind, av hd, Result.andThen_ok, run_sizeOf he, av hdd, Bool.false_eq_true, ↓reduceIte, hlen, hc, Sem.run_ite, typeInfo, run_program, hinf, Sem.run_pure]
  simp only [hby] at *
  have h2' : ¬ (((n + m : Nat) : Int) > IntKind.i64.max /\ (False \/ ei.bytes = 0)) := by
   intro h
   rcases h.2 with h3 | h3
   ·exact h3
   ·omega
  rw [if_neg h2', if_neg h1]
  simp only [run_choose, hforced, Bool.false_eq_true, if_false, hcut, run_askRoom, Result.andThen_ok]
  have hdw : ({ w with drawn := w.drawn + 1 } : World) = af w := rfl
  rw [hdw]
  simp only [hfirst, Result.andThen_ok, Bool.not_false, if_true, hcells1, zeroValue, typeInfo, Sem.run_bind, run_program, hinf, Sem.run_pure, hzz, hzc, hzero, newRow, run_newObj]
  congr 1
  simp [ab]
theorem BO {t t' e : TypeId} {ei : TI} {ats : Array TypeId} {ty : TypeId} (ha : ats = #[t, t']) (he : TIok C.P e ei) (hk : ∀ ts, ei.k ≠ .tuple ts) (hd : C.P.underlying t = some (.slice e)) {kn : IntKind} (hd' : C.P.underlying t' = some (.int kn))
  {p : Option Addr} {n c m : Nat} {kq : IntKind} {old : List Value} (ho : old.length = n * ei.size) (hold : Gets w p old) (hb : 0 < ei.bytes) (hs : 0 < ei.size) (h0 : 0 < m) (hc : c < n + m) (hroom : (2 * (n + m) + 192) * ei.bytes <= 140737488355328) :
  ∃ cap, n + m <= cap /\ (Builtin.append_ ats ty #[.slice p n c, .int kq (m : Nat)]).run C.P w = .ok (.slice (some ⟨w.heap.size, 0, none⟩) (n + m) cap) (ab (af w) (.cells (old ++ aS m ei.zero ++ aS (cap - (n + m)) ei.zero).toArray e)) := by
 subst ha
 obtain ⟨inf, hinf, hsz, hby⟩ := he.info
 obtain ⟨inf', z, hinf', hzz, hzc⟩ := kE he hk
 rw [hinf] at hinf'
 simp only [Option.some.injEq] at hinf'
 subst hinf'
 have hfirst : (Builtin.firstCells inf.size n (.slice p n c)).run C.P w.drew = .ok old.toArray w.drew := by
  rw [hsz]
  cases p with
  | none =>
   have : old = [] := hold
   subst this
   simp [Builtin.firstCells]
  | some ad =>
   have hr : Gets (af w) (some ad) old := ⟨hold.1, by
    have := hold.2
    rw [l8] at this ⊢
    exact this⟩
   simp only [Builtin.firstCells]
   rw [<- ho]
   exact cI hr
 have hzero : ∀ k : Nat, Builtin.zeroCells z.cells k = (aS k ei.zero).toArray := fun k => by
  rw [hzc]
  by_cases hz0 : ei.zero = []
  ·rw [hz0]; simp [Builtin.zeroCells, aS]
  ·unfold Builtin.zeroCells
   rw [<- pS k ei.zero hz0]
   simp
 have hns := nextslicecap_le (n + m) c hc
 have hmul := Nat.mul_le_mul_right ei.bytes hns
 have hm1 : m * ei.bytes <= (2 * (n + m) + 192) * ei.bytes := Nat.mul_le_mul_right _ (by omega)
 have hm2 : (n + m) * 1 <= (2 * (n + m) + 192) * ei.bytes := Nat.mul_le_mul (by omega) hb
 have := Lib.run_append_grow_zeros w t t' ty e inf z kq kn hd hd' hinf hzz p n c old hfirst m h0 (by rw [hsz]; exact hs) hc (by omega) (by rw [hby]; omega) (by rw [hby]; omega)
 refine ⟨grownCap w (n + m) c e, grownCap_ge w (n + m) c e, ?_⟩
 rw [this]
 congr 1
 unfold ab af World.alloc World.drew
 simp only [hzero]
 congr 3
 simp
end
section
variable {C : Ctx} {ρ : List Nat} {fr : List SV} {ls : List Loc} {u0 w0 u w : World} {a : Act} {Q : Exit -> Act -> World -> Prop}
theorem G8 {w : World} {b o : Nat} {cs : List Value} (h : Rd w b o cs) : Rd (af w) b o cs := by rw [l8] at *; exact h
theorem ES {w : World} {p : Option Addr} {cs : List Value} (h : Gets w p cs) : Gets (af w) p cs := by
 cases p with
 | none => exact h
 | some a => exact ⟨h.1, G8 h.2⟩
theorem lQ {P : Program} {w : World} {p : Option Addr} {es m c : Nat} {cs : List Value} (h : Gets w p cs) (hl : cs.length = m * es) : (Builtin.firstCells es m (.slice p m c)).run P w = .ok cs.toArray w := by
 cases p with
 | none =>
  have : cs = [] := h
  subst this
  rfl
 | some ad =>
  simp only [Builtin.firstCells]
  rw [<- hl]
  exact cI h
theorem rm {P : Program} {w : World} {p : Option Addr} {es n m c : Nat} {cs : List Value} (h : Gets w p cs) (hl : cs.length = n * es) : (Builtin.firstCells es n (.slice p m c)).run P w = .ok cs.toArray w := by
 cases p with
 | none =>
  have : cs = [] := h
  subst this
  rfl
 | some ad =>
  simp only [Builtin.firstCells]
  rw [<- hl]
  exact cI h
theorem kI {P : Program} {w : World} {es : Nat} {s : ByteArray} : (Builtin.firstCells es s.size (.string s)).run P w = .ok (aV s).toArray w := by
 simp only [Builtin.firstCells, Sem.run_pure]
 congr 1
 apply Array.ext'
 simp [aV]
theorem zH (hC : bS C) (hm : MS u0 w0 ρ ls u w) (hf : cm ρ fr a) {dst : Option Tmp} {b : Builtin} {xs : Array Operand} {ats : Array TypeId} {ty : TypeId} {pos : String} {after : Array Edge} {g : Option (Nat × Bool)} {k : KO}
  {args : List Value} (hargs : asVs fr xs.toList = some args) (h : wBuiltin C b ats.toList args u fun y u e => k (.v y) ls u e) :
  (Oper.mk dst (.call ⟨.builtin b, xs, ats⟩) ty pos after g).wp C.P a w (cK u0 w0 ρ ls u w a ⟨dst, .call ⟨.builtin b, xs, ats⟩, ty, pos, after, g⟩ k) Q := by
 have hxs : xs.map a.eval = args.toArray := by
  have := kz hf _ _ hargs
  apply Array.ext'
  simp [this]
 by_cases hb : b = .len \/ b = .max \/ b = .min
 ·exact cK.read hm (read_builtin hC hf hb hargs h)
 have run : ∀ (y : Value) (w' : World), (builtin b ats ty (xs.map fun | .const _ => true | _ => false) args.toArray).run C.P w = .ok (.value y) w' -> (execOp a.eval ⟨dst, .call ⟨.builtin b, xs, ats⟩, ty, pos, after, g⟩).run C.P w = .ok (.value y) w' := fun y w' hr => by
  rw [BigFrame.execOp_builtin, hxs]
  exact hr
 obtain ⟨atl⟩ := ats
 simp only at h
 cases b <;> simp only [wBuiltin] at h <;> (try exact (hb (.inl rfl)).elim) <;> (try exact (hb (.inr (.inl rfl))).elim) <;> (try exact (hb (.inr (.inr rfl))).elim)
 case append =>
  unfold wAppend at h
  rcases atl with _ | ⟨t, _ | ⟨t', _ | ⟨t'', atl⟩⟩⟩ <;> try (simp only at h)
  rcases args with _ | ⟨x, _ | ⟨y, _ | ⟨z, args⟩⟩⟩ <;> try (simp only at h)
  cases x <;> try (simp only at h)
  rename_i p n c
  have fin : ∀ (e : TypeId) (ei : TI) (m : Nat) (src : List Value -> Prop), elemTI C t = some (e, ei) -> C.P.underlying t = some (.slice e) -> (∃ d, C.P.underlying t' = some d /\ ∀ k, d ≠ .int k) ->
    (∀ w', (Builtin.lenOf y).run C.P w' = .ok m w') -> (∀ new, src new -> new.length = m * ei.size -> (Builtin.firstCells ei.size m y).run C.P w = .ok new.toArray w /\ (Builtin.firstCells ei.size m y).run C.P (af w) = .ok new.toArray (af w)) ->
    yn u e ei.size ei.bytes ei.zero p n c m src (fun y u' => k (.v y) ls u' .wr) ->
    (Oper.mk dst (.call ⟨.builtin .append, xs, [t, t'].toArray⟩) ty pos after g).wp C.P a w (cK u0 w0 ρ ls u w a ⟨dst, .call ⟨.builtin .append, xs, [t, t'].toArray⟩, ty, pos, after, g⟩ k) Q := by
   intro e ei m src he hd hd' hlen hcells hv
   obtain ⟨hti, _, htup, _⟩ := aN hC he
   obtain ⟨old, new, ho, hold, hn, hsrc, heb, hroom, hp, h1, h2⟩ := hv
   rw [bm] at hp
   obtain ⟨hc0, hc1⟩ := hcells new hsrc hn
   rcases DS (C := C) (ty := ty) rfl hti htup hd hd' ho (hm.le.aH hold) hlen hc0 hc1 heb hroom hp.1 (fun hc => by rw [hn]; exact hm.le.wrs (h1 hc)) with ⟨hc, hr⟩ | ⟨hc, cap, hcap, hr⟩
   ·refine cK.jK (y := .slice p (n + m) c) (w' := bj w p (n * ei.size) new) (run _ _ (by rw [BigFrame.builtin_append, Sem.run_bind, hr]; rfl)) ?_
    exact cK.wr (h2 _ _ _ (.inl ⟨hc, rfl, rfl, rfl⟩)) (hm.bj (by rw [hn]; exact h1 hc)) (xf _ _ _ _)
   ·refine cK.jK (y := .slice (some ⟨w.heap.size, 0, none⟩) (n + m) cap) (w' := ab (af w) (.cells (old ++ new ++ aS (cap - (n + m)) ei.zero).toArray e)) (run _ _ (by rw [BigFrame.builtin_append, Sem.run_bind, hr]; rfl)) ?_
    have hk := h2 _ _ _ (.inr ⟨hc, hcap, rfl, rfl⟩)
    rw [hm.le.size]
    exact cK.wr hk (hm.drew.alloc _) (kW (af u) _)
  split at h
  ·rename_i e0 _ _ _ e ei e1 _ _ _ xp m xc ht he ht'
   obtain ⟨dd, hd, hk⟩ := bz hC ht
   simp only [TKok] at hk
   subst hk
   obtain ⟨dd', hd', hk'⟩ := bz hC ht'
   simp only [TKok] at hk'
   subst hk'
   have hee : e = e0 := by
    rcases (aN hC he).2.2.2 with ⟨_, _, _, hu⟩ | ⟨_, _, _, _, hu⟩
    ·rw [hd] at hu; simpa using hu.symm
    ·rw [hd] at hu; simp at hu
   subst hee
   exact fin e ei m _ he hd ⟨_, hd', by simp⟩ (fun w' => rfl) (fun new hs hl => ⟨lQ (hm.le.aH hs) hl, lQ (ES (hm.le.aH hs)) hl⟩) h
  ·rename_i e0 _ _ _ e ei _ _ _ s ht he ht'
   obtain ⟨dd, hd, hk⟩ := bz hC ht
   simp only [TKok] at hk
   subst hk
   obtain ⟨dd', hd', hk'⟩ := bz hC ht'
   simp only [TKok] at hk'
   subst hk'
   have hee : e = e0 := by
    rcases (aN hC he).2.2.2 with ⟨_, _, _, hu⟩ | ⟨_, _, _, _, hu⟩
    ·rw [hd] at hu; simpa using hu.symm
    ·rw [hd] at hu; simp at hu
   subst hee
   exact fin e ei s.size _ he hd ⟨_, hd', by simp⟩ (fun w' => rfl) (fun new hs _ => by obtain ⟨rfl, _⟩ := hs; exact ⟨kI, kI⟩) h
  ·rename_i e0 _ _ _ e ei kn _ _ _ kq m ht he ht'
   obtain ⟨dd, hd, hk⟩ := bz hC ht
   simp only [TKok] at hk
   subst hk
   obtain ⟨dd', hd', hk'⟩ := bz hC ht'
   simp only [TKok] at hk'
   subst hk'
   have hee : e = e0 := by
    rcases (aN hC he).2.2.2 with ⟨_, _, _, hu⟩ | ⟨_, _, _, _, hu⟩
    ·rw [hd] at hu; simpa using hu.symm
    ·rw [hd] at hu; simp at hu
   subst hee
   obtain ⟨hti, _, htup, _⟩ := aN hC he
   obtain ⟨old, ho, hold, heb, hes, h0, hc, hroom, h2⟩ := h
   obtain ⟨mn, hmn⟩ : ∃ mn : Nat, m = mn := ⟨m.toNat, by omega⟩
   subst hmn
   rw [Int.toNat_natCast] at h2
   have hroom' : (2 * (n + mn) + 192) * ei.bytes <= 140737488355328 := by
    have e : (((2 * (n + mn) + 192) * ei.bytes : Nat) : Int) = (2 * ((n : Int) + mn) + 192) * (ei.bytes : Int) := by simp only [Int.natCast_mul, Int.natCast_add]; rfl
    have h1 := hroom
    rw [<- e] at h1
    omega
   obtain ⟨cap, hcap, hr⟩ := BO (C := C) (ats := [t, t'].toArray) (ty := ty) (kq := kq) (m := mn) (c := c) (n := n) rfl hti htup hd hd' ho (hm.le.aH hold) heb hes (by omega) (by omega) hroom'
   refine cK.jK (y := .slice (some ⟨w.heap.size, 0, none⟩) (n + mn) cap) (w' := ab (af w) (.cells (old ++ aS mn ei.zero ++ aS (cap - (n + mn)) ei.zero).toArray e)) (run _ _ (by rw [BigFrame.builtin_append, Sem.run_bind, hr]; rfl)) ?_
   have hcn : c < n + mn := by omega
   have hk := h2 (some ⟨u.heap.size, 0, none⟩) cap _ (.inr ⟨hcn, hcap, rfl, rfl⟩)
   rw [hm.le.size]
   exact cK.wr hk (hm.drew.alloc _) (kW (af u) _)
  ·exact h.elim
 case cap =>
  unfold wCap at h
  rcases atl with _ | ⟨t, _ | ⟨t', atl⟩⟩ <;> try (simp only at h)
  rcases args with _ | ⟨x, _ | ⟨y, args⟩⟩ <;> try (simp only at h)
  cases x <;> try (simp only at h)
  rename_i p n c
  split at h
  ·rename_i ht
   obtain ⟨dd, hd, hk⟩ := bz hC ht
   simp only [TKok] at hk
   subst hk
   refine cK.jK (run _ w ?_) (cK.wr h hm (Nat.le_refl _))
   simp [builtin, Builtin.cap_, goInt, av hd]
  ·exact h.elim
 case clear =>
  unfold wClear at h
  rcases atl with _ | ⟨t, _ | ⟨t', atl⟩⟩ <;> try (simp only at h)
  rcases args with _ | ⟨x, _ | ⟨y, args⟩⟩ <;> try (simp only at h)
  cases x <;> try (simp only at h)
  rename_i p n c
  split at h
  ·rename_i e0 _ _ _ e ei ht he
   obtain ⟨dd, hd, hk⟩ := bz hC ht
   simp only [TKok] at hk
   subst hk
   have hee : e = e0 := by
    rcases (aN hC he).2.2.2 with ⟨_, _, _, hu⟩ | ⟨_, _, _, _, hu⟩
    ·rw [hd] at hu; simpa using hu.symm
    ·rw [hd] at hu; simp at hu
   subst hee
   obtain ⟨hti, hz, htup, _⟩ := aN hC he
   obtain ⟨hp, hw, hk⟩ := h
   rw [bm] at hp
   obtain ⟨inf, z, hinf, hzz, hzc⟩ := kE hti htup
   have hzl : ei.zero.length = ei.size := by
    have := hti.Ha
    cases hki : ei.k <;> rw [hki] at this <;> first | exact this | exact absurd hki (htup _)
   have hne : ei.zero ≠ [] := by intro e; rw [e] at hzl; exact hz hzl.symm
   have hl : (aS n ei.zero).length = n * ei.size := by rw [jm, hzl]
   refine cK.jK (run _ (bj w p 0 (aS n ei.zero)) ?_) (cK.wr hk (hm.bj (by rw [hl]; exact hw)) (xf _ _ _ _))
   have hw' := hm.le.wrs hw
   cases p with
   | none => simp [builtin, Builtin.clear_, av hd, bj]
   | some ad =>
    cases n with
    | zero => simp [builtin, Builtin.clear_, av hd, bj, aS, ae]
    | succ n =>
     have hst := fF (P := C.P) (ad := ad) (off := 0) (cs := aS (n + 1) ei.zero) (w := w) (by rw [hl]; exact hw') hp.1
     have e1 : ad.add 0 = ad := by obtain ⟨b, o, s⟩ := ad; cases s <;> simp [Addr.add]
     rw [e1] at hst
     have hzero : Builtin.zeroCells ei.zero.toArray (n + 1) = (aS (n + 1) ei.zero).toArray := by
      unfold Builtin.zeroCells
      rw [<- pS (n + 1) ei.zero hne]
      simp
     simp [builtin, Builtin.clear_, av hd, zeroValue, typeInfo, hinf, hzz, hzc, hzero, hst, bj]
  ·exact h.elim
 case copy =>
  unfold wCopy at h
  rcases atl with _ | ⟨t, _ | ⟨t', _ | ⟨t'', atl⟩⟩⟩ <;> try (simp only at h)
  rcases args with _ | ⟨x, _ | ⟨y, _ | ⟨z, args⟩⟩⟩ <;> try (simp only at h)
  cases x <;> try (simp only at h)
  rename_i p n c
  split at h
  ·rename_i e0 _ _ _ e ei xp m xc ht he
   obtain ⟨dd, hd, hk⟩ := bz hC ht
   simp only [TKok] at hk
   subst hk
   have hee : e = e0 := by
    rcases (aN hC he).2.2.2 with ⟨_, _, _, hu⟩ | ⟨_, _, _, _, hu⟩
    ·rw [hd] at hu; simpa using hu.symm
    ·rw [hd] at hu; simp at hu
   subst hee
   obtain ⟨hti, _, _, _⟩ := aN hC he
   obtain ⟨cs, hl, hsrc, hp, hw, hk⟩ := h
   rw [bm] at hp
   have hfc := rm (P := C.P) (m := m) (c := xc) (hm.le.aH hsrc) hl
   refine cK.jK (run _ (bj w p 0 cs) ?_) (cK.wr hk (hm.bj (by rw [hl]; exact hw)) (xf _ _ _ _))
   have hw' := hm.le.wrs hw
   have hstore : ((match p with | some ad => storeCells ad cs | none => pure ()) : Sem Unit).run C.P w = .ok () (bj w p 0 cs) := by
    cases p with
    | none => rfl
    | some ad =>
     have := fF (P := C.P) (ad := ad) (off := 0) (cs := cs) (w := w) (by rw [hl]; exact hw') hp.1
     have e : ad.add 0 = ad := by obtain ⟨b, o, s⟩ := ad; cases s <;> simp [Addr.add]
     rw [e] at this
     simpa [bj] using this
   rw [BigFrame.builtin_copy]
   simp only [Builtin.copy_, List.getElem?_toArray, List.getElem?_cons_zero, List.getElem?_cons_succ, Sem.run_bind, av hd, Result.andThen_ok, Builtin.lenOf, Sem.run_pure, run_sizeOf hti]
   rw [show Nat.min m n = min m n from rfl, hfc]
   simp only [Result.andThen_ok]
   cases p with
   | none => simp [bj, goInt]
   | some ad =>
    simp only at hstore
    simp [hstore, goInt]
  ·exact h.elim
theorem vL (hC : bS C) (hm : MS u0 w0 ρ ls u w) (hf : cm ρ fr a) {dst : Option Tmp} {t : TypeId} {n : Nat} {parts : Array (Nat × Operand)} {ty : TypeId} {pos : String} {after : Array Edge} {g : Option (Nat × Bool)} {k : KO}
  (h : wOp C ⟨dst, .buildSlice t n parts, ty, pos, after, g⟩ fr ls u k) : (Oper.mk dst (.buildSlice t n parts) ty pos after g).wp C.P a w (cK u0 w0 ρ ls u w a ⟨dst, .buildSlice t n parts, ty, pos, after, g⟩ k) Q := by
 simp only [wOp] at h
 split at h
 ·rename_i e0 _ _ _ e ei l ht he hl
  obtain ⟨dd, hd, hk⟩ := bz hC ht
  simp only [TKok] at hk
  subst hk
  have hee : e = e0 := by
   rcases (aN hC he).2.2.2 with ⟨_, _, _, hu⟩ | ⟨_, _, _, _, hu⟩
   ·rw [hd] at hu; simpa using hu.symm
   ·rw [hd] at hu; simp at hu
  subst hee
  obtain ⟨hti, hz, htup, _⟩ := aN hC he
  split at h
  ·rename_i hble
   have hle := Nat.le_of_ble_eq_true hble
   split at h
   ·rename_i cells hfill
    have hparts := pO hf parts.toList l hl
    have hpl : (parts.map fun (i, x) => (i, a.eval x)).toList = l := by rw [<- hparts]; simp
    obtain ⟨inf, z, hinf, hzz, hzc⟩ := kE hti htup
    have hzl : ei.zero.length = ei.size := by
     have := hti.Ha
     cases hki : ei.k <;> rw [hki] at this <;> first | exact this | exact absurd hki (htup _)
    have hne : ei.zero ≠ [] := by intro e; rw [e] at hzl; exact hz hzl.symm
    have hfs := qf hC (t := t) (place := fun i => some (i * ei.size, ei.size)) (fun i off fi hm => by
     rw [ht] at hm
     simp only [he, Option.map_some, Option.some.injEq, Prod.mk.injEq] at hm
     rw [<- hm.1, <- hm.2]) l (aS n ei.zero) cells hfill
    refine cK.jK (y := .slice (some ⟨w.heap.size, 0, none⟩) n n) (w' := ab w (.cells cells.toArray e)) ?_ (by rw [hm.le.size]; exact cK.wr h (hm.alloc _) (kW _ _))
    have hbig : ¬ n * ei.size > 2 ^ 24 := by omega
    simp only [execOp, Instr.buildSlice, Sem.run_bind, av hd, Result.andThen_ok, run_sizeOf hti]
    rw [if_neg hbig]
    by_cases h0 : n * ei.size = 0
    ·have hr0 : aS n ei.zero = [] := List.length_eq_zero_iff.1 (by rw [jm, hzl]; exact h0)
     rw [hr0] at hfs
     rw [if_pos h0]
     simp only [h0, Array.range_zero', List.map_toArray, List.map_nil, hpl, hfs, newRow, Sem.run_bind, run_newObj, Sem.run_pure, Result.andThen_ok]
     rfl
    ·have hrow : ((Array.range (n * ei.size)).map fun i => ei.zero.toArray[i % ei.zero.toArray.size]!) = (aS n ei.zero).toArray := by
      rw [<- hzl]
      exact pS n ei.zero hne
     rw [if_neg h0]
     simp only [zeroValue, typeInfo, Sem.run_bind, run_program, hinf, Sem.run_pure, Result.andThen_ok, hzz, hzc, hrow, hpl, hfs, newRow, run_newObj]
     rfl
   ·exact h.elim
  ·exact h.elim
 ·exact h.elim
theorem xM (hC : bS C) (hm : MS u0 w0 ρ ls u w) (hf : cm ρ fr a) {dst : Option Tmp} {t : TypeId} {l c : Operand} {ty : TypeId} {pos : String} {after : Array Edge} {g : Option (Nat × Bool)} {k : KO}
  (h : wOp C ⟨dst, .makeSlice t l c, ty, pos, after, g⟩ fr ls u k) : (Oper.mk dst (.makeSlice t l c) ty pos after g).wp C.P a w (cK u0 w0 ρ ls u w a ⟨dst, .makeSlice t l c, ty, pos, after, g⟩ k) Q := by
 simp only [wOp] at h
 split at h
 ·rename_i e0 _ _ _ e ei k1 n k2 m ht he hl hc
  obtain ⟨dd, hd, hk⟩ := bz hC ht
  simp only [TKok] at hk
  subst hk
  have hee : e = e0 := by
   rcases (aN hC he).2.2.2 with ⟨_, _, _, hu⟩ | ⟨_, _, _, _, hu⟩
   ·rw [hd] at hu; simpa using hu.symm
   ·rw [hd] at hu; simp at hu
  subst hee
  obtain ⟨hti, hz, htup, _⟩ := aN hC he
  obtain ⟨h0, h1, h2, h3, h4⟩ := h
  obtain ⟨inf', hinf', _, hby⟩ := hti.info
  obtain ⟨inf, z, hinf, hzz, hzc⟩ := kE hti htup
  rw [hinf] at hinf'
  simp only [Option.some.injEq] at hinf'
  subst hinf'
  have hzl : ei.zero.length = ei.size := by
   have := hti.Ha
   cases hki : ei.k <;> rw [hki] at this <;> first | exact this | exact absurd hki (htup _)
  have hne : ei.zero ≠ [] := by intro e; rw [e] at hzl; exact hz hzl.symm
  refine cK.jK (y := .slice (some ⟨w.heap.size, 0, none⟩) n.toNat m.toNat) (w' := ab w (.cells (aS m.toNat ei.zero).toArray e)) ?_ (by rw [hm.le.size]; exact cK.wr h4 (hm.alloc _) (kW _ _))
  have hw1 : IntKind.i64.wrap n = n := IntWalk.i64_in n (by omega)
  have hw2 : IntKind.i64.wrap m = m := IntWalk.i64_in m (by omega)
  have hcond : ¬ ((decide (m < 0) || decide ((inf.bytes : Int) * m > 2 ^ 48)) || decide (n < 0) || decide (n > m)) = true := by
   rw [hby]
   simp only [Bool.or_eq_true, decide_eq_true_eq]
   omega
  simp only [execOp, kY hf hl, kY hf hc, Instr.makeSlice, Sem.run_bind, av hd, Result.andThen_ok, asInt, asIntOf, Sem.run_pure, typeInfo, run_program, hinf, hw1, hw2]
  rw [if_neg hcond]
  simp only [run_askRoom, Result.andThen_ok, run_sizeOf hti, Sem.run_bind]
  by_cases h0 : m.toNat * ei.size = 0
  ·have hr0 : aS m.toNat ei.zero = [] := List.length_eq_zero_iff.1 (by rw [jm, hzl]; exact h0)
   rw [hr0, if_pos h0]
   simp only [h0, Array.range_zero', List.map_toArray, List.map_nil, newRow, Sem.run_bind, run_newObj, Sem.run_pure, Result.andThen_ok]
   rfl
  ·have hrow : ((Array.range (m.toNat * ei.size)).map fun i => ei.zero.toArray[i % ei.zero.toArray.size]!) = (aS m.toNat ei.zero).toArray := by
    rw [<- hzl]
    exact pS m.toNat ei.zero hne
   rw [if_neg h0]
   simp only [zeroValue, typeInfo, Sem.run_bind, run_program, hinf, Sem.run_pure, Result.andThen_ok, hzz, hzc, hrow, newRow, run_newObj]
   rfl
 ·exact h.elim
theorem FL {P : Program} {id : FuncId} {fn : Func} (hfn : P.funcs[id]? = some fn) (h1 : (fn.name == "runtime.NumGoroutine") = false) (h2 : fn.body.isNone = false) (args : Array Value) (w : World) : (callFunc id args).run P w = .ok (.enter id args) w := by
 simp only [callFunc, Sem.run_bind, run_program, Result.andThen_ok, hfn, h1, h2, Bool.false_eq_true, if_false, Sem.run_pure]
theorem yX {T : List TI} {t : TypeId} {p : Value -> Prop} (h : exTy T t p) : ∃ y, p y := by
 have one : ∀ (t : TypeId) (p : Value -> Prop), qC T t p -> ∃ y, p y := fun t p h => by
  obtain ⟨ti, hti⟩ := xC h
  obtain ⟨y, h, _⟩ := nr hti h
  exact ⟨y, h⟩
 have many : ∀ (ts : List TypeId) (p : List Value -> Prop), Du T ts p -> ∃ y, p y := by
  intro ts
  induction ts with
  | nil => intro p h; exact ⟨_, h⟩
  | cons t ts ih =>
   intro p h
   obtain ⟨x, h⟩ := one _ _ h
   obtain ⟨l, h⟩ := ih _ h
   exact ⟨_, h⟩
 unfold exTy at h
 split at h
 ·obtain ⟨l, h⟩ := many _ _ h
  exact ⟨_, h⟩
 ·exact one _ _ h
theorem E4 (hC : bS C) (hm : MS u0 w0 ρ ls u w) (hf : cm ρ fr a) {dst : Option Tmp} {f : Operand} {xs : Array Operand} {ats : Array TypeId} {ty : TypeId} {pos : String} {after : Array Edge} {g : Option (Nat × Bool)} {k : KO}
  {args : List Value} (hargs : asVs fr xs.toList = some args) (h : wCall C ⟨dst, .call ⟨.value f, xs, ats⟩, ty, pos, after, g⟩ (ev fr f) args ls u k) :
  (Oper.mk dst (.call ⟨.value f, xs, ats⟩) ty pos after g).wp C.P a w (cK u0 w0 ρ ls u w a ⟨dst, .call ⟨.value f, xs, ats⟩, ty, pos, after, g⟩ k) Q := by
 have hxs : xs.map a.eval = args.toArray := by
  have := kz hf _ _ hargs
  apply Array.ext'
  simp [this]
 unfold wCall at h
 split at h
 ·rename_i id first captured hev
  split at h
  ·rename_i hmem
   have hfe := kY hf hev
   obtain ⟨fn, hfn, h1, h2⟩ := hC.fn id hmem
   unfold Oper.wp
   have hrun : (execOp a.eval ⟨dst, .call ⟨.value f, xs, ats⟩, ty, pos, after, g⟩).run C.P w = .ok (.enter id (first ++ args.toArray ++ captured)) w := by
    simp only [execOp, resolve, Deferred.ofValue, hfe, hxs, Sem.run_bind, Sem.run_pure, Result.andThen_ok, invoke, FL hfn h1 h2]
   rw [hrun]
   have hspec := h w hm.le
   rw [show (first.toList ++ args ++ captured.toList).toArray = first ++ args.toArray ++ captured by apply Array.ext'; simp] at hspec
   refine Calls.mono hspec fun e w' ⟨u', hR, hle, hkept⟩ => ?_
   obtain ⟨y, rfl, hk⟩ := yX hR
   exact cK.wr hk (hm.call hle hkept) hkept.size
  ·have hfe := kY hf hev
   obtain ⟨y, hrun, hk⟩ := yX h
   have hr := hrun w hm.le
   rw [show (first.toList ++ args ++ captured.toList).toArray = first ++ args.toArray ++ captured by apply Array.ext'; simp] at hr
   refine cK.jK (y := y) (w' := w) ?_ (cK.wr hk hm (Nat.le_refl _))
   simp only [execOp, resolve, Deferred.ofValue, hfe, hxs, Sem.run_bind, Sem.run_pure, Result.andThen_ok, invoke, hr]
 ·exact h.elim
theorem uQ : ∀ (l : List UInt8) (s : ByteArray), (l.map fun b => ((b.toNat : Nat) : Int)).foldl (fun r n => r.push (UInt8.ofNat n.toNat)) s = ⟨s.data ++ l.toArray⟩
 | [], s => by simp
 | b :: l, s => by
  rw [List.map_cons, List.foldl_cons, uQ l]
  simp [ByteArray.push]
theorem E9 {P : Program} {w : World} {p : Option Addr} {n c : Nat} {st : ByteArray} (hsz : st.size = n) (hg : Gets w p (aV st)) : (Conv.bytesToString (.slice p n c)).run P w = .ok (.string st) w := by
 cases p with
 | none =>
  have h0 : aV st = [] := hg
  have : st = ByteArray.empty := by
   obtain ⟨⟨l⟩⟩ := st
   simp only [aV, List.map_eq_nil_iff] at h0
   subst h0
   rfl
  subst this
  rfl
 | some ad =>
  have hl := cI (P := P) hg
  have hlen : (aV st).length = n := by rw [<- hsz]; simp [aV]
  rw [hlen] at hl
  have e : aV st = ((st.data.toList.map fun b => ((b.toNat : Nat) : Int)).map (Value.int .u8)) := by simp [aV]
  rw [e] at hl
  rw [run_bytesToString w _ n c _ hl, uQ]
  congr 2
  obtain ⟨⟨l⟩⟩ := st
  simp [ByteArray.empty, ByteArray.emptyWithCapacity]
  rfl
theorem BS {P : Program} {e : TypeId} {st : ByteArray} (w : World) : ∃ cap, st.size <= cap /\ (Conv.stringToBytes e st).run P w = .ok (.slice (some ⟨w.heap.size, 0, none⟩) st.size cap) (ab (af w) (.cells (aV st ++ aS (cap - st.size) [.int .u8 0]).toArray e (cap, cap + 1))) := by
 obtain ⟨cap, hcap, hcut⟩ : ∃ cap, st.size <= cap /\ (Question.appendCap st.size 0 e).cut (w.tape w.drawn (.appendCap st.size 0 e)) = cap := ⟨_, Nat.le_add_right _ _, rfl⟩
 refine ⟨cap, hcap, ?_⟩
 have hforced : (Question.appendCap st.size 0 e).forced = false := rfl
 have hel : (st.data.map fun b => Value.int .u8 b.toNat) ++ Array.replicate (cap - st.size) (.int .u8 0) = (aV st ++ aS (cap - st.size) [.int .u8 0]).toArray := by
  apply Array.ext'
  have : aS (cap - st.size) [Value.int .u8 0] = List.replicate (cap - st.size) (.int .u8 0) := by
   generalize cap - st.size = k
   induction k with
   | zero => rfl
   | succ k ih => rw [show aS (k + 1) [Value.int .u8 0] = [Value.int .u8 0] ++ aS k [.int .u8 0] by simp [aS, List.replicate_succ], ih]; rfl
  simp [aV, this]
 have hsz : (aV st ++ aS (cap - st.size) [Value.int .u8 0]).length = cap := by
  rw [List.length_append, jm]
  have : (aV st).length = st.size := by simp [aV]
  rw [this]
  simp
  omega
 have hsh : ∀ (o : Array Value) (k : Nat), (af w).heap.size = k -> (ab (af w) (.cells o e)).shape? k = some (e, o.size) := by
  intro o k hk
  unfold World.shape?
  rw [heap_alloc, if_pos hk.symm]
 simp only [Conv.stringToBytes, Sem.run_bind, run_choose, hforced, Bool.false_eq_true, if_false, hcut, Result.andThen_ok, newRow, run_newObj, Sem.run_pure, hel, markStringish, run_shape]
 have e1 : ({ heap := w.heap.push (.cells (aV st ++ aS (cap - st.size) [.int .u8 0]).toArray e), tape := w.tape, drawn := w.drawn + 1, os := w.os, output := w.output } : World) = ab (af w) (.cells (aV st ++ aS (cap - st.size) [.int .u8 0]).toArray e) := rfl
 rw [e1, hsh _ w.heap.size rfl]
 simp only [run_freeze, List.size_toArray, hsz, Result.andThen_ok]
 congr 1
 show World.freeze _ _ _ = _
 unfold World.freeze
 rw [if_neg (by decide)]
 unfold ab
 congr 1
 apply Array.ext_getElem?
 intro i
 rw [Array.getElem?_modify]
 show (if (af w).heap.size = i then _ else _) = _
 split
 ·rename_i h
  subst h
  simp
 ·rename_i h
  simp only [Array.getElem?_push]
  rw [if_neg (by omega), if_neg (by omega)]
theorem Bt (hC : bS C) (hm : MS u0 w0 ρ ls u w) (hf : cm ρ fr a) {dst : Option Tmp} {s d : TypeId} {x : Operand} {ty : TypeId} {pos : String} {after : Array Edge} {g : Option (Nat × Bool)} {k : KO}
  (h : wOp C ⟨dst, .convert s d x, ty, pos, after, g⟩ fr ls u k) : (Oper.mk dst (.convert s d x) ty pos after g).wp C.P a w (cK u0 w0 ρ ls u w a ⟨dst, .convert s d x, ty, pos, after, g⟩ k) Q := by
 by_cases hr : isRead C ⟨dst, .convert s d x, ty, pos, after, g⟩ = true
 ·exact cK.read hm (Bh hC hm hf hr h)
 simp only [wOp] at h
 split at h
 ·rename_i y hy
  have hy' := cd hf hy
  unfold wConvert at h
  split at h
  ·rename_i hs hd
   exfalso
   apply hr
   simp only [isRead]
   rw [hs, hd]
  ·rename_i e _ _ _ _ _ _ p n c hs hd
   obtain ⟨d1, hd1, hk1⟩ := bz hC hs
   obtain ⟨d2, hd2, hk2⟩ := bz hC hd
   simp only [TKok] at hk1 hk2
   subst hk1 hk2
   split at h
   ·rename_i he
    obtain ⟨d3, hd3, hk3⟩ := bz hC he
    simp only [TKok] at hk3
    subst hk3
    obtain ⟨st, hsz, hg, hk⟩ := h
    refine cK.jK (y := .string st) (w' := w) ?_ (cK.wr hk hm (Nat.le_refl _))
    have hg' := hm.le.aH hg
    have hconv : (Conv.bytesToString (.slice p n c)).run C.P w = .ok (.string st) w := E9 hsz hg'
    simp only [execOp, hy', convert, Sem.run_bind, av hd1, av hd2, av hd3, Result.andThen_ok, hconv, Sem.run_pure]
   ·exact h.elim
  ·rename_i _ _ _ e _ _ _ st hs hd
   obtain ⟨d1, hd1, hk1⟩ := bz hC hs
   obtain ⟨d2, hd2, hk2⟩ := bz hC hd
   simp only [TKok] at hk1 hk2
   subst hk1 hk2
   split at h
   ·rename_i he
    obtain ⟨d3, hd3, hk3⟩ := bz hC he
    simp only [TKok] at hk3
    subst hk3
    obtain ⟨cap, hcap, hrun⟩ := BS (P := C.P) (e := e) (st := st) w
    refine cK.jK (y := .slice (some ⟨w.heap.size, 0, none⟩) st.size cap) ?_ (by rw [hm.le.size]; exact cK.wr (h cap hcap) (hm.drew.alloc _) (kW (af u) _))
    simp only [execOp, hy', convert, Sem.run_bind, av hd1, av hd2, av hd3, Result.andThen_ok, hrun, Sem.run_pure]
   ·exact h.elim
  ·exact h.elim
 ·exact h.elim
end
section
variable {C : Ctx} {u0 w0 : World}
theorem Ee (hC : bS C) {ρ : List Nat} {fr : List SV} {ls : List Loc} {u w : World} {a : Act} {Q : Exit -> Act -> World -> Prop} (hm : MS u0 w0 ρ ls u w) (hf : cm ρ fr a) {o : Oper} {k : KO} (h : wOp C o fr ls u k) : o.wp C.P a w (cK u0 w0 ρ ls u w a o k) Q := by
 by_cases hr : isRead C o = true
 ·exact cK.read hm (Bh hC hm hf hr h)
 obtain ⟨dst, op, ty, pos, after, g⟩ := o
 cases op <;> try (exact (hr rfl).elim)
 case alloc t =>
  simp only [wOp] at h
  split at h
  ·rename_i ti hti
   have hti' := hC.ti t ti hti
   split at h
   ·exact h.elim
   ·rename_i htup
    obtain ⟨inf, z, hinf, hzz, hzc⟩ := kE hti' (fun ts e => htup (by simp [TI.isTuple, e]))
    refine CA hm h ?_
    simp only [execOp, Instr.alloc, Sem.run_bind, zeroValue, typeInfo, run_program, hinf, Sem.run_pure, Result.andThen_ok, hzz, xy, hzc]
  ·exact h.elim
 case box t x =>
  simp only [wOp] at h
  split at h
  ·rename_i ti y hti hy
   refine CA hm h ?_
   simp only [execOp, Instr.box, cd hf hy, Sem.run_bind, xy, Result.andThen_ok, Sem.run_pure, Array.toArray_toList]
  ·exact h.elim
 case buildSlice t n parts => exact vL hC hm hf h
 case store t x y => exact DE hC hm hf h
 case convert s d x => exact Bt hC hm hf h
 case makeSlice t l c => exact xM hC hm hf h
 case call c =>
  obtain ⟨callee, xs, ats⟩ := c
  simp only [wOp] at h
  split at h
  ·rename_i args hargs
   cases callee with
   | builtin b => exact zH hC hm hf hargs h
   | value f => exact E4 hC hm hf hargs h
   | invoke r m => exact h.elim
  ·exact h.elim
 all_goals (simp only [wOp] at h)
end
theorem AS {c : CK} {x : Value} {α : Type} {f : BE c α} {R : α -> Prop} (h : apCK c x f R) {p : Value -> α -> Prop} (hp : Hu c f p) : ∃ g, p x g /\ R g := by
 cases c <;> cases x <;> try (exact h.elim)
 case int.int k k' n =>
  simp only [apCK] at h
  split at h
  ·rename_i e; subst e; exact ⟨_, hp n, h⟩
  ·exact h.elim
 case bool.bool b => exact ⟨_, hp b, h⟩
 case str.string s => exact ⟨_, hp s, h⟩
 case slice.slice a n m => exact ⟨_, hp a n m, h⟩
 case ptr.pointer a =>
  rcases a with _ | ⟨b, o, s⟩
  ·exact h.elim
  ·cases s
   ·exact ⟨_, hp b o, h⟩
   ·exact h.elim
 case func.func g a b => exact ⟨_, hp g a b, h⟩
theorem xD {c : CK} {x : Value} {α : Type} {f : BE c α} {A B : α -> Prop} (h : apCK c x f A) (h' : apCK c x f B) : ∃ g, A g /\ B g := by
 cases c <;> cases x <;> try (exact h.elim)
 case int.int k k' n =>
  simp only [apCK] at h h'
  split at h
  ·rename_i e; rw [if_pos e] at h'; exact ⟨_, h, h'⟩
  ·exact h.elim
 case bool.bool b => exact ⟨_, h, h'⟩
 case str.string s => exact ⟨_, h, h'⟩
 case slice.slice a n m => exact ⟨_, h, h'⟩
 case ptr.pointer a =>
  rcases a with _ | ⟨b, o, s⟩
  ·exact h.elim
  ·cases s
   ·exact ⟨_, h, h'⟩
   ·exact h.elim
 case func.func g a b => exact ⟨_, h, h'⟩
theorem pQ {α : Type} : ∀ {l : List CK} {xs : List Value} {f : ot l α} {R : α -> Prop}, eN l xs f R -> ∀ {p : List Value -> α -> Prop}, zc l f p -> ∃ g, p xs g /\ R g
 | [], [], f, R, h, p, hp => ⟨f, hp, h⟩
 | [], _ :: _, _, _, h, _, _ => h.elim
 | _ :: _, [], _, _, h, _, _ => h.elim
 | c :: l, x :: xs, f, R, h, p, hp => by
  obtain ⟨g, h1, h2⟩ := AS (c := c) h hp
  exact pQ h2 h1
theorem qk {α : Type} : ∀ {l : List CK} {xs : List Value} {f : ot l α} {A B : α -> Prop}, eN l xs f A -> eN l xs f B -> ∃ g, A g /\ B g
 | [], [], f, _, _, h, h' => ⟨f, h, h'⟩
 | [], _ :: _, _, _, _, h, _ => h.elim
 | _ :: _, [], _, _, _, h, _ => h.elim
 | c :: l, x :: xs, f, A, B, h, h' => by
  obtain ⟨g, h1, h2⟩ := xD (c := c) h h'
  exact qk h1 h2
def normS (s : SS) (old x : SV) : SV :=
 match s with
 | .aa => old
 | .ah => .ah
 | .lp i => .lp i 0
 | _ =>
  match x with
  | .lit b => .v (.bool b)
  | x => x
theorem nq {i j o : Nat} {α : Type} {f : α} {R : α -> Prop} (h : uz (.lp i) (.lp j o) f R) : (j = i /\ o = 0) /\ R f := by
 have h : (if (Nat.beq j i && Nat.beq o 0) = true then R f else False) := h
 split at h
 ·rename_i hc
  simp only [Bool.and_eq_true] at hc
  exact ⟨⟨Nat.eq_of_beq_eq_true hc.1, Nat.eq_of_beq_eq_true hc.2⟩, h⟩
 ·exact h.elim
theorem Cy {i : Nat} {α : Type} {f : α} {R : α -> Prop} (h : R f) : uz (.lp i) (.lp i 0) f R := by
 show (if (Nat.beq i i && Nat.beq 0 0) = true then R f else False)
 rw [if_pos (by simp)]
 exact h
theorem HB {s : SS} {old x : SV} {α : Type} {f : C9 s α} {R : α -> Prop} (h : uz s x f R) {p : SV -> α -> Prop} (hp : HO s old f p) : ∃ g, p (normS s old x) g /\ R g := by
 cases s with
 | aa => exact ⟨f, hp, h⟩
 | ah => exact ⟨f, hp, h⟩
 | cell c =>
  cases x <;> try (exact h.elim)
  case v x => exact AS (c := c) (p := fun x g => p (.v x) g) h hp
  case lit b => exact AS (c := c) (p := fun x g => p (.v x) g) h hp
 | agg l =>
  cases x <;> try (exact h.elim)
  case v x =>
   cases x <;> try (exact h.elim)
   rename_i cs
   obtain ⟨g, h1, h2⟩ := pQ (p := fun xs g => p (.v (.agg xs.toArray)) g) h hp
   exact ⟨g, by simpa [normS] using h1, h2⟩
 | opq =>
  cases x <;> try (exact h.elim)
  case v x =>
   cases x <;> try (exact h.elim)
   rename_i cs
   exact ⟨_, by simpa [normS] using hp cs.toList, h⟩
 | lp i =>
  cases x <;> try (exact h.elim)
  exact ⟨f, hp, (nq h).2⟩
theorem Fv {s : SS} {old x : SV} {α : Type} {f : C9 s α} {R : α -> Prop} (h : uz s x f R) : uz s (normS s old x) f R := by
 cases s with
 | aa => exact h
 | ah => exact h
 | cell c => cases x <;> first | exact h | exact h.elim
 | agg l => cases x <;> first | exact h | exact h.elim
 | opq => cases x <;> first | exact h | exact h.elim
 | lp i =>
  cases x <;> try (exact h.elim)
  exact Cy (nq h).2
theorem wS {s : SS} {x : SV} {α : Type} {f : C9 s α} {A B : α -> Prop} (h : uz s x f A) (h' : uz s x f B) : ∃ g, A g /\ B g := by
 cases s with
 | aa => exact ⟨_, h, h'⟩
 | ah => exact ⟨_, h, h'⟩
 | cell c =>
  cases x <;> try (exact h.elim)
  case v x => exact xD (c := c) h h'
  case lit b => exact xD (c := c) h h'
 | agg l =>
  cases x <;> try (exact h.elim)
  case v x =>
   cases x <;> try (exact h.elim)
   exact qk h h'
 | opq =>
  cases x <;> try (exact h.elim)
  case v x =>
   cases x <;> try (exact h.elim)
   exact ⟨_, h, h'⟩
 | lp i =>
  cases x <;> try (exact h.elim)
  exact ⟨_, (nq h).2, (nq h').2⟩
def normSl : List SS -> List SV -> List SV -> List SV
 | s :: l, o :: os, x :: xs => normS s o x :: normSl l os xs
 | _, _, _ => []
theorem Bu {α : Type} : ∀ {l : List SS} {olds xs : List SV} {f : wQ l α} {R : α -> Prop}, ru l xs f R -> ∀ {p : List SV -> α -> Prop}, GR l olds f p -> (∃ g, p (normSl l olds xs) g /\ R g) /\ xs.length = l.length /\ olds.length = l.length
 | [], [], [], f, R, h, p, hp => ⟨⟨f, hp, h⟩, rfl, rfl⟩
 | [], _, _ :: _, _, _, h, _, _ => h.elim
 | [], _ :: _, [], _, _, _, _, hp => hp.elim
 | _ :: _, _, [], _, _, h, _, _ => h.elim
 | _ :: _, [], _ :: _, _, _, _, _, hp => hp.elim
 | s :: l, o :: os, x :: xs, f, R, h, p, hp => by
  obtain ⟨g, h1, h2⟩ := HB (s := s) h hp
  obtain ⟨h3, h4, h5⟩ := Bu h2 h1
  exact ⟨h3, by simp [h4], by simp [h5]⟩
theorem uk {c : CK} {x : Value} {α : Type} {f : BE c α} {A B : α -> Prop} (h : apCK c x f A) (hAB : ∀ g, A g -> B g) : apCK c x f B := by
 cases c <;> cases x <;> try (exact h.elim)
 case int.int k k' n =>
  simp only [apCK] at h ⊢
  split at h
  ·rename_i e; rw [if_pos e]; exact hAB _ h
  ·exact h.elim
 case bool.bool b => exact hAB _ h
 case str.string s => exact hAB _ h
 case slice.slice a n m => exact hAB _ h
 case ptr.pointer a =>
  rcases a with _ | ⟨b, o, s⟩
  ·exact h.elim
  ·cases s
   ·exact hAB _ h
   ·exact h.elim
 case func.func g a b => exact hAB _ h
theorem ni {α : Type} : ∀ {l : List CK} {xs : List Value} {f : ot l α} {A B : α -> Prop}, eN l xs f A -> (∀ g, A g -> B g) -> eN l xs f B
 | [], [], _, _, _, h, hAB => hAB _ h
 | [], _ :: _, _, _, _, h, _ => h.elim
 | _ :: _, [], _, _, _, h, _ => h.elim
 | c :: l, x :: _, _, _, _, h, hAB => uk (c := c) (x := x) h fun _ hg => ni (l := l) hg hAB
theorem uG {s : SS} {x : SV} {α : Type} {f : C9 s α} {A B : α -> Prop} (h : uz s x f A) (hAB : ∀ g, A g -> B g) : uz s x f B := by
 cases s with
 | aa => exact hAB _ h
 | ah => exact hAB _ h
 | cell c =>
  cases x <;> try (exact h.elim)
  case v x => exact uk (c := c) (x := x) h hAB
  case lit b => exact uk (c := c) (x := .bool b) h hAB
 | agg l =>
  cases x <;> try (exact h.elim)
  case v x =>
   cases x <;> try (exact h.elim)
   exact ni h hAB
 | opq =>
  cases x <;> try (exact h.elim)
  case v x =>
   cases x <;> try (exact h.elim)
   exact hAB _ h
 | lp i =>
  cases x <;> try (exact h.elim)
  have e := (nq h).1
  rw [e.1, e.2]
  exact Cy (hAB _ (nq h).2)
theorem zy {α : Type} : ∀ {l : List SS} {olds xs : List SV} {f : wQ l α} {R : α -> Prop}, olds.length = l.length -> ru l xs f R -> ru l (normSl l olds xs) f R
 | [], _, [], _, _, _, h => h
 | [], _, _ :: _, _, _, _, h => h.elim
 | _ :: _, _, [], _, _, _, h => h.elim
 | _ :: _, [], _ :: _, _, _, hl, _ => by simp at hl
 | s :: l, o :: os, x :: xs, f, R, hl, h => by
  have h1 : uz s (normS s o x) f (fun g => ru l xs g R) := Fv (s := s) h
  exact uG h1 fun g hg => zy (by simpa using hl) hg
theorem CF {α : Type} : ∀ {l : List SS} {xs : List SV} {f : wQ l α} {A B : α -> Prop}, ru l xs f A -> ru l xs f B -> ∃ g, A g /\ B g
 | [], [], f, _, _, h, h' => ⟨f, h, h'⟩
 | [], _ :: _, _, _, _, h, _ => h.elim
 | _ :: _, [], _, _, _, h, _ => h.elim
 | s :: l, x :: xs, f, A, B, h, h' => by
  obtain ⟨g, h1, h2⟩ := wS (s := s) h h'
  exact CF h1 h2
def xP : List LSS -> List Loc -> List Loc -> Prop
 | [], _, _ => True
 | s :: l, o :: os, x :: xs => x.ty = o.ty /\ x.opq = o.opq /\ (match s with | .aa => x = o | _ => True) /\ xP l os xs
 | _, _, _ => False
theorem iL {α : Type} {ty : TypeId} {q : Bool} {ck : List CK} {l : List LSS} {x : Loc} {xs : List Loc} {f : ot ck (tX l α)} {R : α -> Prop} (h : dX (.fresh ty q ck :: l) [] (x :: xs) f R) : (x.ty = ty /\ x.opq = q) /\ eN ck x.cells f (fun g => dX l [] xs g R) := by
 have h : (if (Nat.beq x.ty ty && x.opq == q) = true then eN ck x.cells f (fun g => dX l [] xs g R) else False) := h
 split at h
 ·rename_i hc
  simp only [Bool.and_eq_true, beq_iff_eq] at hc
  exact ⟨⟨Nat.eq_of_beq_eq_true hc.1, hc.2⟩, h⟩
 ·exact h.elim
theorem C1 {α : Type} {ty : TypeId} {q : Bool} {ck : List CK} {l : List LSS} {x : Loc} {xs : List Loc} {f : ot ck (tX l α)} {R : α -> Prop} (h1 : x.ty = ty) (h2 : x.opq = q) (h : eN ck x.cells f (fun g => dX l [] xs g R)) : dX (.fresh ty q ck :: l) [] (x :: xs) f R := by
 show (if (Nat.beq x.ty ty && x.opq == q) = true then eN ck x.cells f (fun g => dX l [] xs g R) else False)
 rw [if_pos (by subst h1 h2; simp)]
 exact h
theorem xP.refl : ∀ (l : List LSS) (os : List Loc), l.length <= os.length -> xP l os os
 | [], _, _ => trivial
 | s :: l, [], h => by simp at h
 | s :: l, o :: os, h => ⟨rfl, rfl, by cases s <;> simp, xP.refl l os (by simpa using h)⟩
theorem wM {α : Type} : ∀ {l : List LSS} {os rs xs : List Loc} {f : tX l α} {R : α -> Prop}, xP l os rs -> dX l rs xs f R -> ∀ {p : List Loc -> α -> Prop}, Di l os f p ->
  (∃ g, p (xs.take l.length) g /\ R g) /\ l.length <= xs.length /\ xP l os (xs.take l.length)
 | [], [], _, _, f, R, _, h, p, hp => ⟨⟨f, hp, h⟩, by simp, trivial⟩
 | [], _ :: _, _, _, _, _, _, _, _, hp => hp.elim
 | _ :: _, [], _, _, _, _, hl, _, _, _ => hl.elim
 | _ :: _, _ :: _, [], _, _, _, hl, _, _, _ => hl.elim
 | s :: _, _ :: _, _ :: _, [], _, _, _, h, _, _ => by cases s <;> exact h.elim
 | s :: l, o :: os, r :: rs, x :: xs, f, R, hl, h, p, hp => by
  obtain ⟨h1, h2, h3, h4⟩ := hl
  cases s with
  | fresh ty q ck => exact h.elim
  | aa =>
   obtain ⟨rfl, h⟩ := h
   have h3 : x = o := h3
   subst h3
   obtain ⟨h5, h6, h7⟩ := wM h4 h (p := fun ls h => p (x :: ls) h) hp
   exact ⟨h5, by simpa using h6, rfl, rfl, rfl, h7⟩
  | cells ck =>
   have h : (if (Nat.beq x.ty r.ty && x.opq == r.opq) = true then eN ck x.cells f (fun g => dX l rs xs g R) else False) := h
   split at h
   ·rename_i hc
    simp only [Bool.and_eq_true, beq_iff_eq] at hc
    have hty := Nat.eq_of_beq_eq_true hc.1
    obtain ⟨g, h8, h9⟩ := pQ h hp
    have e : ({ o with cells := x.cells } : Loc) = x := by
     obtain ⟨ty, q, cs⟩ := x
     obtain ⟨ty', q', cs'⟩ := o
     simp only at h1 h2 hty hc ⊢
     rw [<- h1, <- h2, <- hty, <- hc.2]
    rw [e] at h8
    obtain ⟨h5, h6, h7⟩ := wM h4 h9 (p := fun ls h => p (x :: ls) h) h8
    exact ⟨h5, by simpa using h6, hty.trans h1, hc.2.trans h2, trivial, h7⟩
   ·exact h.elim
  | opq =>
   have h : (if (Nat.beq x.ty r.ty && x.opq == r.opq) = true then dX l rs xs (f x.cells) R else False) := h
   split at h
   ·rename_i hc
    simp only [Bool.and_eq_true, beq_iff_eq] at hc
    have hty := Nat.eq_of_beq_eq_true hc.1
    have h8 := hp x.cells
    have e : ({ o with cells := x.cells } : Loc) = x := by
     obtain ⟨ty, q, cs⟩ := x
     obtain ⟨ty', q', cs'⟩ := o
     simp only at h1 h2 hty hc ⊢
     rw [<- h1, <- h2, <- hty, <- hc.2]
    rw [e] at h8
    obtain ⟨h5, h6, h7⟩ := wM h4 h (p := fun ls h => p (x :: ls) h) h8
    exact ⟨h5, by simpa using h6, hty.trans h1, hc.2.trans h2, trivial, h7⟩
   ·exact h.elim
theorem qi {α : Type} : ∀ {l : List LSS} {rs xs : List Loc} {f : tX l α} {R : α -> Prop}, qc l = true -> dX l rs xs f R -> dX l (xs.take l.length) (xs.take l.length) f R
 | [], _, _, _, _, _, h => h
 | s :: _, [], [], _, _, _, h => by cases s <;> exact h.elim
 | s :: _, [], _ :: _, _, _, hn, h => by cases s <;> first | exact h.elim | cases hn
 | s :: _, _ :: _, [], _, _, _, h => by cases s <;> exact h.elim
 | s :: l, r :: rs, x :: xs, f, R, hn, h => by
  cases s with
  | fresh ty q ck => exact h.elim
  | aa => obtain ⟨_, h⟩ := h; exact ⟨rfl, qi hn h⟩
  | cells ck =>
   have h : (if (Nat.beq x.ty r.ty && x.opq == r.opq) = true then eN ck x.cells f (fun g => dX l rs xs g R) else False) := h
   show (if (Nat.beq x.ty x.ty && x.opq == x.opq) = true then eN ck x.cells f (fun g => dX l (xs.take l.length) (xs.take l.length) g R) else False)
   split at h
   ·rw [if_pos (by simp)]
    exact uG (s := .agg ck) (x := .v (.agg x.cells.toArray)) h fun g hg => qi hn hg
   ·exact h.elim
  | opq =>
   have h : (if (Nat.beq x.ty r.ty && x.opq == r.opq) = true then dX l rs xs (f x.cells) R else False) := h
   show (if (Nat.beq x.ty x.ty && x.opq == x.opq) = true then dX l (xs.take l.length) (xs.take l.length) (f x.cells) R else False)
   split at h
   ·rw [if_pos (by simp)]
    exact qi hn h
   ·exact h.elim
theorem pU {α : Type} : ∀ {l : List LSS} {rs xs : List Loc} {f : tX l α} {A B : α -> Prop}, dX l rs xs f A -> dX l rs xs f B -> ∃ g, A g /\ B g
 | [], _, _, f, _, _, h, h' => ⟨f, h, h'⟩
 | s :: _, [], [], _, _, _, h, _ => by cases s <;> exact h.elim
 | s :: l, [], x :: xs, f, A, B, h, h' => by
  cases s with
  | fresh ty q ck =>
   obtain ⟨g, h1, h2⟩ := qk (iL h).2 (iL h').2
   exact pU h1 h2
  | _ => exact h.elim
 | s :: _, _ :: _, [], _, _, _, h, _ => by cases s <;> exact h.elim
 | s :: l, r :: rs, x :: xs, f, A, B, h, h' => by
  cases s with
  | fresh ty q ck => exact h.elim
  | aa => exact pU h.2 h'.2
  | cells ck =>
   have h : (if (Nat.beq x.ty r.ty && x.opq == r.opq) = true then eN ck x.cells f (fun g => dX l rs xs g A) else False) := h
   have h' : (if (Nat.beq x.ty r.ty && x.opq == r.opq) = true then eN ck x.cells f (fun g => dX l rs xs g B) else False) := h'
   split at h
   ·rename_i hc
    rw [if_pos hc] at h'
    obtain ⟨g, h1, h2⟩ := qk h h'
    exact pU h1 h2
   ·exact h.elim
  | opq =>
   have h : (if (Nat.beq x.ty r.ty && x.opq == r.opq) = true then dX l rs xs (f x.cells) A else False) := h
   have h' : (if (Nat.beq x.ty r.ty && x.opq == r.opq) = true then dX l rs xs (f x.cells) B else False) := h'
   split at h
   ·rename_i hc
    rw [if_pos hc] at h'
    exact pU h h'
   ·exact h.elim
theorem tU {α : Type} : ∀ {l : List SS} {xs : List SV} {f : wQ l α} {A B : α -> Prop}, ru l xs f A -> (∀ g, A g -> B g) -> ru l xs f B
 | [], [], _, _, _, h, hAB => hAB _ h
 | [], _ :: _, _, _, _, h, _ => h.elim
 | _ :: _, [], _, _, _, h, _ => h.elim
 | s :: l, x :: _, _, _, _, h, hAB => uG (s := s) (x := x) h fun _ hg => tU (l := l) hg hAB
theorem xn {α : Type} {s : fC} {old : List Loc} {fr : List SV} {ls : List Loc} {f : xZ s α} {A B : α -> Prop} (h : mG s old fr ls f A) (h' : mG s old fr ls f B) : ∃ g, A g /\ B g := by
 obtain ⟨g, h1, h2⟩ := CF h h'
 exact pU h1 h2
theorem mu {α : Type} : ∀ {l : List LSS} {rs xs : List Loc} {f : tX l α} {A B : α -> Prop}, dX l rs xs f A -> (∀ g, A g -> B g) -> dX l rs xs f B
 | [], _, _, _, _, _, h, hAB => hAB _ h
 | s :: _, [], [], _, _, _, h, _ => by cases s <;> exact h.elim
 | s :: l, [], x :: xs, f, A, B, h, hAB => by
  cases s with
  | fresh ty q ck => exact C1 (iL h).1.1 (iL h).1.2 (ni (iL h).2 fun g hg => mu hg hAB)
  | _ => exact h.elim
 | s :: _, _ :: _, [], _, _, _, h, _ => by cases s <;> exact h.elim
 | s :: l, r :: rs, x :: xs, f, A, B, h, hAB => by
  cases s with
  | fresh ty q ck => exact h.elim
  | aa => exact ⟨h.1, mu h.2 hAB⟩
  | cells ck =>
   have h : (if (Nat.beq x.ty r.ty && x.opq == r.opq) = true then eN ck x.cells f (fun g => dX l rs xs g A) else False) := h
   show (if (Nat.beq x.ty r.ty && x.opq == r.opq) = true then eN ck x.cells f (fun g => dX l rs xs g B) else False)
   split at h
   ·rename_i hc
    rw [if_pos hc]
    exact ni h fun g hg => mu hg hAB
   ·exact h.elim
  | opq =>
   have h : (if (Nat.beq x.ty r.ty && x.opq == r.opq) = true then dX l rs xs (f x.cells) A else False) := h
   show (if (Nat.beq x.ty r.ty && x.opq == r.opq) = true then dX l rs xs (f x.cells) B else False)
   split at h
   ·rename_i hc
    rw [if_pos hc]
    exact mu h hAB
   ·exact h.elim
theorem EZ {α : Type} {s : fC} {old : List Loc} {fr : List SV} {ls : List Loc} {f : xZ s α} {A B : α -> Prop} (h : mG s old fr ls f A) (hAB : ∀ g, A g -> B g) : mG s old fr ls f B := tU h fun _ hg => mu hg hAB
theorem Hk {α : Type} {s : fC} {old : List Loc} {fr0 fr : List SV} {ls0 ls : List Loc} {f : xZ s α} {R : α -> Prop} (hl : xP s.ej ls0 old) (h : mG s old fr ls f R) {p : List SV -> List Loc -> α -> Prop} (hp : Gb s fr0 ls0 f p) :
  (∃ g, p (normSl s.fR fr0 fr) (ls.take s.ej.length) g /\ R g) /\ fr.length = s.fR.length /\ fr0.length = s.fR.length /\ s.ej.length <= ls.length /\ xP s.ej ls0 (ls.take s.ej.length) := by
 obtain ⟨⟨g, h1, h2⟩, h3, h4⟩ := Bu h hp
 obtain ⟨h5, h6, h7⟩ := wM hl h2 h1
 exact ⟨h5, h3, h4, h6, h7⟩
theorem xB {α : Type} : ∀ {l : List LSS} {os xs : List Loc} {f : tX l α} {R : α -> Prop}, dX l os xs f R -> ∀ {p : List Loc -> α -> Prop}, Di l os f p ->
  (∃ g, p (xs.take l.length) g /\ R g) /\ l.length <= xs.length /\ os.length <= l.length
 | [], [], _, f, R, h, p, hp => ⟨⟨f, hp, h⟩, by simp, by simp⟩
 | [], _ :: _, _, _, _, _, _, hp => hp.elim
 | s :: _, [], [], _, _, h, _, _ => by cases s <;> exact h.elim
 | s :: _, _ :: _, [], _, _, h, _, _ => by cases s <;> exact h.elim
 | s :: l, [], x :: xs, f, R, h, p, hp => by
  cases s with
  | fresh ty q ck =>
   obtain ⟨⟨h1, h2⟩, h3⟩ := iL h
   obtain ⟨g, h8, h9⟩ := pQ h3 hp
   have e : (⟨ty, q, x.cells⟩ : Loc) = x := by subst h1 h2; rfl
   rw [e] at h8
   obtain ⟨h5, h6, h7⟩ := xB h9 (p := fun ls h => p (x :: ls) h) h8
   exact ⟨h5, by simpa using h6, by simp⟩
  | _ => exact h.elim
 | s :: l, o :: os, x :: xs, f, R, h, p, hp => by
  have key : ∀ {g : tX l α}, Di l os g (fun ls h => p (x :: ls) h) -> dX l os xs g R -> (∃ g, p ((x :: xs).take (s :: l).length) g /\ R g) /\ (s :: l).length <= (x :: xs).length /\ (o :: os).length <= (s :: l).length := fun h8 h9 => by
   obtain ⟨h5, h6, h7⟩ := xB h9 h8
   exact ⟨h5, by simpa using h6, by simpa using h7⟩
  cases s with
  | fresh ty q ck => exact h.elim
  | aa =>
   obtain ⟨rfl, h⟩ := h
   exact key hp h
  | cells ck =>
   have h : (if (Nat.beq x.ty o.ty && x.opq == o.opq) = true then eN ck x.cells f (fun g => dX l os xs g R) else False) := h
   split at h
   ·rename_i hc
    simp only [Bool.and_eq_true, beq_iff_eq] at hc
    have hty := Nat.eq_of_beq_eq_true hc.1
    obtain ⟨g, h8, h9⟩ := pQ h hp
    have e : ({ o with cells := x.cells } : Loc) = x := by
     obtain ⟨ty, q, cs⟩ := x
     obtain ⟨ty', q', cs'⟩ := o
     simp only at hty hc ⊢
     rw [<- hty, <- hc.2]
    rw [e] at h8
    exact key h8 h9
   ·exact h.elim
  | opq =>
   have h : (if (Nat.beq x.ty o.ty && x.opq == o.opq) = true then dX l os xs (f x.cells) R else False) := h
   split at h
   ·rename_i hc
    simp only [Bool.and_eq_true, beq_iff_eq] at hc
    have hty := Nat.eq_of_beq_eq_true hc.1
    have h8 := hp x.cells
    have e : ({ o with cells := x.cells } : Loc) = x := by
     obtain ⟨ty, q, cs⟩ := x
     obtain ⟨ty', q', cs'⟩ := o
     simp only at hty hc ⊢
     rw [<- hty, <- hc.2]
    rw [e] at h8
    exact key h8 h
   ·exact h.elim
theorem FC {α : Type} {s : fC} {old : List Loc} {fr0 fr : List SV} {ls : List Loc} {f : xZ s α} {R : α -> Prop} (h : mG s old fr ls f R) {p : List SV -> List Loc -> α -> Prop} (hp : Gb s fr0 old f p) :
  (∃ g, p (normSl s.fR fr0 fr) (ls.take s.ej.length) g /\ R g) /\ fr.length = s.fR.length /\ fr0.length = s.fR.length /\ s.ej.length <= ls.length /\ old.length <= s.ej.length := by
 obtain ⟨⟨g, h1, h2⟩, h3, h4⟩ := Bu h hp
 obtain ⟨h5, h6, h7⟩ := xB h2 h1
 exact ⟨h5, h3, h4, h6, h7⟩
theorem Fm {α : Type} {s : fC} {old : List Loc} {fr0 fr : List SV} {ls : List Loc} {f : xZ s α} {R : α -> Prop} (hn : qc s.ej = true) (hlen : fr0.length = s.fR.length) (h : mG s old fr ls f R) : mG s (ls.take s.ej.length) (normSl s.fR fr0 fr) (ls.take s.ej.length) f R :=
 zy hlen (tU h fun _ hg => qi hn hg)
theorem EH {c : CK} {α : Type} {f : BE c α} {p : Value -> α -> Prop} (h : Hu c f p) : ∃ y g, p y g := by
 cases c
 ·exact ⟨_, _, h 0⟩
 ·exact ⟨_, _, h true⟩
 ·exact ⟨_, _, h ByteArray.empty⟩
 ·exact ⟨_, _, h none 0 0⟩
 ·exact ⟨_, _, h 0 0⟩
 ·exact ⟨_, _, h (.func 0) #[] #[]⟩
theorem xk {α : Type} : ∀ {l : List CK} {f : ot l α} {p : List Value -> α -> Prop}, zc l f p -> ∃ y g, p y g
 | [], f, _, h => ⟨[], f, h⟩
 | c :: l, f, p, h => by
  obtain ⟨y, g, h⟩ := EH (c := c) h
  obtain ⟨ys, g', h⟩ := xk h
  exact ⟨_, _, h⟩
theorem G9 {s : SS} {old : SV} {α : Type} {f : C9 s α} {p : SV -> α -> Prop} (h : HO s old f p) : ∃ y g, p y g := by
 cases s with
 | aa => exact ⟨_, _, h⟩
 | ah => exact ⟨_, _, h⟩
 | cell c => obtain ⟨y, g, h⟩ := EH (c := c) (p := fun x g => p (.v x) g) h; exact ⟨_, _, h⟩
 | agg l => obtain ⟨y, g, h⟩ := xk (p := fun xs g => p (.v (.agg xs.toArray)) g) h; exact ⟨_, _, h⟩
 | opq => exact ⟨_, _, h []⟩
 | lp i => exact ⟨_, _, h⟩
theorem EF {α : Type} : ∀ {l : List SS} {os : List SV} {f : wQ l α} {p : List SV -> α -> Prop}, GR l os f p -> ∃ y g, p y g
 | [], [], f, _, h => ⟨[], f, h⟩
 | [], _ :: _, _, _, h => h.elim
 | _ :: _, [], _, _, h => h.elim
 | s :: l, o :: os, f, p, h => by
  obtain ⟨y, g, h⟩ := G9 (s := s) h
  obtain ⟨ys, g', h⟩ := EF h
  exact ⟨_, _, h⟩
theorem tr {α : Type} : ∀ {l : List LSS} {os : List Loc} {f : tX l α} {p : List Loc -> α -> Prop}, qc l = true -> Di l os f p -> os.length = l.length
 | [], [], _, _, _, _ => rfl
 | [], _ :: _, _, _, _, h => h.elim
 | s :: _, [], _, _, hn, h => by cases s <;> first | exact h.elim | cases hn
 | s :: l, o :: os, f, p, hn, h => by
  cases s with
  | fresh ty q ck => exact h.elim
  | aa => have := tr (l := l) (os := os) hn h; simp [this]
  | cells ck => obtain ⟨y, g, h⟩ := xk h; have := tr (l := l) (os := os) hn h; simp [this]
  | opq => have := tr (l := l) (os := os) hn (h []); simp [this]
theorem BX {α : Type} {s : fC} {fr : List SV} {ls : List Loc} {f : xZ s α} {p : List SV -> List Loc -> α -> Prop} (hn : qc s.ej = true) (h : Gb s fr ls f p) : ls.length = s.ej.length := by
 obtain ⟨y, g, h⟩ := EF h
 exact tr hn h
def Out (D : List Nat) (a a' : Act) : Prop := ∀ t, memN D t = false -> a'.tmps[t]? = a.tmps[t]?
theorem Out.refl (D : List Nat) (a : Act) : Out D a a := fun _ _ => rfl
theorem dh (l r : List Nat) (t : Nat) : memN (l ++ r) t = (memN l t || memN r t) := by
 induction l with
 | nil => rfl
 | cons k l ih => simp only [List.cons_append, memN]; split <;> simp [ih]
theorem Out.left {D E : List Nat} {a a' : Act} (h : Out D a a') : Out (D ++ E) a a' := fun t ht => h t (by rw [dh, Bool.or_eq_false_iff] at ht; exact ht.1)
theorem Out.right {D E : List Nat} {a a' : Act} (h : Out E a a') : Out (D ++ E) a a' := fun t ht => h t (by rw [dh, Bool.or_eq_false_iff] at ht; exact ht.2)
theorem Out.trans {D : List Nat} {a b c : Act} (h : Out D a b) (k : Out D b c) : Out D a c := fun t ht => (k t ht).trans (h t ht)
def St (u0 w0 : World) (ρ0 : List Nat) (D : List Nat) (a0 : Act) (K : KN) (a : Act) (w : World) : Prop :=
 ∃ ρ fr ls u, (∃ r, ρ = ρ0 ++ r) /\ MS u0 w0 ρ ls u w /\ cm ρ fr a /\ K fr ls u /\ Out D a0 a
def Qof (u0 w0 : World) (ρ0 : List Nat) (D : List Nat) (a0 : Act) (Kn : KN) (Kx : Nat -> KN) (Kr : KN) : Exit -> Act -> World -> Prop
 | .normal, a, w => St u0 w0 ρ0 D a0 Kn a w
 | .exit id, a, w => St u0 w0 ρ0 D a0 (Kx id) a w
 | .ret, a, w => St u0 w0 ρ0 D a0 Kr a w
 | _, _, _ => False
theorem St.mono {u0 w0 : World} {ρ0 : List Nat} {D : List Nat} {a0 : Act} {K K' : KN} {a : Act} {w : World} (h : St u0 w0 ρ0 D a0 K a w) (hK : ∀ fr ls u, K fr ls u -> K' fr ls u) : St u0 w0 ρ0 D a0 K' a w := by
 obtain ⟨ρ, fr, ls, u, h1, h2, h3, h4, h5⟩ := h
 exact ⟨ρ, fr, ls, u, h1, h2, h3, hK _ _ _ h4, h5⟩
theorem SV.D6 {ρ r : List Nat} {s : SV} {y : Value} (h : s.holds ρ y) : s.holds (ρ ++ r) y := by
 cases s with
 | lp i off =>
  obtain ⟨b, hb, hy⟩ := h
  refine ⟨b, ?_, hy⟩
  rw [List.getElem?_append_left (List.getElem?_eq_some_iff.1 hb).1]
  exact hb
 | _ => exact h
theorem cm.mono {ρ r : List Nat} {fr : List SV} {a : Act} (h : cm ρ fr a) : cm (ρ ++ r) fr a := ⟨h.defers, h.size, fun t s y hs hy => SV.D6 (h.slot t s y hs hy)⟩
theorem cm.put {ρ : List Nat} {fr : List SV} {a : Act} (h : cm ρ fr a) {d : Option Tmp} {s : SV} {v : Value} (hs : s.holds ρ v) : cm ρ (dy fr d s) (a.put d v) := by
 cases d with
 | none => exact h
 | some d =>
  refine ⟨h.defers, by simp [Act.put, dy, h.size], fun t s' y hs' hy => ?_⟩
  simp only [Act.put, dy] at hs' hy
  by_cases htd : t = d
  ·subst htd
   have hlt : t < fr.length := by have := (List.getElem?_eq_some_iff.1 hs').1; simpa using this
   rw [List.getElem?_set_self hlt] at hs'
   rw [Array.getElem?_setIfInBounds_self_of_lt (by rw [h.size]; exact hlt)] at hy
   simp only [Option.some.injEq] at hs' hy
   subst hs' hy
   exact hs
  ·rw [List.getElem?_set_ne (by omega)] at hs'
   rw [Array.getElem?_setIfInBounds_ne (by omega)] at hy
   exact h.slot t s' y hs' hy
theorem cm.lit {ρ : List Nat} {fr : List SV} {a : Act} (h : cm ρ fr a) {d : Nat} {b : Bool} (hd : fr.getD d .ah = .v (.bool b)) : cm ρ (fr.set d (.lit b)) a := by
 refine ⟨h.defers, by simp [h.size], fun t s y hs hy => ?_⟩
 by_cases htd : t = d
 ·subst htd
  have hlt : t < fr.length := by have := (List.getElem?_eq_some_iff.1 hs).1; simpa using this
  rw [List.getElem?_set_self hlt] at hs
  simp only [Option.some.injEq] at hs
  subst hs
  have hf : fr[t]? = some (.v (.bool b)) := by
   rw [List.getD_eq_getElem?_getD] at hd
   rw [List.getElem?_eq_getElem hlt] at hd ⊢
   simpa using hd
  exact h.slot t (.v (.bool b)) y hf hy
 ·rw [List.getElem?_set_ne (by omega)] at hs
  exact h.slot t s y hs hy
theorem Act.qd {D : List Nat} {a : Act} {d : Option Tmp} {v : Value} (h : ∀ t, d = some t -> memN D t = true) : Out D a (a.put d v) := by
 intro t ht
 cases d with
 | none => rfl
 | some d =>
  have : t ≠ d := fun e => by subst e; rw [h t rfl] at ht; cases ht
  simp only [Act.put]
  rw [Array.getElem?_setIfInBounds_ne (by omega)]
theorem uP {l : List Nat} {t : Nat} (h : t ∈ l) : memN l t = true := by
 induction l with
 | nil => cases h
 | cons k l ih =>
  simp only [memN]
  split
  ·rfl
  ·rename_i hne
   rcases List.mem_cons.1 h with rfl | h
   ·exact absurd (by simp) hne
   ·exact ih h
theorem zp {l : List Oper} {o : Oper} {d : Nat} (ho : o ∈ l) (hd : o.dst = some d) : d ∈ lk l := by
 induction l with
 | nil => cases ho
 | cons x l ih =>
  rcases List.mem_cons.1 ho with rfl | h
  ·simp [lk, hd]
  ·simp only [lk]
   split
   ·exact List.mem_cons_of_mem _ (ih h)
   ·exact ih h
section
variable {C : Ctx} {u0 w0 : World}
theorem guard_sound {ρ : List Nat} {fr : List SV} {a : Act} (hf : cm ρ fr a) {ops : List Oper} {o : Oper} {run skip : List SV -> Prop} (h : wGuard ops o fr run skip) :
  (∃ fr', cm ρ fr' a /\ run fr' /\ Region.wanted o (yielded ops.toArray a.tmps) = true) \/ (∃ fr', cm ρ fr' a /\ skip fr' /\ Region.wanted o (yielded ops.toArray a.tmps) = false) := by
 unfold wGuard at h
 unfold Region.wanted
 split at h
 ·rename_i hg
  rw [hg]
  exact .inl ⟨fr, hf, h, rfl⟩
 ·rename_i j want hg
  rw [hg]
  simp only
  split at h
  ·exact h.elim
  ·rename_i d hd
   have hy : ∀ y, a.tmps[d]? = some y -> yielded ops.toArray a.tmps j = (match y with | .bool b => some b | _ => none) := by
    intro y hy
    unfold yielded
    unfold yW at hd
    simp only [List.getElem?_toArray, hd, Option.bind_some, hy]
    cases y <;> rfl
   have look : ∀ s, fr.getD d .ah = s -> s ≠ .ah -> ∃ y, a.tmps[d]? = some y /\ s.holds ρ y := by
    intro s hs hne
    rw [List.getD_eq_getElem?_getD] at hs
    cases hfr : fr[d]? with
    | none => rw [hfr] at hs; exact absurd hs.symm hne
    | some s' =>
     rw [hfr] at hs
     simp only [Option.getD_some] at hs
     subst hs
     have hlt : d < a.tmps.size := by rw [hf.size]; exact (List.getElem?_eq_some_iff.1 hfr).1
     exact ⟨_, Array.getElem?_eq_getElem hlt, hf.slot d _ _ hfr (Array.getElem?_eq_getElem hlt)⟩
   split at h
   ·rename_i b hs
    obtain ⟨y, hty, hyv⟩ := look _ hs (by simp)
    have hyv : y = .bool b := hyv
    subst hyv
    rw [hy _ hty]
    split at h
    ·rename_i hb
     refine .inl ⟨fr, hf, h, ?_⟩
     have : b = want := by simpa using hb
     simp [this]
    ·rename_i hb
     refine .inr ⟨fr, hf, h, ?_⟩
     have : ¬ b = want := by simpa using hb
     simp [this]
   ·rename_i b hs
    obtain ⟨y, hty, hyv⟩ := look _ hs (by simp)
    have hyv : y = .bool b := hyv
    subst hyv
    rw [hy _ hty]
    have hfl := hf.lit hs
    cases b
    ·have h := h.2 rfl
     cases want
     ·exact .inl ⟨_, hfl, h, rfl⟩
     ·exact .inr ⟨_, hfl, h, rfl⟩
    ·have h := h.1 rfl
     cases want
     ·exact .inr ⟨_, hfl, h, rfl⟩
     ·exact .inl ⟨_, hfl, h, rfl⟩
   ·rename_i vs hs
    obtain ⟨y, hty, hyv⟩ := look _ hs (by simp)
    have hyv : y = .tuple vs := hyv
    subst hyv
    rw [hy _ hty]
    exact .inr ⟨fr, hf, h, rfl⟩
   ·exact h.elim
theorem uA (hC : bS C) {all : List Oper} {Kn : KN} {ρ0 : List Nat} {a0 : Act} : ∀ (l : List Oper), (∀ o ∈ l, o ∈ all) -> ∀ {ρ : List Nat} {fr : List SV} {ls : List Loc} {u w : World} {a : Act}, (∃ r, ρ = ρ0 ++ r) -> MS u0 w0 ρ ls u w -> cm ρ fr a -> Out (lk all) a0 a ->
  wOps C all Kn l fr ls u -> wpList C.P all.toArray (NQ (St u0 w0 ρ0 (lk all) a0 Kn)) l a w
 | [], _, ρ, fr, ls, u, w, a, hρ, hm, hf, ho, h => ⟨ρ, fr, ls, u, hρ, hm, hf, h, ho⟩
 | o :: l, hsub, ρ, fr, ls, u, w, a, hρ, hm, hf, ho, h => by
  have hin := hsub o (by simp)
  have hdst : ∀ t, o.dst = some t -> memN (lk all) t = true := fun t ht => uP (zp hin ht)
  unfold wpList
  simp only [wOps] at h
  rcases guard_sound hf h with ⟨fr', hf', hrun, hw⟩ | ⟨fr', hf', hskip, hw⟩
  ·rw [if_pos hw]
   refine .inl (Oper.wp_mono (fun a' w' hp => ?_) (Ee hC (Q := NQ (St u0 w0 ρ0 (lk all) a0 Kn)) hm hf' hrun))
   obtain ⟨s, ls', u', e, v, ρ', hk, rfl, ⟨r, rfl, _⟩, hs, hm', _⟩ := hp
   obtain ⟨r0, rfl⟩ := hρ
   exact uA hC l (fun o ho => hsub o (by simp [ho])) ⟨r0 ++ r, by simp⟩ hm' (hf'.mono.put hs) (ho.trans (Act.qd hdst)) hk
  ·rw [if_neg (by rw [hw]; simp)]
   exact uA hC l (fun o ho => hsub o (by simp [ho])) hρ hm (hf'.put (s := .v (.tuple #[])) rfl) (ho.trans (Act.qd hdst)) hskip
def uI (ρ : List Nat) (u : World) : xU -> re -> Prop
 | .loc i l, q => q.i = i /\ ∃ b x, ρ[l]? = some b /\ q.C = fun w' => w'.heap[b]? = x
 | .mem i b o cs, q => q.i = i /\ (cs = [] \/ b < u.heap.size /\ b ∉ ρ) /\ q.C = fun w' => Rd w' b o cs
theorem uI.mono {ρ r : List Nat} {u u' : World} (hr : ∀ b ∈ r, u.heap.size <= b) (hsz : u.heap.size <= u'.heap.size) : ∀ {p : xU} {q : re}, uI ρ u p q -> uI (ρ ++ r) u' p q
 | .loc i l, q, h => by
  obtain ⟨h1, b, x, h2, h3⟩ := h
  exact ⟨h1, b, x, by rw [List.getElem?_append_left (List.getElem?_eq_some_iff.1 h2).1]; exact h2, h3⟩
 | .mem i b o cs, q, h => by
  obtain ⟨h1, h2, h3⟩ := h
  refine ⟨h1, h2.imp id fun ⟨h4, h5⟩ => ⟨by omega, fun hm => ?_⟩, h3⟩
  rcases List.mem_append.1 hm with hm | hm
  ·exact h5 hm
  ·have := hr b hm; omega
def FP (ρ : List Nat) (u : World) (pd : List xU) (ps : List re) : Prop := ∀ q ∈ ps, (∀ w, q.C w) \/ ∃ p ∈ pd, uI ρ u p q
theorem FP.mono {ρ r : List Nat} {u u' : World} {pd : List xU} {ps : List re} (h : FP ρ u pd ps) (hr : ∀ b ∈ r, u.heap.size <= b) (hsz : u.heap.size <= u'.heap.size) : FP (ρ ++ r) u' pd ps := fun q hq => (h q hq).imp id fun ⟨p, hp, hpq⟩ => ⟨p, hp, uI.mono hr hsz hpq⟩
theorem zB {α : Type} {p : α -> Prop} : ∀ {l : List α}, H4 p l -> ∀ x ∈ l, p x
 | [], _, x, hx => by cases hx
 | [y], h, x, hx => by simp at hx; subst hx; exact h
 | y :: z :: l, h, x, hx => by
  rcases List.mem_cons.1 hx with rfl | hx
  ·exact h.1
  ·exact zB h.2 x hx
theorem recheck_spec {ms : List Nat} {j : Nat} {e : Eff} {u : World} {R : Prop} : ∀ {pd : List xU}, recheck ms j e u pd R -> R /\ ∀ p ∈ pd, match p with
  | .loc i l => (match e with | .oA l' => qU ms i j = true -> l ≠ l' | _ => True)
  | .mem i b o cs => (match e with | .wr => qU ms i j = true -> Rd u b o cs | _ => True)
 | [], h => ⟨h, by simp⟩
 | .loc i l :: pd, h => by
  cases e with
  | oA l' =>
   have h : (if (qU ms i j && Nat.beq l l') = true then False else recheck ms j (.oA l') u pd R) := h
   split at h
   ·exact h.elim
   ·rename_i hc
    obtain ⟨h1, h2⟩ := recheck_spec h
    refine ⟨h1, fun p hp => ?_⟩
    rcases List.mem_cons.1 hp with rfl | hp
    ·intro hu e
     subst e
     exact hc (by simp [hu])
    ·exact h2 p hp
  | _ =>
   obtain ⟨h1, h2⟩ := recheck_spec (pd := pd) h
   refine ⟨h1, fun p hp => ?_⟩
   rcases List.mem_cons.1 hp with rfl | hp
   ·trivial
   ·exact h2 p hp
 | .mem i b o cs :: pd, h => by
  cases e with
  | wr =>
   have h : (if qU ms i j = true then Rd u b o cs /\ recheck ms j .wr u pd R else recheck ms j .wr u pd R) := h
   split at h
   ·rename_i hu
    obtain ⟨h1, h2⟩ := recheck_spec h.2
    refine ⟨h1, fun p hp => ?_⟩
    rcases List.mem_cons.1 hp with rfl | hp
    ·exact fun _ => h.1
    ·exact h2 p hp
   ·rename_i hu
    obtain ⟨h1, h2⟩ := recheck_spec h
    refine ⟨h1, fun p hp => ?_⟩
    rcases List.mem_cons.1 hp with rfl | hp
    ·exact fun hu' => absurd hu' hu
    ·exact h2 p hp
  | _ =>
   obtain ⟨h1, h2⟩ := recheck_spec (pd := pd) h
   refine ⟨h1, fun p hp => ?_⟩
   rcases List.mem_cons.1 hp with rfl | hp
   ·trivial
   ·exact h2 p hp
theorem Df {ρ r : List Nat} {ls ls' : List Loc} {u u' w w' : World} {e : Eff} {ms : List Nat} {j : Nat} {pd : List xU} {ps : List re} {R : Prop} (hm : MS u0 w0 ρ ls u w) (hm' : MS u0 w0 (ρ ++ r) ls' u' w') (he : Gd e ρ ls ls' w w')
  (hp : FP ρ u pd ps) (hr : recheck ms j e u' pd R) : Gk ms ps j w w' := by
 obtain ⟨_, hre⟩ := recheck_spec hr
 intro q hq hu hC
 rcases hp q hq with hall | ⟨p, hpp, hpq⟩
 ·exact hall w'
 have hpre := hre p hpp
 cases p with
 | loc i l =>
  obtain ⟨hi, b, x, hb, hC'⟩ := hpq
  rw [hC'] at hC ⊢
  rw [hi] at hu
  simp only at hpre
  have hlt : l < ls.length := by rw [<- hm.len]; exact (List.getElem?_eq_some_iff.1 hb).1
  have hb' : (ρ ++ r)[l]? = some b := by rw [List.getElem?_append_left (List.getElem?_eq_some_iff.1 hb).1]; exact hb
  have hl := List.getElem?_eq_getElem hlt
  have same : ls'[l]? = ls[l]? -> w'.heap[b]? = w.heap[b]? := fun hs => by
   rw [hl] at hs
   rw [(hm.own l _ b hl hb).2, (hm'.own l _ b hs hb').2]
  show w'.heap[b]? = x
  rw [<- hC]
  cases e with
  | oA l' => exact same (he.1 l (hpre hu))
  | wr => exact same (he l hlt)
  | pure => rw [he.1]
  | mO _ => rw [he.1]
  | uM _ _ _ => rw [he.1]
 | mem i b o cs =>
  obtain ⟨hi, hb, hC'⟩ := hpq
  rw [hC'] at hC ⊢
  rw [hi] at hu
  simp only at hpre
  show Rd w' b o cs
  cases e with
  | wr => exact hm'.le.rd (hpre hu)
  | oA l' =>
   rcases hb with rfl | ⟨_, hbr⟩
   ·trivial
   ·have hk := he.2 b (fun c hc e => by subst e; exact hbr (List.mem_of_getElem? hc))
    have hC : Rd w b o cs := hC
    rw [l8] at hC ⊢
    intro t v hv
    rw [<- hC t v hv]
    exact World.cell?_of_block hk
  | pure => rw [he.1]; exact hC
  | mO _ => rw [he.1]; exact hC
  | uM _ _ _ => rw [he.1]; exact hC
theorem mQ (hC : bS C) {ops : Array Oper} {Kn : KN} {ρ0 : List Nat} {a0 : Act} (hsel : Region.noSelect ops = true) : ∀ (n : Nat) (listed : Array Bool) (pd : List xU) (ps : List re) {ρ : List Nat} {fr : List SV} {ls : List Loc} {u w : World} {a : Act},
  (∃ r, ρ = ρ0 ++ r) -> MS u0 w0 ρ ls u w -> cm ρ fr a -> Out (lk ops.toList) a0 a -> lY ops listed -> FP ρ u pd ps ->
  wAny C ops (masks ops.toList []) Kn n listed pd fr ls u -> ri C.P ops (St u0 w0 ρ0 (lk ops.toList) a0 Kn) (masks ops.toList []) ps n listed a w
 | 0, listed, pd, ps, ρ, fr, ls, u, w, a, hρ, hm, hf, ho, hc, hp, h => by
  simp only [wAny] at h
  split at h
  ·rename_i he
   exact ⟨by simpa using he, ρ, fr, ls, u, hρ, hm, hf, h, ho⟩
  ·exact h.elim
 | n + 1, listed, pd, ps, ρ, fr, ls, u, w, a, hρ, hm, hf, ho, hc, hp, h => by
  simp only [wAny] at h
  split at h
  ·rename_i hr
   refine ⟨fun _ => ⟨ρ, fr, ls, u, hρ, hm, hf, h, ho⟩, fun i hi => ?_⟩
   rw [hr] at hi
   cases hi
  ·rename_i r rs hr
   have hdst : ∀ (i : Nat) (o : Oper), ops[i]? = some o -> ∀ t, o.dst = some t -> memN (lk ops.toList) t = true := fun i o hio t ht => uP (zp (by have := Array.mem_of_getElem? hio; simpa using this) ht)
   split at h
   ·rename_i i hfind
    have hmem := List.mem_of_find?_eq_some hfind
    have hprop := List.find?_some hfind
    rw [<- hr] at hmem
    cases hio : ops[i]? with
    | none => rw [hio] at h; exact h.elim
    | some o =>
     rw [hio] at h hprop
     simp only [Option.map_some, Option.getD_some, Bool.and_eq_true] at hprop h
     obtain ⟨hread, hfree⟩ := hprop
     have hfree' := Region.free_spec (md := .any) hio hfree
     rcases guard_sound hf h with ⟨fr', hf', hrun, hw⟩ | ⟨fr', hf', hskip, hw⟩
     ·obtain ⟨s, v, e, hk, hs, hcl, hmemr, hre⟩ := Bh hC hm hf' hread hrun
      refine s8 (C := cls ρ w e) (v := v) hio (Region.noSelect_spec hsel) rfl n listed a w hfree' hc hmem (.inl ⟨by simpa using hw, hre⟩) hcl ?_
      refine mQ hC hsel n _ (pend i e pd) _ hρ hm (hf'.put hs) (ho.trans (Act.qd (hdst i o hio))) (hc.set hmem) (fun q hq => ?_) hk
      have old : ∀ q ∈ ps, (∀ w, q.C w) \/ ∃ p ∈ pend i e pd, uI ρ u p q := fun q hq => (hp q hq).imp id fun ⟨p, hp, hpq⟩ => ⟨p, by cases e <;> simp [pend, hp], hpq⟩
      rcases List.mem_cons.1 hq with rfl | hq
      ·cases e with
       | pure => exact .inl fun _ => trivial
       | mO l =>
        rcases Nat.lt_or_ge l ρ.length with hl | hl
        ·refine .inr ⟨.loc i l, by simp [pend], rfl, ?_⟩
         have hb := List.getElem?_eq_getElem hl
         refine ⟨ρ[l], w.heap[ρ[l]]?, hb, ?_⟩
         funext w'
         apply propext
         constructor
         ·intro h'; exact h' _ hb
         ·intro h' b hb'; rw [hb] at hb'; simp only [Option.some.injEq] at hb'; subst hb'; exact h'
        ·exact .inl fun w' b hb => by rw [List.getElem?_eq_none hl] at hb; cases hb
       | uM b q cs =>
        have hrd := hmemr b q cs rfl
        refine .inr ⟨.mem i b q cs, by simp [pend], rfl, ?_, rfl⟩
        cases cs with
        | nil => exact .inl rfl
        | cons c cs =>
         obtain ⟨c', t, f, hb, _, _⟩ := fD hrd.1
         refine .inr ⟨(Array.getElem?_eq_some_iff.1 hb).1, fun hmem => ?_⟩
         obtain ⟨j, hj⟩ := List.mem_iff_getElem?.1 hmem
         have hlt : j < ls.length := by rw [<- hm.len]; exact (List.getElem?_eq_some_iff.1 hj).1
         have := (hm.own j _ b (List.getElem?_eq_getElem hlt) hj).1
         rw [hb] at this
         simp [hole] at this
       | oA l => exact hcl.elim
       | wr => exact hcl.elim
      ·exact old q hq
     ·refine s8 (C := fun _ => True) (v := undef) hio (Region.noSelect_spec hsel) rfl n listed a w hfree' hc hmem (.inr ⟨by simpa using hw, rfl⟩) trivial ?_
      refine mQ hC hsel n _ pd _ hρ hm (hf'.put (s := .v (.tuple #[])) rfl) (ho.trans (Act.qd (hdst i o hio))) (hc.set hmem) (fun q hq => ?_) hskip
      rcases List.mem_cons.1 hq with rfl | hq
      ·exact .inl fun _ => trivial
      ·exact hp q hq
   ·rename_i hfind
    refine ⟨fun h0 => (by rw [h0] at hr; cases hr), fun i hi => ?_⟩
    have h := zB h i (by rw [<- hr]; exact hi)
    cases hio : ops[i]? with
    | none => rw [hio] at h; exact h.elim
    | some o =>
     rw [hio] at h
     simp only at h
     unfold wpOp
     rw [hio]
     simp only
     rcases guard_sound hf h with ⟨fr', hf', hrun, hw⟩ | ⟨fr', hf', hskip, hw⟩
     ·rw [if_pos (by simpa using hw)]
      refine .inl (Oper.wp_mono (fun a' w' hpo => ?_) (Ee hC (Q := NQ (St u0 w0 ρ0 (lk ops.toList) a0 Kn)) hm hf' hrun))
      obtain ⟨s, ls', u', e, v, ρ', hk, rfl, ⟨r, rfl, hrn⟩, hs, hm', hsz, heff⟩ := hpo
      have hrk := (recheck_spec hk).1
      obtain ⟨r0, rfl⟩ := hρ
      exact ⟨Df hm hm' heff hp hk, mQ hC hsel n _ pd ps ⟨r0 ++ r, by simp⟩ hm' (hf'.mono.put hs) (ho.trans (Act.qd (hdst i o hio))) (hc.set hi) (hp.mono hrn hsz) hrk⟩
     ·rw [if_neg (by rw [Array.toArray_toList] at hw; rw [hw]; simp)]
      exact ⟨fun q _ _ hq => hq, mQ hC hsel n _ pd ps hρ hm (hf'.put (s := .v (.tuple #[])) rfl) (ho.trans (Act.qd (hdst i o hio))) (hc.set hi) hp hskip⟩
end
theorem Fl {P : Program} {c : Code} {Q : Exit -> Act -> World -> Prop} (I : Nat -> Act -> World -> Prop)
  (round : ∀ n a w, I n a w -> c.wp P (Exit.then (fun a' w' => ∃ m, m < n /\ I m a' w') Q) a w) {n : Nat} {a : Act} {w : World} (h : I n a w) : (Code.loop c).wp P Q a w := by
 intro b k cs
 have key : ∀ n a w, I n a w -> ∃ e a' w', Q e a' w' /\ Arrives P (lone (b.at a (.code c :: .inLoop c :: k)) cs w) b k cs e a' w' := by
  intro n
  induction n using Nat.strongRecOn with
  | _ n ih =>
   intro a w hI
   obtain ⟨e, a₁, w₁, hq, harr⟩ := round n a w hI b (.inLoop c :: k) cs
   cases e with
   | normal =>
    obtain ⟨m, hlt, hI₁⟩ := hq
    obtain ⟨e₂, a₂, w₂, hq₂, harr₂⟩ := ih m hlt a₁ w₁ hI₁
    exact ⟨e₂, a₂, w₂, hq₂, .of_steps (Steps.trans harr (.one step_inLoop)) harr₂⟩
   | exit id => exact ⟨_, a₁, w₁, hq, .pass (x := .inLoop c) rfl (fun _ _ => .inl (by simp)) harr⟩
   | goto l => exact ⟨_, a₁, w₁, hq, .pass (x := .inLoop c) rfl (fun _ _ => .inl (by simp)) harr⟩
   | ret => exact ⟨_, a₁, w₁, hq, .pass (x := .inLoop c) rfl (fun _ _ => .inl (by simp)) harr⟩
   | panic ch => exact ⟨_, a₁, w₁, hq, .pass (x := .inLoop c) rfl (fun _ _ => .inl (by simp)) harr⟩
   | outgrown => exact ⟨_, a₁, w₁, hq, .pass (x := .inLoop c) rfl (fun _ _ => .inl (by simp)) harr⟩
 obtain ⟨e, a', w', hq, harr⟩ := key n a w h
 exact ⟨e, a', w', hq, .of_steps (.one step_loop) harr⟩
theorem St.uh {u0 w0 : World} {ρ0 r : List Nat} {D E : List Nat} {a0 a1 a : Act} {K : KN} {w : World} (h : St u0 w0 (ρ0 ++ r) E a1 K a w) (ho : Out D a0 a1) : St u0 w0 ρ0 (D ++ E) a0 K a w := by
 obtain ⟨ρ, fr, ls, u, ⟨r', rfl⟩, h1, h2, h3, h4⟩ := h
 exact ⟨_, fr, ls, u, ⟨r ++ r', by simp⟩, h1, h2, h3, ho.left.trans h4.right⟩
theorem Qof.uh {u0 w0 : World} {ρ0 r : List Nat} {D E : List Nat} {a0 a1 : Act} {Kn Kr : KN} {Kx : Nat -> KN} (ho : Out D a0 a1) : ∀ e a w, Qof u0 w0 (ρ0 ++ r) E a1 Kn Kx Kr e a w -> Qof u0 w0 ρ0 (D ++ E) a0 Kn Kx Kr e a w := by
 intro e a w h
 cases e with
 | normal => exact St.uh h ho
 | exit id => exact St.uh h ho
 | ret => exact St.uh h ho
 | goto l => exact h
 | panic c => exact h
 | outgrown => exact h
theorem St.wider {u0 w0 : World} {ρ0 : List Nat} {D E : List Nat} {a0 a : Act} {K : KN} {w : World} (h : St u0 w0 ρ0 D a0 K a w) (hDE : ∀ t, memN E t = false -> memN D t = false) : St u0 w0 ρ0 E a0 K a w := by
 obtain ⟨ρ, fr, ls, u, hr, h1, h2, h3, h4⟩ := h
 exact ⟨ρ, fr, ls, u, hr, h1, h2, h3, fun t ht => h4 t (hDE t ht)⟩
theorem Qof.wider {u0 w0 : World} {ρ0 : List Nat} {D E : List Nat} {a0 : Act} {Kn Kr : KN} {Kx : Nat -> KN} (hDE : ∀ t, memN E t = false -> memN D t = false) : ∀ e a w, Qof u0 w0 ρ0 D a0 Kn Kx Kr e a w -> Qof u0 w0 ρ0 E a0 Kn Kx Kr e a w := by
 intro e a w h
 cases e with
 | normal => exact St.wider h hDE
 | exit id => exact St.wider h hDE
 | ret => exact St.wider h hDE
 | goto l => exact h
 | panic c => exact h
 | outgrown => exact h
theorem q8 : ∀ {l : List SS} {os xs : List SV}, os.length = l.length -> xs.length = l.length -> (normSl l os xs).length = l.length
 | [], _, _, _, _ => by simp [normSl]
 | s :: l, o :: os, x :: xs, h1, h2 => by simp [normSl, q8 (l := l) (os := os) (xs := xs) (by simpa using h1) (by simpa using h2)]
 | _ :: _, [], _, h, _ => by simp at h
 | _ :: _, _ :: _, [], _, h => by simp at h
theorem yp : ∀ {l : List SS} {os xs : List SV} {i0 : Nat} {D : List Nat}, os.length = l.length -> xs.length = l.length -> keepsOk D i0 l = true -> ∀ (t : Nat) (s : SV), (normSl l os xs)[t]? = some s ->
  (memN D (i0 + t) = false /\ os[t]? = some s) \/ s = .ah \/ (∃ x, xs[t]? = some x /\ (s = x \/ ∃ b, x = .lit b /\ s = .v (.bool b))) \/ ∃ i, l[t]? = some (.lp i) /\ s = .lp i 0
 | [], _, _, _, _, _, _, _, t, s, h => by simp [normSl] at h
 | _ :: _, [], _, _, _, h, _, _, _, _, _ => by simp at h
 | _ :: _, _ :: _, [], _, _, _, h, _, _, _, _ => by simp at h
 | k :: l, o :: os, x :: xs, i0, D, h1, h2, hk, t, s, h => by
  have hk' : keepsOk D (i0 + 1) l = true /\ (k = .aa -> memN D i0 = false) := by
   cases k <;> simp only [keepsOk, Bool.and_eq_true] at hk
   ·exact ⟨hk.2, fun _ => by simpa using hk.1⟩
   all_goals exact ⟨hk, fun e => by cases e⟩
  cases t with
  | zero =>
   simp only [normSl, List.getElem?_cons_zero, Option.some.injEq] at h
   subst h
   cases k with
   | aa => exact .inl ⟨hk'.2 rfl, rfl⟩
   | ah => exact .inr (.inl rfl)
   | lp i => exact .inr (.inr (.inr ⟨i, rfl, rfl⟩))
   | _ => refine .inr (.inr (.inl ⟨x, rfl, ?_⟩)); cases x <;> simp [normS]
  | succ t =>
   simp only [normSl, List.getElem?_cons_succ] at h
   have := yp (by simpa using h1) (by simpa using h2) hk'.1 t s h
   rw [show i0 + 1 + t = i0 + (t + 1) by omega] at this
   simpa using this
theorem uu {α : Type} : ∀ {l : List SS} {xs : List SV} {f : wQ l α} {R : α -> Prop}, ru l xs f R -> ∀ (t i : Nat), l[t]? = some (.lp i) -> xs[t]? = some (.lp i 0)
 | [], _, _, _, _, t, i, h => by simp at h
 | _ :: _, [], _, _, h, _, _, _ => h.elim
 | k :: l, x :: xs, f, R, ha, t, i, h => by
  have ha : uz k x f (fun g => ru l xs g R) := ha
  cases t with
  | zero =>
   simp only [List.getElem?_cons_zero, Option.some.injEq] at h
   subst h
   cases x <;> try (exact ha.elim)
   have e := (nq ha).1
   rw [e.1, e.2]
   rfl
  | succ t =>
   simp only [List.getElem?_cons_succ] at h ⊢
   obtain ⟨g, hg, _⟩ := wS (s := k) (x := x) ha ha
   exact uu hg t i h
theorem yy {n : Nat} : ∀ {l : List SS}, lpsOk n l = true -> ∀ (t i : Nat), l[t]? = some (.lp i) -> i < n
 | [], _, t, i, h => by simp at h
 | k :: l, hk, t, i, h => by
  have hk' : lpsOk n l = true /\ (∀ i, k = .lp i -> i < n) := by
   cases k <;> simp only [lpsOk, Bool.and_eq_true] at hk
   case lp j => exact ⟨hk.2, fun i e => by cases e; exact (by simpa using hk.1)⟩
   all_goals exact ⟨hk, fun _ e => by cases e⟩
  cases t with
  | zero =>
   simp only [List.getElem?_cons_zero, Option.some.injEq] at h
   exact hk'.2 i h
  | succ t => exact yy hk'.1 t i (by simpa using h)
theorem Cq {n : Nat} : ∀ {l : List SS}, lpsOk 0 l = true -> lpsOk n l = true
 | [], _ => rfl
 | k :: l, h => by
  cases k <;> simp only [lpsOk, Bool.and_eq_true] at h ⊢
  case lp j => exact absurd (show j < 0 by simpa using h.1) (Nat.not_lt_zero _)
  all_goals exact Cq h
theorem SV.xQ {ρ : List Nat} {n : Nat} {s : SV} {y : Value} (h : s.holds ρ y) (hs : ∀ i o, s = .lp i o -> i < n) : s.holds (ρ.take n) y := by
 cases s with
 | lp i o =>
  obtain ⟨b, h1, h2⟩ := h
  exact ⟨b, by rw [List.getElem?_take_of_lt (hs i o rfl)]; exact h1, h2⟩
 | _ => exact h
theorem cm.norm {ρ ρ2 : List Nat} {n : Nat} {D : List Nat} {l : List SS} {os xs : List SV} {a0 a : Act} (h0 : cm ρ os a0) (h : cm ρ2 xs a) (hρ : ∀ (i b : Nat), ρ[i]? = some b -> (ρ2.take n)[i]? = some b) (ho : Out D a0 a) (h1 : os.length = l.length) (h2 : xs.length = l.length) (hk : keepsOk D 0 l = true) (hlo : lpsOk n l = true)
  (hlp : ∀ (t i off : Nat), (normSl l os xs)[t]? = some (.lp i off) -> (memN D t = false /\ os[t]? = some (.lp i off)) \/ l[t]? = some (.lp i)) (hla : ∀ (t i : Nat), l[t]? = some (.lp i) -> xs[t]? = some (.lp i 0)) : cm (ρ2.take n) (normSl l os xs) a := by
 have aa : ∀ {s : SV} {y : Value}, s.holds ρ y -> s.holds (ρ2.take n) y := fun {s y} hs => by
  cases s with
  | lp i o => obtain ⟨b, k1, k2⟩ := hs; exact ⟨b, hρ i b k1, k2⟩
  | _ => exact hs
 refine ⟨h.defers, by rw [q8 h1 h2, h.size, h2], fun t s y hs hy => ?_⟩
 rcases yp h1 h2 hk t s hs with ⟨hm, hos⟩ | rfl | ⟨x, hx, hsx⟩ | ⟨i, hli, rfl⟩
 ·rw [Nat.zero_add] at hm
  rw [ho t hm] at hy
  exact aa (h0.slot t s y hos hy)
 ·trivial
 ·have hv := h.slot t x y hx hy
  rcases hsx with rfl | ⟨b, rfl, rfl⟩
  ·cases s with
   | lp i off =>
    rcases hlp t i off hs with ⟨hm, hos⟩ | hli
    ·rw [ho t hm] at hy
     exact aa (h0.slot t _ y hos hy)
    ·exact SV.xQ hv fun i' o' e => by cases e; exact yy hlo t _ hli
   | _ => exact hv
  ·exact hv
 ·exact SV.xQ (h.slot t _ y (hla t i hli) hy) fun i' o' e => by cases e; exact yy hlo t _ hli
theorem zI {α : Type} : ∀ {l : List SS} {os xs : List SV} {f : wQ l α} {R : α -> Prop} {i0 : Nat} {D : List Nat}, os.length = l.length -> keepsOk D i0 l = true -> ru l xs f R -> ∀ (t i off : Nat), (normSl l os xs)[t]? = some (.lp i off) -> (memN D (i0 + t) = false /\ os[t]? = some (.lp i off)) \/ l[t]? = some (.lp i)
 | [], _, [], _, _, _, _, _, _, _, t, i, off, h => by simp [normSl] at h
 | [], _, _ :: _, _, _, _, _, _, _, h, _, _, _, _ => h.elim
 | _ :: _, _, [], _, _, _, _, _, _, h, _, _, _, _ => h.elim
 | _ :: _, [], _ :: _, _, _, _, _, h, _, _, _, _, _, _ => by simp at h
 | k :: l, o :: os, x :: xs, f, R, i0, D, h1, hk, ha, t, i, off, h => by
  have hk' : keepsOk D (i0 + 1) l = true /\ (k = .aa -> memN D i0 = false) := by
   cases k <;> simp only [keepsOk, Bool.and_eq_true] at hk
   ·exact ⟨hk.2, fun _ => by simpa using hk.1⟩
   all_goals exact ⟨hk, fun e => by cases e⟩
  have ha : uz k x f (fun g => ru l xs g R) := ha
  cases t with
  | zero =>
   simp only [normSl, List.getElem?_cons_zero, Option.some.injEq] at h
   cases k with
   | aa => exact .inl ⟨hk'.2 rfl, by simpa [normS] using h⟩
   | ah => simp [normS] at h
   | lp j =>
    simp only [normS, SV.lp.injEq] at h
    exact .inr (by rw [h.1]; rfl)
   | cell c => cases x <;> simp [normS] at h <;> exact ha.elim
   | agg c => cases x <;> simp [normS] at h <;> exact ha.elim
   | opq => cases x <;> simp [normS] at h <;> exact ha.elim
  | succ t =>
   simp only [normSl, List.getElem?_cons_succ] at h
   have hex : ∃ g, ru l xs g R := by
    obtain ⟨g, hg, _⟩ := wS (s := k) (x := x) ha ha
    exact ⟨g, hg⟩
   obtain ⟨g, hg⟩ := hex
   have := zI (by simpa using h1) hk'.1 hg t i off h
   rw [show i0 + 1 + t = i0 + (t + 1) by omega] at this
   simpa using this
theorem MS.take {u0 w0 u w : World} {ρ : List Nat} {ls : List Loc} (h : MS u0 w0 ρ ls u w) (n : Nat) : MS u0 w0 (ρ.take n) (ls.take n) u w := by
 refine ⟨h.le, h.kept, h.sz, by simp [h.len], h.nodup.sublist (List.take_sublist _ _), fun i l b hl' hb => ?_, fun b hb => h.new b (List.mem_of_mem_take hb)⟩
 have hi : i < n := by
  have := (List.getElem?_eq_some_iff.1 hb).1
  simp at this
  omega
 rw [List.getElem?_take_of_lt hi] at hl' hb
 exact h.own i l b hl' hb
theorem By {k j : Nat} (i : Nat) : swi k j (swi k j i) = i := by
 unfold swi
 by_cases h1 : i = k
 ·subst h1
  by_cases h2 : j = i <;> simp [h2]
 ·by_cases h2 : i = j
  ·subst h2; simp [h1]
  ·simp [h1, h2]
theorem Er {α : Type} {d : α} {k j : Nat} {l : List α} (hk : k < l.length) (hj : j < l.length) (i : Nat) : (swL d k j l)[i]? = l[swi k j i]? := by
 unfold swL swi
 by_cases h2 : i = j
 ·subst h2
  by_cases h1 : i = k
  ·subst h1; simp [List.getElem?_set, hk, List.getD_eq_getElem?_getD]
  ·simp [List.getElem?_set, hk, hj, h1, List.getD_eq_getElem?_getD]
 ·by_cases h1 : i = k
  ·subst h1
   have : ¬ j = i := fun e => h2 e.symm
   simp [List.getElem?_set, hk, hj, this, List.getD_eq_getElem?_getD]
  ·have e1 : ¬ j = i := fun e => h2 e.symm
   have e2 : ¬ k = i := fun e => h1 e.symm
   simp [List.getElem?_set, h1, h2, e1, e2]
theorem H6 {u0 w0 u w : World} {ρ r : List Nat} {ls : List Loc} {fr : List SV} {a : Act} {sl : List SS} {K : List SV -> List Loc -> World -> Prop} (hm : MS u0 w0 (ρ ++ r) ls u w) (hf : cm (ρ ++ r) fr a) (h : reK sl ρ.length K fr ls u) :
  ∃ r' fr' ls', MS u0 w0 (ρ ++ r') ls' u w /\ cm (ρ ++ r') fr' a /\ K fr' ls' u := by
 unfold reK at h
 split at h
 ·exact ⟨r, fr, ls, hm, hf, h⟩
 ·rename_i k j _
  split at h
  ·rename_i hc
   simp only [Bool.and_eq_true, Nat.ble_eq, Nat.blt_eq] at hc
   obtain ⟨⟨⟨h1, h2⟩, h3⟩, h4⟩ := hc
   have hlen := hm.len
   have k3 : k < (ρ ++ r).length := by omega
   have k4 : j < (ρ ++ r).length := by omega
   have g := Er (d := 0) (l := ρ ++ r) k3 k4
   have gl := Er (d := (⟨0, false, []⟩ : Loc)) (l := ls) h3 h4
   have hp : swL 0 k j (ρ ++ r) = ρ ++ (swL 0 k j (ρ ++ r)).drop ρ.length := by
    refine List.ext_getElem? fun i => ?_
    rcases Nat.lt_or_ge i ρ.length with hi | hi
    ·rw [g, List.getElem?_append_left hi]
     have : swi k j i = i := by unfold swi; rw [if_neg (by simp; omega), if_neg (by simp; omega)]
     rw [this, List.getElem?_append_left hi]
    ·rw [List.getElem?_append_right hi, List.getElem?_drop, show ρ.length + (i - ρ.length) = i by omega]
   have hlen2 : (swL 0 k j (ρ ++ r)).length = (ρ ++ r).length := by simp [swL]
   have hlen3 : (swL (⟨0, false, []⟩ : Loc) k j ls).length = ls.length := by simp [swL]
   refine ⟨(swL 0 k j (ρ ++ r)).drop ρ.length, _, _, ?_, ?_, h⟩
   ·rw [<- hp]
    refine ⟨hm.le, hm.kept, hm.sz, by rw [hlen2, hlen3, hlen], ?_, fun i l b hl hb => hm.own (swi k j i) l b (by rw [<- gl]; exact hl) (by rw [<- g]; exact hb), fun b hb => ?_⟩
    ·refine List.pairwise_iff_getElem.2 fun x y hx hy hxy he => ?_
     rw [hlen2] at hx hy
     have lt : ∀ z, z < (ρ ++ r).length -> swi k j z < (ρ ++ r).length := fun z hz => by unfold swi; split; exact k4; split; exact k3; exact hz
     have at_ : ∀ z (hz : z < (ρ ++ r).length) (hz' : z < (swL 0 k j (ρ ++ r)).length), (swL 0 k j (ρ ++ r))[z] = (ρ ++ r)[swi k j z]'(lt z hz) := fun z hz hz' => by
      have := g z
      rw [List.getElem?_eq_getElem hz', List.getElem?_eq_getElem (lt z hz)] at this
      exact Option.some.inj this
     rw [at_ x hx, at_ y hy] at he
     have inj : swi k j x ≠ swi k j y := fun e => by have := congrArg (swi k j) e; rw [By, By] at this; omega
     have nd := List.pairwise_iff_getElem.1 hm.nodup
     rcases Nat.lt_or_gt_of_ne inj with hlt | hlt
     ·exact nd _ _ (lt x hx) (lt y hy) hlt he
     ·exact nd _ _ (lt y hy) (lt x hx) hlt he.symm
    ·obtain ⟨i, hi, rfl⟩ := List.getElem_of_mem hb
     have : (swL 0 k j (ρ ++ r))[i]? = some ((swL 0 k j (ρ ++ r))[i]) := List.getElem?_eq_getElem hi
     rw [g] at this
     exact hm.new _ (List.mem_of_getElem? this)
   ·rw [<- hp]
    refine ⟨hf.defers, by rw [hf.size]; simp, fun t s y hs hy => ?_⟩
    rw [List.getElem?_map] at hs
    cases hx : fr[t]? with
    | none => rw [hx] at hs; cases hs
    | some x =>
     rw [hx] at hs
     simp only [Option.map_some, Option.some.injEq] at hs
     subst hs
     have hv := hf.slot t x y hx hy
     cases x with
     | lp i o =>
      obtain ⟨b, e1, e2⟩ := hv
      exact ⟨b, by rw [g, By]; exact e1, e2⟩
     | _ => exact hv
  ·exact h.elim
section
variable {C : Ctx} {u0 w0 : World}
theorem Hn (hC : bS C) : ∀ (c : Code) (Kn : KN) (Kx : Nat -> KN) (Kr : KN) {ρ : List Nat} {fr : List SV} {ls : List Loc} {u w : World} {a : Act}, MS u0 w0 ρ ls u w -> cm ρ fr a -> W C c Kn Kx Kr fr ls u ->
  c.wp C.P (Qof u0 w0 ρ (dsts c) a Kn Kx Kr) a w := by
 intro c
 induction c with
 | skip =>
  intro Kn Kx Kr ρ fr ls u w a hm hf h
  exact wp_skip ⟨ρ, fr, ls, u, ⟨[], by simp⟩, hm, hf, h, Out.refl _ _⟩
 | region id ops draw =>
  intro Kn Kx Kr ρ fr ls u w a hm hf h
  simp only [W] at h
  have toQ : ∀ e a' w', NQ (St u0 w0 ρ (lk ops.toList) a Kn) e a' w' -> Qof u0 w0 ρ (dsts (.region id ops draw)) a Kn Kx Kr e a' w' := by
   intro e a' w' hq
   cases e <;> first | exact hq | exact hq.elim
  cases draw with
  | true =>
   simp only [if_true] at h
   split at h
   ·rename_i hsel
    have := mQ hC hsel ops.size (Array.replicate ops.size false) [] [] (ρ0 := ρ) ⟨[], by simp⟩ hm.drew hf (Out.refl _ a) lY.start (fun q hq => by cases hq) h
    exact Code.wp_mono toQ (wp_region_any hC.mixed (yo _ _ _ _ this))
   ·exact h.elim
  | false =>
   simp only [Bool.false_eq_true, if_false] at h
   have := uA hC ops.toList (fun o ho => ho) (ρ0 := ρ) ⟨[], by simp⟩ hm hf (Out.refl _ a) h
   rw [Array.toArray_toList] at this
   exact Code.wp_mono toQ (wp_region_list this)
 | seq x y ihx ihy =>
  intro Kn Kx Kr ρ fr ls u w a hm hf h
  simp only [W] at h
  split at h
  ·refine wp_seq (Code.wp_mono (fun e a' w' hq => ?_) (ihx _ _ _ hm hf h))
   cases e with
   | normal =>
    obtain ⟨ρ1, fr1, ls1, u1, ⟨r, rfl⟩, hm1, hf1, hk1, ho1⟩ := hq
    exact Code.wp_mono (Qof.uh ho1) (ihy _ _ _ hm1 hf1 hk1)
   | exit id => exact St.wider hq fun t ht => by simp only [dsts, dh, Bool.or_eq_false_iff] at ht; exact ht.1
   | ret => exact St.wider hq fun t ht => by simp only [dsts, dh, Bool.or_eq_false_iff] at ht; exact ht.1
   | goto l => exact hq
   | panic c => exact hq
   | outgrown => exact hq
  ·rename_i sh hsh
   split at h
   ·rename_i hkeep
    obtain ⟨J, h1, h2⟩ := h
    rw [Bool.and_eq_true] at hkeep
    refine wp_seq (Code.wp_mono (fun e a' w' hq => ?_) (ihx _ _ _ hm hf h1))
    cases e with
    | normal =>
     obtain ⟨ρ1, fr0, ls0, u1, ⟨r0, rfl⟩, hm0, hf0, hk0, ho1⟩ := hq
     rw [<- hm.len] at hk0
     obtain ⟨r, fr1, ls1, hm1, hf1, hk1⟩ := H6 hm0 hf0 hk0
     obtain ⟨⟨g, hg1, hg2⟩, hl1, hl2, hl3, hl4⟩ := FC hk1 h2
     have hlp := fun t i off ht => by
      have := zI (i0 := 0) hl2 hkeep.1 hk1 t i off ht
      rwa [Nat.zero_add] at this
     have hρl : ρ.length <= sh.ej.length := by rw [hm.len]; exact hl4
     have hρ : (ρ ++ r).take sh.ej.length = ρ ++ r.take (sh.ej.length - ρ.length) := by rw [List.take_append]; congr 1; exact List.take_of_length_le hρl
     have hf2 : cm ((ρ ++ r).take sh.ej.length) (normSl sh.fR fr fr1) a' := hf.norm hf1 (fun i b hb => by rw [hρ]; exact (List.getElem?_append_left (List.getElem?_eq_some_iff.1 hb).1).trans hb) ho1 hl2 hl1 hkeep.1 hkeep.2 hlp (uu hk1)
     have hm2 := hm1.take sh.ej.length
     have := ihy _ _ _ hm2 hf2 (hg1 u1 hg2)
     rw [hρ] at this
     exact Code.wp_mono (fun e a2 w2 hq2 => Qof.uh ho1 e a2 w2 hq2) this
    | exit id => exact St.wider hq fun t ht => by simp only [dsts, dh, Bool.or_eq_false_iff] at ht; exact ht.1
    | ret => exact St.wider hq fun t ht => by simp only [dsts, dh, Bool.or_eq_false_iff] at ht; exact ht.1
    | goto l => exact hq
    | panic c => exact hq
    | outgrown => exact hq
   ·exact h.elim
 | cond cnd x y ihx ihy =>
  intro Kn Kx Kr ρ fr ls u w a hm hf h
  simp only [W] at h
  have wx : ∀ e a' w', Qof u0 w0 ρ (dsts x) a Kn Kx Kr e a' w' -> Qof u0 w0 ρ (dsts (.cond cnd x y)) a Kn Kx Kr e a' w' := Qof.wider fun t ht => by simp only [dsts, dh, Bool.or_eq_false_iff] at ht; exact ht.1
  have wy : ∀ e a' w', Qof u0 w0 ρ (dsts y) a Kn Kx Kr e a' w' -> Qof u0 w0 ρ (dsts (.cond cnd x y)) a Kn Kx Kr e a' w' := Qof.wider fun t ht => by simp only [dsts, dh, Bool.or_eq_false_iff] at ht; exact ht.2
  split at h
  ·rename_i hc
   exact wp_cond_true (ym hf hc) (Code.wp_mono wx (ihx _ _ _ hm hf h))
  ·rename_i hc
   exact wp_cond_false (ym hf hc) (Code.wp_mono wy (ihy _ _ _ hm hf h))
  ·rename_i t hc
   exact wp_cond_split (kY hf hc) (fun ht => Code.wp_mono wx (ihx _ _ _ hm hf (h.1 ht))) (fun ht => Code.wp_mono wy (ihy _ _ _ hm hf (h.2 ht)))
  ·exact h.elim
 | block id c ih =>
  intro Kn Kx Kr ρ fr ls u w a hm hf h
  simp only [W] at h
  refine wp_block (Code.wp_mono (fun e a' w' hq => ?_) (ih _ _ _ hm hf h))
  cases e with
  | exit id' =>
   simp only [Exit.inBlock]
   have hq : St u0 w0 ρ (dsts c) a (if Nat.beq id' id then Kn else Kx id') a' w' := hq
   split
   ·rename_i he
    subst he
    have hq2 : St u0 w0 ρ (dsts c) a Kn a' w' := by simpa using hq
    exact hq2
   ·rename_i hne
    have : Nat.beq id' id = false := by
     cases hb : Nat.beq id' id with
     | false => rfl
     | true => exact absurd (Nat.eq_of_beq_eq_true hb) hne
    rw [this] at hq
    exact hq
  | normal => exact hq
  | ret => exact hq
  | goto l => exact hq
  | panic c => exact hq
  | outgrown => exact hq
 | loop c ih =>
  intro Kn Kx Kr ρ fr ls u w a hm hf h
  simp only [W] at h
  split at h
  ·exact h.elim
  ·rename_i sh hsh
   split at h
   ·rename_i hkeep
    obtain ⟨J, M, h1, h2⟩ := h
    simp only [Bool.and_eq_true] at hkeep
    obtain ⟨⟨hkeep, hlo⟩, hnf⟩ := hkeep
    have hn : ls.length = sh.ej.length := BX hnf h2
    let body : Nat -> List SV -> List Loc -> World -> Prop := fun n fr1 ls1 u1 =>
     W C c (fun fr'' ls'' u'' => mG sh ls1 fr'' ls'' J fun j' => j' u'' /\ mG sh ls1 fr'' ls'' M fun m' => m' u'' < n) Kx Kr fr1 ls1 u1
    let I : Nat -> Act -> World -> Prop := fun n a1 w1 => ∃ fr1 ls1 u1, MS u0 w0 ρ ls1 u1 w1 /\ cm ρ fr1 a1 /\ Out (dsts c) a a1 /\ xP sh.ej ls ls1 /\ ls1.length = sh.ej.length /\ body n fr1 ls1 u1
    have enter : ∀ {r : List Nat} {lsR : List Loc} {fr1 : List SV} {ls1 : List Loc} {u1 w1 : World} {a1 : Act} {S : (World -> Nat) -> Prop}, xP sh.ej ls lsR -> MS u0 w0 (ρ ++ r) ls1 u1 w1 -> cm (ρ ++ r) fr1 a1 -> Out (dsts c) a a1 ->
      mG sh lsR fr1 ls1 J (fun j => j u1) -> (mG sh lsR fr1 ls1 M S -> ∃ m, S m /\ I (m u1) a1 w1) /\ ∃ m, I m a1 w1 := by
     intro r lsR fr1 ls1 u1 w1 a1 S hl hm1 hf1 ho1 hJ
     obtain ⟨⟨g, hg1, hg2⟩, hl1, hl2, hl3, hl4⟩ := Hk hl hJ h2
     have hlp := fun t i off ht => by
      have := zI (i0 := 0) hl2 hkeep hJ t i off ht
      rwa [Nat.zero_add] at this
     have hρ : (ρ ++ r).take sh.ej.length = ρ := by rw [<- hn, <- hm.len]; simp
     have hlo' : lpsOk sh.ej.length sh.fR = true := Cq hlo
     have hf2 : cm ((ρ ++ r).take sh.ej.length) (normSl sh.fR fr fr1) a1 := hf.norm hf1 (fun i b hb => by rw [hρ]; exact hb) ho1 hl2 hl1 hkeep hlo' hlp (uu hJ)
     have hm2 := hm1.take sh.ej.length
     rw [hρ] at hf2 hm2
     have mk : ∀ m : World -> Nat, (∀ u', g u' -> W C c (fun fr'' ls'' u'' => mG sh (ls1.take sh.ej.length) fr'' ls'' J fun j' => j' u'' /\ mG sh (ls1.take sh.ej.length) fr'' ls'' M fun m' => m' u'' < m u') Kx Kr (normSl sh.fR fr fr1) (ls1.take sh.ej.length) u') -> I (m u1) a1 w1 :=
      fun m hb => ⟨_, _, u1, hm2, hf2, ho1, hl4, by simp; omega, hb u1 hg2⟩
     refine ⟨fun hM => ?_, ?_⟩
     ·obtain ⟨m, hm1', hS⟩ := xn hg1 (Fm hnf hl2 hM)
      exact ⟨m, hS, mk m hm1'⟩
     ·obtain ⟨m, hm1', _⟩ := xn hg1 hg1
      exact ⟨_, mk m hm1'⟩
    obtain ⟨n, hn0⟩ := (enter (r := []) (S := fun _ => True) (xP.refl _ _ (Nat.le_of_eq hn.symm)) (by simpa using hm) (by simpa using hf) (Out.refl _ _) h1).2
    refine Fl I (fun n a1 w1 hI => ?_) hn0
    obtain ⟨fr1, ls1, u1, hm1, hf1, ho1, hl1, hlen1, hbody⟩ := hI
    refine Code.wp_mono (fun e a' w' hq => ?_) (ih _ _ _ hm1 hf1 hbody)
    cases e with
    | normal =>
     obtain ⟨ρ2, fr2, ls2, u2, ⟨r, rfl⟩, hm2, hf2, hk2, ho2⟩ := hq
     obtain ⟨j, ⟨hj, hM⟩, _⟩ := xn hk2 hk2
     have hJ : mG sh ls1 fr2 ls2 J (fun j => j u2) := EZ hk2 fun _ h => h.1
     have := (enter (S := fun m => m u2 < n) hl1 hm2 hf2 (ho1.trans ho2) hJ).1 hM
     obtain ⟨m, hlt, hI⟩ := this
     exact ⟨_, hlt, hI⟩
    | exit id =>
     have hq : St u0 w0 ρ (dsts c) a1 (Kx id) a' w' := hq
     obtain ⟨ρ2, fr2, ls2, u2, hr, hm2, hf2, hk2, ho2⟩ := hq
     exact ⟨ρ2, fr2, ls2, u2, hr, hm2, hf2, hk2, ho1.trans ho2⟩
    | ret =>
     have hq : St u0 w0 ρ (dsts c) a1 Kr a' w' := hq
     obtain ⟨ρ2, fr2, ls2, u2, hr, hm2, hf2, hk2, ho2⟩ := hq
     exact ⟨ρ2, fr2, ls2, u2, hr, hm2, hf2, hk2, ho1.trans ho2⟩
    | goto l => exact hq
    | panic c => exact hq
    | outgrown => exact hq
   ·exact h.elim
 | exit id =>
  intro Kn Kx Kr ρ fr ls u w a hm hf h
  exact wp_exit ⟨ρ, fr, ls, u, ⟨[], by simp⟩, hm, hf, h, Out.refl _ _⟩
 | ret =>
  intro Kn Kx Kr ρ fr ls u w a hm hf h
  exact wp_ret ⟨ρ, fr, ls, u, ⟨[], by simp⟩, hm, hf, h, Out.refl _ _⟩
 | rangeFunc => intro Kn Kx Kr ρ fr ls u w a hm hf h; exact h.elim
 | scope => intro Kn Kx Kr ρ fr ls u w a hm hf h; exact h.elim
 | label => intro Kn Kx Kr ρ fr ls u w a hm hf h; exact h.elim
 | goto => intro Kn Kx Kr ρ fr ls u w a hm hf h; exact h.elim
 | refuse => intro Kn Kx Kr ρ fr ls u w a hm hf h; exact h.elim
def resSem (tmps : Array Value) : ResultVar -> Sem Value
 | .tmp t => pure (tmps.getD t undef)
 | .cell b t => do loadVar t (<- asAddr (tmps.getD b undef))
theorem GV (hC : bS C) {ρ : List Nat} {fr : List SV} {ls : List Loc} {u w : World} {a : Act} (hm : MS u0 w0 ρ ls u w) (hf : cm ρ fr a) {r : ResultVar} {p : Value -> Prop} (h : resOne C fr ls u r p) :
  ∃ x, p x /\ (resSem a.tmps r).run C.P w = .ok x w := by
 cases r with
 | tmp t =>
  simp only [resOne] at h
  split at h
  ·rename_i x hx
   refine ⟨x, h, ?_⟩
   have := cd hf hx
   simp only [resSem, Sem.run_pure]
   rw [show a.tmps.getD t undef = a.eval (.tmp t) from rfl, this]
  ·exact h.elim
 | cell b t =>
  simp only [resOne] at h
  obtain ⟨s, v, e, hk, hs, hc, _, hr⟩ := zC hC hm hf (dst := none) (ty := 0) (pos := "") (after := #[]) (g := none) h
  have hr := hr w hc
  cases s with
  | v x =>
   simp only at hk
   have hv : v = x := hs
   subst hv
   refine ⟨v, hk, ?_⟩
   simp only [resSem]
   rw [show a.tmps.getD b undef = a.eval (.tmp b) from rfl]
   simp only [execOp, Instr.loadAt, Sem.run_bind] at hr ⊢
   cases hx : a.eval (.tmp b) with
   | pointer ad =>
    rw [hx] at hr
    cases ad with
    | none => simp [Instr.sureAddr] at hr
    | some ad =>
     simp only [Instr.sureAddr, asAddr, Sem.run_pure, Result.andThen_ok] at hr ⊢
     cases hl : (loadVar t ad).run C.P w with
     | ok y w' =>
      rw [hl] at hr
      simp only [Result.andThen_ok, Result.ok.injEq, Next.value.injEq] at hr
      rw [hr.1, hr.2]
     | halt x' w' => rw [hl] at hr; simp at hr
   | _ => rw [hx] at hr; simp [Instr.sureAddr] at hr
  | lit b => exact hk.elim
  | lp i off => exact hk.elim
  | ah => exact hk.elim
theorem BH (hC : bS C) {ρ : List Nat} {fr : List SV} {ls : List Loc} {u w : World} {a : Act} (hm : MS u0 w0 ρ ls u w) (hf : cm ρ fr a) : ∀ {rs : List ResultVar} {p : List Value -> Prop}, zS C fr ls u rs p ->
  ∃ xs, p xs /\ (rs.mapM (resSem a.tmps)).run C.P w = .ok xs w
 | [], p, h => ⟨[], h, by simp⟩
 | r :: rs, p, h => by
  obtain ⟨x, h1, h2⟩ := GV hC hm hf h
  obtain ⟨xs, h3, h4⟩ := BH hC hm hf h1
  refine ⟨x :: xs, h3, ?_⟩
  rw [List.mapM_cons]
  simp only [Sem.run_bind, h2, Result.andThen_ok, h4, Sem.run_pure]
theorem Fe (hC : bS C) {ρ : List Nat} {fr : List SV} {ls : List Loc} {u w : World} {a : Act} (hm : MS u0 w0 ρ ls u w) (hf : cm ρ fr a) {fn : Func} {R : Ending -> World -> Prop} (h : FY C fn R fr ls u) :
  ∃ v, (results fn a.tmps).run C.P w = .ok v w /\ R (.returned v) u := by
 unfold FY at h
 obtain ⟨xs, h1, h2⟩ := BH hC hm hf h
 have hrun : (results fn a.tmps).run C.P w = .ok (if h : xs.toArray.size = 1 then xs.toArray[0] else .tuple xs.toArray) w := by
  have e : results fn a.tmps = (do let vs <- fn.results.mapM (resSem a.tmps); pure (if h : vs.size = 1 then vs[0] else .tuple vs)) := by
   unfold results
   congr 1
  rw [e, Array.mapM_eq_mapM_toList]
  simp only [Sem.run_bind, Sem.run_map, h2, Result.andThen_ok, Sem.run_pure]
 refine ⟨_, hrun, ?_⟩
 rcases xs with _ | ⟨x, _ | ⟨y, xs⟩⟩
 ·exact h1
 ·exact h1
 ·exact h1
theorem Dh (hC : bS C) {id : FuncId} {fn : Func} (hfn : C.P.funcs[id]? = some fn) {args : List Value} {u : World} {R : Ending -> World -> Prop} (h : wFunc C fn args u R) : Spec C.P id args.toArray u R := by
 intro w hle
 unfold wFunc at h
 split at h
 ·rename_i c hb
  refine calls_of_wp hfn hb ?_
  have hm : MS u w [] [] u w := ⟨hle, ⟨Nat.le_refl _, fun k hk => ⟨hk, rfl⟩⟩, Nat.le_refl _, rfl, List.nodup_nil, (by intro i l b hl; simp at hl), (by simp)⟩
  have hf : cm [] (args.map SV.v ++ List.replicate (fn.ntmps - args.length) (.v (.tuple #[]))) { tmps := args.toArray ++ Array.replicate (fn.ntmps - args.toArray.size) undef, defers := [] } := by
   refine ⟨rfl, by simp, fun t s y hs hy => ?_⟩
   simp only [List.size_toArray] at hy
   rcases Nat.lt_or_ge t args.length with ht | ht
   ·rw [List.getElem?_append_left (by simpa using ht), List.getElem?_map, List.getElem?_eq_getElem ht] at hs
    rw [Array.getElem?_append_left (by simpa using ht)] at hy
    simp only [Option.map_some, Option.some.injEq] at hs
    subst hs
    simp only [List.getElem?_toArray, List.getElem?_eq_getElem ht, Option.some.injEq] at hy
    exact hy.symm
   ·rw [List.getElem?_append_right (by simpa using ht)] at hs
    rw [Array.getElem?_append_right (by simpa using ht)] at hy
    simp only [List.length_map, List.getElem?_replicate, List.size_toArray, Array.getElem?_replicate] at hs hy
    split at hs
    ·rename_i hlt
     rw [if_pos hlt] at hy
     simp only [Option.some.injEq] at hs hy
     subst hs hy
     rfl
    ·cases hs
  refine Code.wp_mono (fun e a w1 hq => ?_) (Hn hC c _ _ _ hm hf h)
  have fin : ∀ K : KN, (∀ fr ls u1, K fr ls u1 -> FY C fn R fr ls u1) -> ∀ {D a0}, St u w [] D a0 K a w1 -> a.defers = [] /\ ∃ v, (results fn a.tmps).run C.P w1 = .ok v w1 /\ ∃ u', R (.returned v) u' /\ Le u' w1 /\ Kept u w u' w1 := by
   intro K hK D a0 hst
   obtain ⟨ρ, fr, ls, u1, _, hm1, hf1, hk, _⟩ := hst
   obtain ⟨v, h1, h2⟩ := Fe hC hm1 hf1 (hK _ _ _ hk)
   exact ⟨hf1.defers, v, h1, u1, h2, hm1.le, hm1.kept⟩
  cases e with
  | normal => exact fin _ (fun _ _ _ h => h) hq
  | ret => exact fin _ (fun _ _ _ h => h) hq
  | exit id =>
   obtain ⟨_, _, _, _, _, _, _, hk, _⟩ := hq
   exact hk.elim
  | goto l => exact hq
  | panic c => exact hq.elim
  | outgrown => exact hq.elim
 ·exact h.elim
theorem ai {C : Ctx} (hC : bS C) {id : FuncId} {fn : Func} (hfn : C.P.funcs[id]? = some fn) {args : List Value} {u : World} {R : Ending -> World -> Prop} {Q : Prop} (he : wFunc C fn args u R = Q) (h : Q) : Spec C.P id args.toArray u R := by
 subst he
 exact Dh hC hfn h
theorem Spec.mono {P : Program} {f : FuncId} {args : Array Value} {u : World} {R R' : Ending -> World -> Prop} (h : Spec P f args u R) (hR : ∀ e u', R e u' -> R' e u') : Spec P f args u R' := fun w hw => (h w hw).mono fun e _ ⟨u', h1, h2, h3⟩ => ⟨u', hR e u' h1, h2, h3⟩
end
structure Upd (S : Nat -> Prop) (u u' : World) : Prop where
 size : u.heap.size <= u'.heap.size
 old : ∀ k, k < u.heap.size -> ¬ S k -> u'.heap[k]? = u.heap[k]?
 os : u'.os = u.os
 output : u'.output = u.output
 tape : u'.tape = u.tape
abbrev Ext : World -> World -> Prop := Upd fun _ => False
def At (p : Option Addr) (k : Nat) : Prop := ∃ a, p = some a /\ a.block = k
theorem Upd.refl {S : Nat -> Prop} (u : World) : Upd S u u := ⟨Nat.le_refl _, fun _ _ _ => rfl, rfl, rfl, rfl⟩
theorem Upd.mono {S S' : Nat -> Prop} {u u' : World} (h : Upd S u u') (hs : ∀ k, k < u.heap.size -> S k -> S' k) : Upd S' u u' := ⟨h.size, fun k hk hn => h.old k hk fun hS => hn (hs k hk hS), h.os, h.output, h.tape⟩
theorem Upd.any {S : Nat -> Prop} {u u' : World} (h : Ext u u') : Upd S u u' := h.mono fun _ _ h => h.elim
theorem Upd.trans {S T : Nat -> Prop} {u v w : World} (h : Upd S u v) (g : Upd T v w) (hs : ∀ k, k < u.heap.size -> T k -> S k) : Upd S u w :=
 ⟨Nat.le_trans h.size g.size, fun k hk hn => by rw [g.old k (Nat.lt_of_lt_of_le hk h.size) fun ht => hn (hs k hk ht), h.old k hk hn], by rw [g.os, h.os], by rw [g.output, h.output], by rw [g.tape, h.tape]⟩
theorem Upd.ext {S : Nat -> Prop} {u v w : World} (h : Upd S u v) (g : Ext v w) : Upd S u w := h.trans g fun _ _ h => h.elim
theorem Upd.alloc {S : Nat -> Prop} {u v : World} (h : Upd S u v) (o : Obj) : Upd S u (ab v o) :=
 ⟨by show _ <= (v.heap.push o).size; rw [Array.size_push]; exact Nat.le_succ_of_le h.size, fun k hk hn => by
  rw [heap_alloc, if_neg (by have := h.size; omega)]
  exact h.old k hk hn, h.os, h.output, h.tape⟩
theorem Upd.drew {S : Nat -> Prop} {u v : World} (h : Upd S u v) : Upd S u (af v) := ⟨h.size, h.old, h.os, h.output, h.tape⟩
theorem z7 {b : Nat} : ∀ (cs : List Value) (o : Nat) (u : World), (ae u b o cs).os = u.os /\ (ae u b o cs).output = u.output /\ (ae u b o cs).tape = u.tape
 | [], _, _ => ⟨rfl, rfl, rfl⟩
 | c :: cs, o, u => z7 cs (o + 1) (u.setCell ⟨b, o, none⟩ c)
theorem Upd.put {S : Nat -> Prop} {u v : World} (h : Upd S u v) {b : Nat} (hb : b < u.heap.size -> S b) (o : Nat) (cs : List Value) : Upd S u (ae v b o cs) :=
 ⟨by rw [fb]; exact h.size, fun k hk hn => by
  rw [bE _ _ _ _ fun e => hn (by subst e; exact hb hk)]
  exact h.old k hk hn, by rw [(z7 cs o v).1, h.os], by rw [(z7 cs o v).2.1, h.output], by rw [(z7 cs o v).2.2, h.tape]⟩
theorem size_alloc (u : World) (o : Obj) : (ab u o).heap.size = u.heap.size + 1 := by show (u.heap.push o).size = _; simp
theorem size_drew (u : World) : (af u).heap.size = u.heap.size := rfl
theorem heap_drew (u : World) : (af u).heap = u.heap := rfl
theorem uL {u : World} {b o : Nat} {c : Value} {cs : List Value} (h : Rd u b o (c :: cs)) : b < u.heap.size := by
 obtain ⟨_, _, _, hb, _⟩ := fD h.1
 exact (Array.getElem?_eq_some_iff.1 hb).1
theorem De {u u' : World} {a : Addr} (h : u'.heap[a.block]? = u.heap[a.block]?) : u'.cell? a = u.cell? a := by
 unfold World.cell?
 rw [h]
theorem Cj {u u' : World} {b : Nat} (h : u'.heap[b]? = u.heap[b]?) : ∀ (cs : List Value) (o : Nat), Rd u b o cs -> Rd u' b o cs
 | [], _, _ => trivial
 | _ :: cs, o, hr => ⟨by rw [De h]; exact hr.1, Cj h cs (o + 1) hr.2⟩
theorem Upd.rd {S : Nat -> Prop} {u u' : World} (h : Upd S u u') {b o : Nat} {cs : List Value} (hr : Rd u b o cs) (hn : ¬ S b) : Rd u' b o cs := by
 cases cs with
 | nil => trivial
 | cons c cs => exact Cj (h.old b (uL hr) hn) _ _ hr
theorem Upd.aH {S : Nat -> Prop} {u u' : World} (h : Upd S u u') {p : Option Addr} {cs : List Value} (hr : Gets u p cs) (hn : ∀ k, At p k -> ¬ S k) : Gets u' p cs := by
 cases p with
 | none => exact hr
 | some a => exact ⟨hr.1, h.rd hr.2 (hn _ ⟨a, rfl, rfl⟩)⟩
theorem fw {u : World} {b : Nat} : ∀ (xs ys : List Value) (o : Nat), Rd u b o (xs ++ ys) -> Rd u b o xs /\ Rd u b (o + xs.length) ys
 | [], _, _, h => ⟨trivial, h⟩
 | x :: xs, ys, o, h => by
  have := fw xs ys (o + 1) h.2
  refine ⟨⟨h.1, this.1⟩, ?_⟩
  rw [List.length_cons, show o + (xs.length + 1) = o + 1 + xs.length by omega]
  exact this.2
theorem yT {u : World} {b : Nat} : ∀ (xs ys : List Value) (o : Nat), Rd u b o xs -> Rd u b (o + xs.length) ys -> Rd u b o (xs ++ ys)
 | [], _, _, _, h => h
 | x :: xs, ys, o, hx, h => ⟨hx.1, yT xs ys (o + 1) hx.2 (by rwa [List.length_cons, show o + (xs.length + 1) = o + 1 + xs.length by omega] at h)⟩
theorem zu {u : World} {b : Nat} : ∀ (xs ys : List Value) (o : Nat), Rd u b o xs -> Rd u b o ys -> xs.length = ys.length -> xs = ys
 | [], [], _, _, _, _ => rfl
 | x :: xs, y :: ys, o, hx, hy, hl => by
  have e : x = y := by have h1 := hx.1; rw [hy.1] at h1; exact (Option.some.inj h1).symm
  subst e
  rw [zu xs ys (o + 1) hx.2 hy.2 (by simpa using hl)]
 | [], _ :: _, _, _, _, hl => by simp at hl
 | _ :: _, [], _, _, _, hl => by simp at hl
theorem Ck {u : World} {p : Option Addr} {xs ys : List Value} (hx : Gets u p xs) (hy : Gets u p ys) (hl : xs.length = ys.length) : xs = ys := by
 cases p with
 | none => rw [hx, hy]
 | some a => exact zu _ _ _ hx.2 hy.2 hl
theorem sP (u : World) (a : Addr) : Gets u (some a) [] := ⟨fun h => absurd rfl h, trivial⟩
theorem El {u : World} {b es : Nat} : ∀ (ls : List (List Value)) (o i : Nat) (x : List Value), (∀ y ∈ ls, y.length = es) -> Rd u b o ls.flatten -> ls[i]? = some x -> Rd u b (o + i * es) x
 | [], _, _, _, _, _, h => by simp at h
 | y :: ls, o, 0, x, _, hr, h => by
  simp only [List.getElem?_cons_zero, Option.some.injEq] at h
  subst h
  have := (fw y ls.flatten o (by simpa using hr)).1
  simpa using this
 | y :: ls, o, i + 1, x, hl, hr, h => by
  have := El ls (o + es) i x (fun z hz => hl z (List.mem_cons_of_mem _ hz)) (by
   have := (fw y ls.flatten o (by simpa using hr)).2
   rwa [hl y List.mem_cons_self] at this) (by simpa using h)
  rwa [show o + (i + 1) * es = o + es + i * es by rw [Nat.add_mul]; omega]
theorem jg {es : Nat} : ∀ (ls : List (List Value)), (∀ y ∈ ls, y.length = es) -> ls.flatten.length = ls.length * es
 | [], _ => by simp
 | y :: ls, h => by
  have := jg ls fun z hz => h z (List.mem_cons_of_mem _ hz)
  simp only [List.flatten_cons, List.length_append, List.length_cons, this, h y List.mem_cons_self, Nat.add_mul]
  omega
structure Arr (u : World) (es : Nat) (p : Option Addr) (n : Nat) (ls : List (List Value)) : Prop where
 aH : Gets u p ls.flatten
 len : ls.length = n
 each : ∀ y ∈ ls, y.length = es
theorem Arr.flat {u : World} {es : Nat} {p : Option Addr} {n : Nat} {ls : List (List Value)} (h : Arr u es p n ls) : ls.flatten.length = n * es := by rw [jg ls h.each, h.len]
theorem Arr.at {u : World} {es : Nat} {p : Option Addr} {n : Nat} {ls : List (List Value)} (h : Arr u es p n ls) {i : Nat} (hi : i < n) (h0 : 0 < es) : ∃ b o, p = some ⟨b, o, none⟩ /\ Rd u b (o + i * es) (ls.getD i []) := by
 have hx : ls[i]? = some (ls.getD i []) := by
  rw [List.getD_eq_getElem?_getD, List.getElem?_eq_getElem (by rw [h.len]; exact hi)]
  rfl
 cases p with
 | none =>
  have hf := h.flat
  rw [show ls.flatten = [] from h.aH] at hf
  simp only [List.length_nil] at hf
  have : 0 < n * es := Nat.mul_pos (by omega) h0
  omega
 | some a =>
  obtain ⟨b, o, s⟩ := a
  obtain ⟨hs, hr⟩ := h.aH
  have hne : ls.flatten ≠ [] := fun e => by
   have hf := h.flat
   rw [e] at hf
   simp only [List.length_nil] at hf
   have : 0 < n * es := Nat.mul_pos (by omega) h0
   omega
  have hs := hs hne
  simp only at hs
  subst hs
  exact ⟨b, o, rfl, El ls o i _ h.each hr hx⟩
theorem Arr.upd {S : Nat -> Prop} {u u' : World} {es : Nat} {p : Option Addr} {n : Nat} {ls : List (List Value)} (h : Arr u es p n ls) (hu : Upd S u u') (hn : ∀ k, At p k -> ¬ S k) : Arr u' es p n ls := ⟨hu.aH h.aH hn, h.len, h.each⟩
theorem Arr.ext {u u' : World} {es : Nat} {p : Option Addr} {n : Nat} {ls : List (List Value)} (h : Arr u es p n ls) (hu : Ext u u') : Arr u' es p n ls := h.upd hu fun _ _ h => h
def Own (u : World) (es : Nat) (p : Option Addr) (n c : Nat) (cs : List Value) : Prop :=
 (p = none /\ n = 0 /\ c = 0 /\ cs = []) \/ ∃ b t r, p = some ⟨b, 0, none⟩ /\ u.heap[b]? = some (.cells (cs ++ r).toArray t (0, 0)) /\ cs.length = n * es /\ n <= c /\ r.length = (c - n) * es
theorem Own.nil (u : World) (es : Nat) : Own u es none 0 0 [] := .inl ⟨rfl, rfl, rfl, rfl⟩
theorem Own.len {u : World} {es : Nat} {p : Option Addr} {n c : Nat} {cs : List Value} (h : Own u es p n c cs) : cs.length = n * es := by
 rcases h with ⟨_, rfl, _, rfl⟩ | ⟨_, _, _, _, _, h, _⟩
 ·simp
 ·exact h
theorem Own.le {u : World} {es : Nat} {p : Option Addr} {n c : Nat} {cs : List Value} (h : Own u es p n c cs) : n <= c := by
 rcases h with ⟨_, rfl, rfl, _⟩ | ⟨_, _, _, _, _, _, h, _⟩
 ·exact Nat.le_refl _
 ·exact h
theorem j0 {u : World} {b : Nat} {t : TypeId} {f : Nat × Nat} : ∀ (xs pre post : List Value), u.heap[b]? = some (.cells (pre ++ xs ++ post).toArray t f) -> Rd u b pre.length xs
 | [], _, _, _ => trivial
 | x :: xs, pre, post, h => by
  refine ⟨?_, ?_⟩
  ·simp only [World.cell?, h]
   simp
  ·have := j0 (t := t) (f := f) xs (pre ++ [x]) post (by rw [h]; simp)
   simpa using this
theorem Own.aH {u : World} {es : Nat} {p : Option Addr} {n c : Nat} {cs : List Value} (h : Own u es p n c cs) : Gets u p cs := by
 rcases h with ⟨rfl, _, _, rfl⟩ | ⟨b, t, r, rfl, hb, _⟩
 ·rfl
 ·exact ⟨fun _ => rfl, by have := j0 cs [] r (by simpa using hb); simpa using this⟩
theorem Own.at {u : World} {es : Nat} {p : Option Addr} {n c : Nat} {cs : List Value} (h : Own u es p n c cs) {k : Nat} (hk : At p k) : k < u.heap.size /\ ∃ r t, u.heap[k]? = some (.cells (cs ++ r).toArray t (0, 0)) := by
 obtain ⟨a, ha, rfl⟩ := hk
 rcases h with ⟨rfl, _⟩ | ⟨b, t, r, rfl, hb, _⟩
 ·cases ha
 ·cases ha
  exact ⟨(Array.getElem?_eq_some_iff.1 hb).1, r, t, hb⟩
theorem Own.upd {S : Nat -> Prop} {u u' : World} {es : Nat} {p : Option Addr} {n c : Nat} {cs : List Value} (h : Own u es p n c cs) (hu : Upd S u u') (hn : ∀ k, At p k -> ¬ S k) : Own u' es p n c cs := by
 rcases h with h | ⟨b, t, r, rfl, hb, h⟩
 ·exact .inl h
 ·exact .inr ⟨b, t, r, rfl, by rw [hu.old b (Array.getElem?_eq_some_iff.1 hb).1 (hn _ ⟨_, rfl, rfl⟩)]; exact hb, h⟩
theorem Own.ext {u u' : World} {es : Nat} {p : Option Addr} {n c : Nat} {cs : List Value} (h : Own u es p n c cs) (hu : Ext u u') : Own u' es p n c cs := h.upd hu fun _ _ h => h
theorem Own.fresh (u : World) {es n : Nat} {cs : List Value} {t : TypeId} (hl : cs.length = n * es) : Own (ab u (.cells cs.toArray t)) es (some ⟨u.heap.size, 0, none⟩) n n cs :=
 .inr ⟨u.heap.size, t, [], rfl, by rw [heap_alloc, if_pos rfl]; simp, hl, Nat.le_refl _, by simp⟩
theorem Em {u : World} {b : Nat} {t : TypeId} {cs : List Value} (h : u.heap[b]? = some (.cells cs.toArray t (0, 0))) {o n : Nat} (hn : o + n <= cs.length) : Wr u b o n := fun j hj => by
 refine ⟨⟨cs[o + j]'(by omega), ?_⟩, ?_⟩
 ·simp only [World.cell?, h]
  simp only [Option.isSome_none, Bool.false_eq_true, if_false, List.getElem?_toArray]
  exact List.getElem?_eq_getElem (by omega)
 ·simp only [World.frozen?, h]
  simp
theorem Own.wrs {u : World} {es : Nat} {p : Option Addr} {n c : Nat} {cs : List Value} (h : Own u es p n c cs) {o m : Nat} (hm : o + m <= c * es) : WrS u p o m := by
 rcases h with ⟨rfl, _⟩ | ⟨b, t, r, rfl, hb, hl, hc, hr⟩
 ·trivial
 ·refine ⟨fun _ => rfl, ?_⟩
  rw [Nat.zero_add]
  refine Em hb ?_
  rw [List.length_append, hl, hr, <- Nat.add_mul, show n + (c - n) = c by omega]
  exact hm
theorem zJ {u : World} {b : Nat} {t : TypeId} {cs : List Value} (h : u.heap[b]? = some (.cells cs.toArray t (0, 0))) (o : Nat) (v : Value) : (u.setCell ⟨b, o, none⟩ v).heap[b]? = some (.cells (cs.set o v).toArray t (0, 0)) := by
 rw [heap_set, if_pos rfl, h]
 simp
theorem iW {b : Nat} {t : TypeId} : ∀ (ys pre mid post : List Value) (u : World), u.heap[b]? = some (.cells (pre ++ mid ++ post).toArray t (0, 0)) -> mid.length = ys.length -> (ae u b pre.length ys).heap[b]? = some (.cells (pre ++ ys ++ post).toArray t (0, 0))
 | [], pre, mid, post, u, h, hl => by
  have : mid = [] := List.length_eq_zero_iff.1 (by simpa using hl)
  subst this
  exact h
 | y :: ys, pre, [], post, u, h, hl => by simp at hl
 | y :: ys, pre, x :: mid, post, u, h, hl => by
  have h1 := zJ (v := y) (o := pre.length) h
  have h2 : (pre ++ x :: mid ++ post).set pre.length y = pre ++ [y] ++ mid ++ post := by simp
  rw [h2] at h1
  have := iW ys (pre ++ [y]) mid post _ h1 (by simpa using hl)
  simpa [ae] using this
theorem Own.put {u : World} {es b : Nat} {n c : Nat} {pre mid post : List Value} (h : Own u es (some ⟨b, 0, none⟩) n c (pre ++ mid ++ post)) {ys : List Value} (hl : mid.length = ys.length) {o : Nat} (ho : o = pre.length) : Own (ae u b o ys) es (some ⟨b, 0, none⟩) n c (pre ++ ys ++ post) := by
 subst ho
 rcases h with ⟨h, _⟩ | ⟨b', t, r, hp, hb, hlen, hc, hr⟩
 ·cases h
 ·cases hp
  refine .inr ⟨b, t, r, rfl, ?_, ?_, hc, hr⟩
  ·have := iW (t := t) ys pre mid (post ++ r) u (by rw [hb]; simp) hl
   rw [this]
   simp
  ·simp only [List.length_append] at hlen ⊢
   omega
theorem dV (n : Nat) (z : List Value) : (aS n z).length = n * z.length := by
 induction n with
 | zero => simp [aS]
 | succ n ih =>
  rw [aS, List.replicate_succ, List.flatten_cons, List.length_append, Nat.add_mul, Nat.one_mul, Nat.add_comm]
  congr 1
theorem Own.app {u u' : World} {e : TypeId} {es : Nat} {z : List Value} {p p' : Option Addr} {n c m c' : Nat} {cs old new : List Value} (h : Own u es p n c cs) (hr : cD u e es z p n c m old new p' c' u') (ho : old.length = n * es) (hold : Gets u p old) (hn : new.length = m * es) (hz : z.length = es) :
  Own u' es p' (n + m) c' (cs ++ new) /\ Upd (At p) u u' /\ ((p' = p /\ n + m <= c) \/ (p' = some ⟨u.heap.size, 0, none⟩ /\ Ext u u')) := by
 have e : old = cs := Ck hold h.aH (by rw [ho, h.len])
 subst e
 rcases hr with ⟨hc, rfl, rfl, rfl⟩ | ⟨hc, hc', rfl, rfl⟩
 ·rcases h with ⟨rfl, rfl, rfl, rfl⟩ | ⟨b, t, r, rfl, hb, hl, hc2, hr⟩
  ·have : m = 0 := by omega
   subst this
   have : new = [] := List.length_eq_zero_iff.1 (by simpa using hn)
   subst this
   exact ⟨.inl ⟨rfl, rfl, rfl, rfl⟩, Upd.refl _, .inl ⟨rfl, hc⟩⟩
  ·refine ⟨.inr ⟨b, t, r.drop (m * es), rfl, ?_, ?_, hc, ?_⟩, ?_, .inl ⟨rfl, hc⟩⟩
   ·have hmr : m * es <= r.length := by rw [hr]; exact Nat.mul_le_mul_right _ (by omega)
    have := iW (b := b) (t := t) new old (r.take (m * es)) (r.drop (m * es)) u (by rw [hb]; simp) (by rw [List.length_take, hn]; omega)
    simp only [bj, Nat.zero_add]
    rw [<- hl, this]
   ·rw [List.length_append, hl, hn, Nat.add_mul]
   ·rw [List.length_drop, hr, <- Nat.sub_mul]
    congr 1
    omega
   ·exact (Upd.refl u).put (fun _ => ⟨_, rfl, rfl⟩) _ _
 ·refine ⟨.inr ⟨u.heap.size, e, aS (c' - (n + m)) z, rfl, ?_, ?_, hc', ?_⟩, ((Upd.refl u).drew).alloc _, .inr ⟨rfl, ((Upd.refl u).drew).alloc _⟩⟩
  ·rw [heap_alloc, if_pos (size_drew u).symm]
  ·rw [List.length_append, h.len, hn, Nat.add_mul]
  ·rw [dV, hz]
theorem cD.none {u u' : World} {e : TypeId} {es : Nat} {z : List Value} {p' : Option Addr} {m c' : Nat} {old new : List Value} (hr : cD u e es z none 0 0 m old new p' c' u') (ho : old = []) (hn : new.length = m * es) (hz : z.length = es) :
  Own u' es p' (0 + m) c' new /\ Ext u u' /\ (m = 0 /\ p' = .none \/ p' = some ⟨u.heap.size, 0, .none⟩) := by
 have := (Own.nil u es).app hr (by simp [ho]) (by rw [ho]; rfl) hn hz
 simp only [List.nil_append] at this
 refine ⟨this.1, this.2.1.mono fun k _ h => ?_, ?_⟩
 ·obtain ⟨_, h, _⟩ := h
  cases h
 ·rcases this.2.2 with ⟨h, hm⟩ | ⟨h, _⟩
  ·exact .inl ⟨by omega, h⟩
  ·exact .inr h
structure Told (u : World) (x : Bool) (e : Ending) (u' : World) : Prop where
 e : e = .returned (.bool x)
 ext : Ext u u'
theorem Own.uV {u : World} {es : Nat} {p : Option Addr} {n c : Nat} {cs : List Value} (h : Own u es p n c cs) (hn : 0 < n) : ∃ b, p = some ⟨b, 0, none⟩ := by
 rcases h with ⟨_, h, _⟩ | ⟨b, _, _, h, _⟩
 ·omega
 ·exact ⟨b, h⟩
def TabOk (P : Program) : Nat -> List TI -> Prop
 | _, [] => True
 | i, ti :: r => (match ti.k with | .other => True | _ => TIok P i ti) /\ TabOk P (i + 1) r
def EE (P : Program) : List Nat -> Prop
 | [] => True
 | id :: r => (∃ fn, P.funcs[id]? = some fn /\ (fn.name == "runtime.NumGoroutine") = false /\ fn.body.isNone = false) /\ EE P r
def Es (P : Program) : List Nat -> Prop
 | [] => True
 | t :: r => (P.stoodInHeld t = false /\ P.eqGuardType P.depth t = false) /\ Es P r
theorem xI {P : Program} : ∀ {T : List TI} {i t : Nat} {ti : TI}, TabOk P i T -> T[t]? = some ti -> (∀ h : ti.k = .other, False) -> TIok P (i + t) ti
 | [], _, _, _, _, h, _ => by simp at h
 | x :: r, i, 0, ti, hT, h, hn => by
  simp only [List.getElem?_cons_zero, Option.some.injEq] at h
  subst h
  have := hT.1
  split at this
  ·rename_i h; exact (hn h).elim
  ·exact this
 | x :: r, i, t + 1, ti, hT, h, hn => by
  simp only [List.getElem?_cons_succ] at h
  have := xI hT.2 h hn
  rwa [show i + (t + 1) = i + 1 + t by omega]
theorem BT {P : Program} : ∀ {l : List Nat} {id : Nat}, EE P l -> memN l id = true -> ∃ fn, P.funcs[id]? = some fn /\ (fn.name == "runtime.NumGoroutine") = false /\ fn.body.isNone = false
 | [], _, _, h => by simp [memN] at h
 | k :: r, id, hl, h => by
  unfold memN at h
  split at h
  ·rename_i e
   rw [<- Nat.eq_of_beq_eq_true e]
   exact hl.1
  ·exact BT hl.2 h
theorem BZ {P : Program} : ∀ {l : List Nat} {t : Nat}, Es P l -> memN l t = true -> P.stoodInHeld t = false /\ P.eqGuardType P.depth t = false
 | [], _, _, h => by simp [memN] at h
 | k :: r, id, hl, h => by
  unfold memN at h
  split at h
  ·rename_i e
   rw [<- Nat.eq_of_beq_eq_true e]
   exact hl.1
  ·exact BZ hl.2 h
def tiStruct (T : List TI) : Nat -> List TI -> List Nat -> Bool
 | _, [], _ => true
 | i, ti :: r, eqs => (match ti.k with | .struct (f :: fs) => !scalars T 0 (f :: fs) || memN eqs i | _ => true) && tiStruct T (i + 1) r eqs
theorem vD {T : List TI} {eqs : List Nat} : ∀ {l : List TI} {i t : Nat} {ti : TI}, tiStruct T i l eqs = true -> l[t]? = some ti -> ∀ {f fs}, ti.k = .struct (f :: fs) -> scalars T 0 (f :: fs) = true -> memN eqs (i + t) = true
 | [], _, _, _, _, h, _, _, _, _ => by simp at h
 | x :: r, i, 0, ti, hT, h, f, fs, hk, hs => by
  simp only [List.getElem?_cons_zero, Option.some.injEq] at h
  subst h
  simp only [tiStruct, Bool.and_eq_true, hk, hs, Bool.not_true, Bool.false_or] at hT
  exact hT.1
 | x :: r, i, t + 1, ti, hT, h, f, fs, hk, hs => by
  simp only [List.getElem?_cons_succ] at h
  simp only [tiStruct, Bool.and_eq_true] at hT
  have := vD hT.2 h hk hs
  rwa [show i + (t + 1) = i + 1 + t by omega]
theorem FZ {P : Program} {T : List TI} {fns eqs : List Nat} (hT : TabOk P 0 T) (hm : P.follows .mixedOrders = true) (hf : EE P fns) (he : Es P eqs) (hc : tiStruct T 0 T eqs = true) {real pf FX : List Nat} {loops GM : List (Nat × fC)} : bS ⟨P, T, real, pf, FX, fns, loops, GM⟩ where
 ti := fun t ti h => by
  unfold Ctx.ti tiOf at h
  split at h
  ·rename_i x hx
   split at h
   ·cases h
   ·rename_i hn
    simp only [Option.some.injEq] at h
    subst h
    have := xI hT hx hn
    rwa [Nat.zero_add] at this
  ·cases h
 mixed := hm
 fn := fun id h => BT hf h
 eq := fun t h => by
  unfold eqTy Ctx.ti tiOf at h
  refine BZ he ?_
  split at h
  ·rename_i f fs s b z hx
   split at hx
   ·rename_i x hx'
    split at hx
    ·cases hx
    ·simp only [Option.some.injEq] at hx
     have := vD hc hx' (f := f) (fs := fs) (by rw [hx]) h
     rwa [Nat.zero_add] at this
   ·cases hx
  ·cases h
def tab : List TI := [
 ⟨.tuple [], 1, 0, []⟩,
 ⟨.cell .func, 1, 8, [.nilFunc]⟩,
 ⟨.other, 0, 0, []⟩,
 ⟨.cell (.int .i64), 1, 8, [.int .i64 0]⟩,
 ⟨.cell .bool, 1, 1, [.bool false]⟩,
 ⟨.cell (.int .u8), 1, 1, [.int .u8 0]⟩,
 ⟨.other, 0, 0, []⟩,
 ⟨.other, 0, 0, []⟩,
 ⟨.other, 0, 0, []⟩,
 ⟨.cell .str, 1, 16, [.string (ByteArray.mk #[])]⟩,
 ⟨.other, 0, 0, []⟩,
 ⟨.other, 0, 0, []⟩,
 ⟨.other, 0, 0, []⟩,
 ⟨.other, 0, 0, []⟩,
 ⟨.other, 0, 0, []⟩,
 ⟨.other, 0, 0, []⟩,
 ⟨.other, 0, 0, []⟩,
 ⟨.other, 0, 0, []⟩,
 ⟨.other, 0, 0, []⟩,
 ⟨.other, 0, 0, []⟩,
 ⟨.other, 0, 0, []⟩,
 ⟨.other, 0, 0, []⟩,
 ⟨.slice 53, 1, 24, [.slice none 0 0]⟩,
 ⟨.ptr 59, 1, 8, [.pointer none]⟩,
 ⟨.other, 0, 0, []⟩,
 ⟨.ptr 44, 1, 8, [.pointer none]⟩,
 ⟨.other, 0, 0, []⟩,
 ⟨.other, 0, 0, []⟩,
 ⟨.slice 38, 1, 24, [.slice none 0 0]⟩,
 ⟨.other, 0, 0, []⟩,
 ⟨.struct [(0, 28)], 1, 24, [.slice none 0 0]⟩,
 ⟨.slice 104, 1, 24, [.slice none 0 0]⟩,
 ⟨.other, 0, 0, []⟩,
 ⟨.struct [(0, 3), (1, 3), (2, 31), (3, 3), (4, 3), (5, 3), (6, 4), (7, 3), (8, 3)], 9, 88, [.int .i64 0, .int .i64 0, .slice none 0 0, .int .i64 0, .int .i64 0, .int .i64 0, .bool false, .int .i64 0, .int .i64 0]⟩,
 ⟨.array 6 33, 54, 528, [.int .i64 0, .int .i64 0, .slice none 0 0, .int .i64 0, .int .i64 0, .int .i64 0, .bool false, .int .i64 0, .int .i64 0, .int .i64 0, .int .i64 0, .slice none 0 0, .int .i64 0, .int .i64 0, .int .i64 0, .bool false, .int .i64 0, .int .i64 0, .int .i64 0, .int .i64 0, .slice none 0 0, .int .i64 0, .int .i64 0, .int .i64 0, .bool false, .int .i64 0, .int .i64 0, .int .i64 0, .int .i64 0, .slice none 0 0, .int .i64 0, .int .i64 0, .int .i64 0, .bool false, .int .i64 0, .int .i64 0, .int .i64 0, .int .i64 0, .slice none 0 0, .int .i64 0, .int .i64 0, .int .i64 0, .bool false, .int .i64 0, .int .i64 0, .int .i64 0, .int .i64 0, .slice none 0 0, .int .i64 0, .int .i64 0, .int .i64 0, .bool false, .int .i64 0, .int .i64 0]⟩,
 ⟨.other, 0, 0, []⟩,
 ⟨.struct [(0, 30), (1, 34), (55, 3), (56, 3), (57, 3)], 58, 576, [.slice none 0 0, .int .i64 0, .int .i64 0, .slice none 0 0, .int .i64 0, .int .i64 0, .int .i64 0, .bool false, .int .i64 0, .int .i64 0, .int .i64 0, .int .i64 0, .slice none 0 0, .int .i64 0, .int .i64 0, .int .i64 0, .bool false, .int .i64 0, .int .i64 0, .int .i64 0, .int .i64 0, .slice none 0 0, .int .i64 0, .int .i64 0, .int .i64 0, .bool false, .int .i64 0, .int .i64 0, .int .i64 0, .int .i64 0, .slice none 0 0, .int .i64 0, .int .i64 0, .int .i64 0, .bool false, .int .i64 0, .int .i64 0, .int .i64 0, .int .i64 0, .slice none 0 0, .int .i64 0, .int .i64 0, .int .i64 0, .bool false, .int .i64 0, .int .i64 0, .int .i64 0, .int .i64 0, .slice none 0 0, .int .i64 0, .int .i64 0, .int .i64 0, .bool false, .int .i64 0, .int .i64 0, .int .i64 0, .int .i64 0, .int .i64 0]⟩,
 ⟨.other, 0, 0, []⟩,
 ⟨.slice 3, 1, 24, [.slice none 0 0]⟩,
 ⟨.other, 0, 0, []⟩,
 ⟨.struct [(0, 3), (1, 38), (2, 9), (3, 4)], 4, 56, [.int .i64 0, .slice none 0 0, .string (ByteArray.mk #[]), .bool false]⟩,
 ⟨.array 6 40, 24, 336, [.int .i64 0, .slice none 0 0, .string (ByteArray.mk #[]), .bool false, .int .i64 0, .slice none 0 0, .string (ByteArray.mk #[]), .bool false, .int .i64 0, .slice none 0 0, .string (ByteArray.mk #[]), .bool false, .int .i64 0, .slice none 0 0, .string (ByteArray.mk #[]), .bool false, .int .i64 0, .slice none 0 0, .string (ByteArray.mk #[]), .bool false, .int .i64 0, .slice none 0 0, .string (ByteArray.mk #[]), .bool false]⟩,
 ⟨.array 3 4, 3, 3, [.bool false, .bool false, .bool false]⟩,
 ⟨.other, 0, 0, []⟩,
 ⟨.struct [(0, 36), (58, 41), (82, 42), (85, 3)], 86, 928, [.slice none 0 0, .int .i64 0, .int .i64 0, .slice none 0 0, .int .i64 0, .int .i64 0, .int .i64 0, .bool false, .int .i64 0, .int .i64 0, .int .i64 0, .int .i64 0, .slice none 0 0, .int .i64 0, .int .i64 0, .int .i64 0, .bool false, .int .i64 0, .int .i64 0, .int .i64 0, .int .i64 0, .slice none 0 0, .int .i64 0, .int .i64 0, .int .i64 0, .bool false, .int .i64 0, .int .i64 0, .int .i64 0, .int .i64 0, .slice none 0 0, .int .i64 0, .int .i64 0, .int .i64 0, .bool false, .int .i64 0, .int .i64 0, .int .i64 0, .int .i64 0, .slice none 0 0, .int .i64 0, .int .i64 0, .int .i64 0, .bool false, .int .i64 0, .int .i64 0, .int .i64 0, .int .i64 0, .slice none 0 0, .int .i64 0, .int .i64 0, .int .i64 0, .bool false, .int .i64 0, .int .i64 0, .int .i64 0, .int .i64 0, .int .i64 0, .int .i64 0, .slice none 0 0, .string (ByteArray.mk #[]), .bool false, .int .i64 0, .slice none 0 0, .string (ByteArray.mk #[]), .bool false, .int .i64 0, .slice none 0 0, .string (ByteArray.mk #[]), .bool false, .int .i64 0, .slice none 0 0, .string (ByteArray.mk #[]), .bool false, .int .i64 0, .slice none 0 0, .string (ByteArray.mk #[]), .bool false, .int .i64 0, .slice none 0 0, .string (ByteArray.mk #[]), .bool false, .bool false, .bool false, .bool false, .int .i64 0]⟩,
 ⟨.array 3 9, 3, 48, [.string (ByteArray.mk #[]), .string (ByteArray.mk #[]), .string (ByteArray.mk #[])]⟩,
 ⟨.tuple [9, 4, 4], 1, 0, []⟩,
 ⟨.other, 0, 0, []⟩,
 ⟨.cell (.int .i64), 1, 8, [.int .i64 0]⟩,
 ⟨.other, 0, 0, []⟩,
 ⟨.struct [(0, 48), (1, 3), (2, 9)], 3, 32, [.int .i64 0, .int .i64 0, .string (ByteArray.mk #[])]⟩,
 ⟨.other, 0, 0, []⟩,
 ⟨.other, 0, 0, []⟩,
 ⟨.struct [(0, 3), (1, 3), (2, 3), (3, 3), (4, 9)], 5, 48, [.int .i64 0, .int .i64 0, .int .i64 0, .int .i64 0, .string (ByteArray.mk #[])]⟩,
 ⟨.other, 0, 0, []⟩,
 ⟨.other, 0, 0, []⟩,
 ⟨.struct [(0, 4), (1, 33), (10, 9), (11, 4)], 12, 120, [.bool false, .int .i64 0, .int .i64 0, .slice none 0 0, .int .i64 0, .int .i64 0, .int .i64 0, .bool false, .int .i64 0, .int .i64 0, .string (ByteArray.mk #[]), .bool false]⟩,
 ⟨.array 3 56, 36, 360, [.bool false, .int .i64 0, .int .i64 0, .slice none 0 0, .int .i64 0, .int .i64 0, .int .i64 0, .bool false, .int .i64 0, .int .i64 0, .string (ByteArray.mk #[]), .bool false, .bool false, .int .i64 0, .int .i64 0, .slice none 0 0, .int .i64 0, .int .i64 0, .int .i64 0, .bool false, .int .i64 0, .int .i64 0, .string (ByteArray.mk #[]), .bool false, .bool false, .int .i64 0, .int .i64 0, .slice none 0 0, .int .i64 0, .int .i64 0, .int .i64 0, .bool false, .int .i64 0, .int .i64 0, .string (ByteArray.mk #[]), .bool false]⟩,
 ⟨.other, 0, 0, []⟩,
 ⟨.struct [(0, 36), (58, 41), (82, 57), (118, 3)], 119, 1280, [.slice none 0 0, .int .i64 0, .int .i64 0, .slice none 0 0, .int .i64 0, .int .i64 0, .int .i64 0, .bool false, .int .i64 0, .int .i64 0, .int .i64 0, .int .i64 0, .slice none 0 0, .int .i64 0, .int .i64 0, .int .i64 0, .bool false, .int .i64 0, .int .i64 0, .int .i64 0, .int .i64 0, .slice none 0 0, .int .i64 0, .int .i64 0, .int .i64 0, .bool false, .int .i64 0, .int .i64 0, .int .i64 0, .int .i64 0, .slice none 0 0, .int .i64 0, .int .i64 0, .int .i64 0, .bool false, .int .i64 0, .int .i64 0, .int .i64 0, .int .i64 0, .slice none 0 0, .int .i64 0, .int .i64 0, .int .i64 0, .bool false, .int .i64 0, .int .i64 0, .int .i64 0, .int .i64 0, .slice none 0 0, .int .i64 0, .int .i64 0, .int .i64 0, .bool false, .int .i64 0, .int .i64 0, .int .i64 0, .int .i64 0, .int .i64 0, .int .i64 0, .slice none 0 0, .string (ByteArray.mk #[]), .bool false, .int .i64 0, .slice none 0 0, .string (ByteArray.mk #[]), .bool false, .int .i64 0, .slice none 0 0, .string (ByteArray.mk #[]), .bool false, .int .i64 0, .slice none 0 0, .string (ByteArray.mk #[]), .bool false, .int .i64 0, .slice none 0 0, .string (ByteArray.mk #[]), .bool false, .int .i64 0, .slice none 0 0, .string (ByteArray.mk #[]), .bool false, .bool false, .int .i64 0, .int .i64 0, .slice none 0 0, .int .i64 0, .int .i64 0, .int .i64 0, .bool false, .int .i64 0, .int .i64 0, .string (ByteArray.mk #[]), .bool false, .bool false, .int .i64 0, .int .i64 0, .slice none 0 0, .int .i64 0, .int .i64 0, .int .i64 0, .bool false, .int .i64 0, .int .i64 0, .string (ByteArray.mk #[]), .bool false, .bool false, .int .i64 0, .int .i64 0, .slice none 0 0, .int .i64 0, .int .i64 0, .int .i64 0, .bool false, .int .i64 0, .int .i64 0, .string (ByteArray.mk #[]), .bool false, .int .i64 0]⟩,
 ⟨.other, 0, 0, []⟩,
 ⟨.other, 0, 0, []⟩,
 ⟨.cell .func, 1, 8, [.nilFunc]⟩,
 ⟨.other, 0, 0, []⟩,
 ⟨.other, 0, 0, []⟩,
 ⟨.slice 77, 1, 24, [.slice none 0 0]⟩,
 ⟨.tuple [40, 65, 48], 1, 0, []⟩,
 ⟨.other, 0, 0, []⟩,
 ⟨.tuple [33, 48], 1, 0, []⟩,
 ⟨.other, 0, 0, []⟩,
 ⟨.other, 0, 0, []⟩,
 ⟨.ptr 56, 1, 8, [.pointer none]⟩,
 ⟨.tuple [30, 48], 1, 0, []⟩,
 ⟨.other, 0, 0, []⟩,
 ⟨.other, 0, 0, []⟩,
 ⟨.other, 0, 0, []⟩,
 ⟨.other, 0, 0, []⟩,
 ⟨.struct [(0, 3), (1, 3), (2, 38), (3, 9)], 4, 56, [.int .i64 0, .int .i64 0, .slice none 0 0, .string (ByteArray.mk #[])]⟩,
 ⟨.other, 0, 0, []⟩,
 ⟨.other, 0, 0, []⟩,
 ⟨.other, 0, 0, []⟩,
 ⟨.struct [(0, 3), (1, 3), (2, 3), (3, 3)], 4, 32, [.int .i64 0, .int .i64 0, .int .i64 0, .int .i64 0]⟩,
 ⟨.other, 0, 0, []⟩,
 ⟨.other, 0, 0, []⟩,
 ⟨.other, 0, 0, []⟩,
 ⟨.other, 0, 0, []⟩,
 ⟨.tuple [3, 3, 4], 1, 0, []⟩,
 ⟨.other, 0, 0, []⟩,
 ⟨.other, 0, 0, []⟩,
 ⟨.other, 0, 0, []⟩,
 ⟨.tuple [40, 77], 1, 0, []⟩,
 ⟨.other, 0, 0, []⟩,
 ⟨.other, 0, 0, []⟩,
 ⟨.cell .func, 1, 8, [.nilFunc]⟩,
 ⟨.tuple [9, 33, 48], 1, 0, []⟩,
 ⟨.other, 0, 0, []⟩,
 ⟨.other, 0, 0, []⟩,
 ⟨.other, 0, 0, []⟩,
 ⟨.other, 0, 0, []⟩,
 ⟨.cell .func, 1, 8, [.nilFunc]⟩,
 ⟨.slice 5, 1, 24, [.slice none 0 0]⟩,
 ⟨.other, 0, 0, []⟩,
 ⟨.other, 0, 0, []⟩,
 ⟨.other, 0, 0, []⟩,
 ⟨.struct [(0, 3), (1, 3), (2, 3), (3, 4)], 4, 32, [.int .i64 0, .int .i64 0, .int .i64 0, .bool false]⟩,
 ⟨.other, 0, 0, []⟩,
 ⟨.other, 0, 0, []⟩,
 ⟨.tuple [3, 3], 1, 0, []⟩,
 ⟨.other, 0, 0, []⟩,
 ⟨.other, 0, 0, []⟩,
 ⟨.ptr 33, 1, 8, [.pointer none]⟩,
 ⟨.other, 0, 0, []⟩,
 ⟨.other, 0, 0, []⟩,
 ⟨.other, 0, 0, []⟩,
 ⟨.other, 0, 0, []⟩,
 ⟨.other, 0, 0, []⟩,
 ⟨.other, 0, 0, []⟩,
 ⟨.other, 0, 0, []⟩,
 ⟨.other, 0, 0, []⟩,
 ⟨.other, 0, 0, []⟩,
 ⟨.other, 0, 0, []⟩,
 ⟨.other, 0, 0, []⟩,
 ⟨.other, 0, 0, []⟩,
 ⟨.other, 0, 0, []⟩,
 ⟨.ptr 126, 1, 8, [.pointer none]⟩,
 ⟨.other, 0, 0, []⟩,
 ⟨.struct [(0, 33), (9, 100)], 10, 112, [.int .i64 0, .int .i64 0, .slice none 0 0, .int .i64 0, .int .i64 0, .int .i64 0, .bool false, .int .i64 0, .int .i64 0, .slice none 0 0]⟩,
 ⟨.other, 0, 0, []⟩,
 ⟨.other, 0, 0, []⟩,
 ⟨.cell .func, 1, 8, [.nilFunc]⟩,
 ⟨.cell .func, 1, 8, [.nilFunc]⟩,
 ⟨.other, 0, 0, []⟩,
 ⟨.array 6 4, 6, 6, [.bool false, .bool false, .bool false, .bool false, .bool false, .bool false]⟩,
 ⟨.other, 0, 0, []⟩,
 ⟨.other, 0, 0, []⟩,
 ⟨.other, 0, 0, []⟩,
 ⟨.other, 0, 0, []⟩,
 ⟨.other, 0, 0, []⟩,
 ⟨.other, 0, 0, []⟩,
 ⟨.other, 0, 0, []⟩,
 ⟨.other, 0, 0, []⟩,
 ⟨.other, 0, 0, []⟩,
 ⟨.other, 0, 0, []⟩,
 ⟨.other, 0, 0, []⟩,
 ⟨.other, 0, 0, []⟩,
 ⟨.slice 31, 1, 24, [.slice none 0 0]⟩]
def fns : List Nat := [2, 3, 4, 5, 6, 7, 8, 9, 10, 11, 12, 13, 14, 15, 16, 17, 18, 19, 20, 21, 22, 23, 24, 25, 26, 27, 28, 29, 30, 31, 32, 33, 34, 35, 36, 37, 38, 39, 40, 41, 42, 43, 44, 45, 46, 47, 48, 49, 50, 51, 52, 53, 54, 55, 56, 57, 58, 59, 60, 61, 62, 63, 64, 65, 66, 67, 68, 69, 70, 71, 72, 73, 74, 75, 76, 77, 78, 79, 80, 81, 82, 83, 84, 85, 86, 87, 88, 89, 90, 91, 93, 95, 96, 97, 98, 99, 100, 101, 102, 103, 104, 105, 106, 107, 108, 109, 110, 111, 112, 113, 114, 115, 116, 117, 118, 119, 120, 121, 122, 123, 124, 125, 126, 148]
set_option maxRecDepth 100000 in
theorem Cn : TabOk Tryz.prog 0 tab := ⟨
 ⟨⟨_, Tryz.type0, rfl, rfl⟩, trivial, trivial, ⟨_, Tryz.underlying0, ⟨_, rfl⟩⟩⟩,
 ⟨⟨_, Tryz.type1, rfl, rfl⟩, ⟨_, _, Tryz.type1, rfl, rfl⟩, rfl, ⟨_, Tryz.underlying1, ⟨_, _, _, rfl⟩⟩⟩,
 trivial,
 ⟨⟨_, Tryz.type3, rfl, rfl⟩, ⟨_, _, Tryz.type3, rfl, rfl⟩, rfl, ⟨_, Tryz.underlying3, rfl⟩⟩,
 ⟨⟨_, Tryz.type4, rfl, rfl⟩, ⟨_, _, Tryz.type4, rfl, rfl⟩, rfl, ⟨_, Tryz.underlying4, rfl⟩⟩,
 ⟨⟨_, Tryz.type5, rfl, rfl⟩, ⟨_, _, Tryz.type5, rfl, rfl⟩, rfl, ⟨_, Tryz.underlying5, rfl⟩⟩,
 trivial,
 trivial,
 trivial,
 ⟨⟨_, Tryz.type9, rfl, rfl⟩, ⟨_, _, Tryz.type9, rfl, rfl⟩, rfl, ⟨_, Tryz.underlying9, rfl⟩⟩,
 trivial,
 trivial,
 trivial,
 trivial,
 trivial,
 trivial,
 trivial,
 trivial,
 trivial,
 trivial,
 trivial,
 trivial,
 ⟨⟨_, Tryz.type22, rfl, rfl⟩, ⟨_, _, Tryz.type22, rfl, rfl⟩, rfl, ⟨_, Tryz.underlying22, rfl⟩⟩,
 ⟨⟨_, Tryz.type23, rfl, rfl⟩, ⟨_, _, Tryz.type23, rfl, rfl⟩, rfl, ⟨_, Tryz.underlying23, rfl⟩⟩,
 trivial,
 ⟨⟨_, Tryz.type25, rfl, rfl⟩, ⟨_, _, Tryz.type25, rfl, rfl⟩, rfl, ⟨_, Tryz.underlying25, rfl⟩⟩,
 trivial,
 trivial,
 ⟨⟨_, Tryz.type28, rfl, rfl⟩, ⟨_, _, Tryz.type28, rfl, rfl⟩, rfl, ⟨_, Tryz.underlying28, rfl⟩⟩,
 trivial,
 ⟨⟨_, Tryz.type30, rfl, rfl⟩, ⟨_, _, Tryz.type30, rfl, rfl⟩, rfl, ⟨_, Tryz.underlying30, ⟨_, rfl, rfl, by decide⟩⟩⟩,
 ⟨⟨_, Tryz.type31, rfl, rfl⟩, ⟨_, _, Tryz.type31, rfl, rfl⟩, rfl, ⟨_, Tryz.underlying31, rfl⟩⟩,
 trivial,
 ⟨⟨_, Tryz.type33, rfl, rfl⟩, ⟨_, _, Tryz.type33, rfl, rfl⟩, rfl, ⟨_, Tryz.underlying33, ⟨_, rfl, rfl, by decide⟩⟩⟩,
 ⟨⟨_, Tryz.type34, rfl, rfl⟩, ⟨_, _, Tryz.type34, rfl, rfl⟩, rfl, ⟨_, Tryz.underlying34, rfl⟩⟩,
 trivial,
 ⟨⟨_, Tryz.type36, rfl, rfl⟩, ⟨_, _, Tryz.type36, rfl, rfl⟩, rfl, ⟨_, Tryz.underlying36, ⟨_, rfl, rfl, by decide⟩⟩⟩,
 trivial,
 ⟨⟨_, Tryz.type38, rfl, rfl⟩, ⟨_, _, Tryz.type38, rfl, rfl⟩, rfl, ⟨_, Tryz.underlying38, rfl⟩⟩,
 trivial,
 ⟨⟨_, Tryz.type40, rfl, rfl⟩, ⟨_, _, Tryz.type40, rfl, rfl⟩, rfl, ⟨_, Tryz.underlying40, ⟨_, rfl, rfl, by decide⟩⟩⟩,
 ⟨⟨_, Tryz.type41, rfl, rfl⟩, ⟨_, _, Tryz.type41, rfl, rfl⟩, rfl, ⟨_, Tryz.underlying41, rfl⟩⟩,
 ⟨⟨_, Tryz.type42, rfl, rfl⟩, ⟨_, _, Tryz.type42, rfl, rfl⟩, rfl, ⟨_, Tryz.underlying42, rfl⟩⟩,
 trivial,
 ⟨⟨_, Tryz.type44, rfl, rfl⟩, ⟨_, _, Tryz.type44, rfl, rfl⟩, rfl, ⟨_, Tryz.underlying44, ⟨_, rfl, rfl, by decide⟩⟩⟩,
 ⟨⟨_, Tryz.type45, rfl, rfl⟩, ⟨_, _, Tryz.type45, rfl, rfl⟩, rfl, ⟨_, Tryz.underlying45, rfl⟩⟩,
 ⟨⟨_, Tryz.type46, rfl, rfl⟩, trivial, trivial, ⟨_, Tryz.underlying46, ⟨_, rfl⟩⟩⟩,
 trivial,
 ⟨⟨_, Tryz.type48, rfl, rfl⟩, ⟨_, _, Tryz.type48, rfl, rfl⟩, rfl, ⟨_, Tryz.underlying48, rfl⟩⟩,
 trivial,
 ⟨⟨_, Tryz.type50, rfl, rfl⟩, ⟨_, _, Tryz.type50, rfl, rfl⟩, rfl, ⟨_, Tryz.underlying50, ⟨_, rfl, rfl, by decide⟩⟩⟩,
 trivial,
 trivial,
 ⟨⟨_, Tryz.type53, rfl, rfl⟩, ⟨_, _, Tryz.type53, rfl, rfl⟩, rfl, ⟨_, Tryz.underlying53, ⟨_, rfl, rfl, by decide⟩⟩⟩,
 trivial,
 trivial,
 ⟨⟨_, Tryz.type56, rfl, rfl⟩, ⟨_, _, Tryz.type56, rfl, rfl⟩, rfl, ⟨_, Tryz.underlying56, ⟨_, rfl, rfl, by decide⟩⟩⟩,
 ⟨⟨_, Tryz.type57, rfl, rfl⟩, ⟨_, _, Tryz.type57, rfl, rfl⟩, rfl, ⟨_, Tryz.underlying57, rfl⟩⟩,
 trivial,
 ⟨⟨_, Tryz.type59, rfl, rfl⟩, ⟨_, _, Tryz.type59, rfl, rfl⟩, rfl, ⟨_, Tryz.underlying59, ⟨_, rfl, rfl, by decide⟩⟩⟩,
 trivial,
 trivial,
 ⟨⟨_, Tryz.type62, rfl, rfl⟩, ⟨_, _, Tryz.type62, rfl, rfl⟩, rfl, ⟨_, Tryz.underlying62, ⟨_, _, _, rfl⟩⟩⟩,
 trivial,
 trivial,
 ⟨⟨_, Tryz.type65, rfl, rfl⟩, ⟨_, _, Tryz.type65, rfl, rfl⟩, rfl, ⟨_, Tryz.underlying65, rfl⟩⟩,
 ⟨⟨_, Tryz.type66, rfl, rfl⟩, trivial, trivial, ⟨_, Tryz.underlying66, ⟨_, rfl⟩⟩⟩,
 trivial,
 ⟨⟨_, Tryz.type68, rfl, rfl⟩, trivial, trivial, ⟨_, Tryz.underlying68, ⟨_, rfl⟩⟩⟩,
 trivial,
 trivial,
 ⟨⟨_, Tryz.type71, rfl, rfl⟩, ⟨_, _, Tryz.type71, rfl, rfl⟩, rfl, ⟨_, Tryz.underlying71, rfl⟩⟩,
 ⟨⟨_, Tryz.type72, rfl, rfl⟩, trivial, trivial, ⟨_, Tryz.underlying72, ⟨_, rfl⟩⟩⟩,
 trivial,
 trivial,
 trivial,
 trivial,
 ⟨⟨_, Tryz.type77, rfl, rfl⟩, ⟨_, _, Tryz.type77, rfl, rfl⟩, rfl, ⟨_, Tryz.underlying77, ⟨_, rfl, rfl, by decide⟩⟩⟩,
 trivial,
 trivial,
 trivial,
 ⟨⟨_, Tryz.type81, rfl, rfl⟩, ⟨_, _, Tryz.type81, rfl, rfl⟩, rfl, ⟨_, Tryz.underlying81, ⟨_, rfl, rfl, by decide⟩⟩⟩,
 trivial,
 trivial,
 trivial,
 trivial,
 ⟨⟨_, Tryz.type86, rfl, rfl⟩, trivial, trivial, ⟨_, Tryz.underlying86, ⟨_, rfl⟩⟩⟩,
 trivial,
 trivial,
 trivial,
 ⟨⟨_, Tryz.type90, rfl, rfl⟩, trivial, trivial, ⟨_, Tryz.underlying90, ⟨_, rfl⟩⟩⟩,
 trivial,
 trivial,
 ⟨⟨_, Tryz.type93, rfl, rfl⟩, ⟨_, _, Tryz.type93, rfl, rfl⟩, rfl, ⟨_, Tryz.underlying93, ⟨_, _, _, rfl⟩⟩⟩,
 ⟨⟨_, Tryz.type94, rfl, rfl⟩, trivial, trivial, ⟨_, Tryz.underlying94, ⟨_, rfl⟩⟩⟩,
 trivial,
 trivial,
 trivial,
 trivial,
 ⟨⟨_, Tryz.type99, rfl, rfl⟩, ⟨_, _, Tryz.type99, rfl, rfl⟩, rfl, ⟨_, Tryz.underlying99, ⟨_, _, _, rfl⟩⟩⟩,
 ⟨⟨_, Tryz.type100, rfl, rfl⟩, ⟨_, _, Tryz.type100, rfl, rfl⟩, rfl, ⟨_, Tryz.underlying100, rfl⟩⟩,
 trivial,
 trivial,
 trivial,
 ⟨⟨_, Tryz.type104, rfl, rfl⟩, ⟨_, _, Tryz.type104, rfl, rfl⟩, rfl, ⟨_, Tryz.underlying104, ⟨_, rfl, rfl, by decide⟩⟩⟩,
 trivial,
 trivial,
 ⟨⟨_, Tryz.type107, rfl, rfl⟩, trivial, trivial, ⟨_, Tryz.underlying107, ⟨_, rfl⟩⟩⟩,
 trivial,
 trivial,
 ⟨⟨_, Tryz.type110, rfl, rfl⟩, ⟨_, _, Tryz.type110, rfl, rfl⟩, rfl, ⟨_, Tryz.underlying110, rfl⟩⟩,
 trivial,
 trivial,
 trivial,
 trivial,
 trivial,
 trivial,
 trivial,
 trivial,
 trivial,
 trivial,
 trivial,
 trivial,
 trivial,
 ⟨⟨_, Tryz.type124, rfl, rfl⟩, ⟨_, _, Tryz.type124, rfl, rfl⟩, rfl, ⟨_, Tryz.underlying124, rfl⟩⟩,
 trivial,
 ⟨⟨_, Tryz.type126, rfl, rfl⟩, ⟨_, _, Tryz.type126, rfl, rfl⟩, rfl, ⟨_, Tryz.underlying126, ⟨_, rfl, rfl, by decide⟩⟩⟩,
 trivial,
 trivial,
 ⟨⟨_, Tryz.type129, rfl, rfl⟩, ⟨_, _, Tryz.type129, rfl, rfl⟩, rfl, ⟨_, Tryz.underlying129, ⟨_, _, _, rfl⟩⟩⟩,
 ⟨⟨_, Tryz.type130, rfl, rfl⟩, ⟨_, _, Tryz.type130, rfl, rfl⟩, rfl, ⟨_, Tryz.underlying130, ⟨_, _, _, rfl⟩⟩⟩,
 trivial,
 ⟨⟨_, Tryz.type132, rfl, rfl⟩, ⟨_, _, Tryz.type132, rfl, rfl⟩, rfl, ⟨_, Tryz.underlying132, rfl⟩⟩,
 trivial,
 trivial,
 trivial,
 trivial,
 trivial,
 trivial,
 trivial,
 trivial,
 trivial,
 trivial,
 trivial,
 trivial,
 ⟨⟨_, Tryz.type145, rfl, rfl⟩, ⟨_, _, Tryz.type145, rfl, rfl⟩, rfl, ⟨_, Tryz.underlying145, rfl⟩⟩,
 trivial⟩
set_option maxRecDepth 100000 in
theorem Il : EE Tryz.prog fns := ⟨
 ⟨_, Tryz.func2, by kernel_rfl, rfl⟩,
 ⟨_, Tryz.func3, by kernel_rfl, rfl⟩,
 ⟨_, Tryz.func4, by kernel_rfl, rfl⟩,
 ⟨_, Tryz.func5, by kernel_rfl, rfl⟩,
 ⟨_, Tryz.func6, by kernel_rfl, rfl⟩,
 ⟨_, Tryz.func7, by kernel_rfl, rfl⟩,
 ⟨_, Tryz.func8, by kernel_rfl, rfl⟩,
 ⟨_, Tryz.func9, by kernel_rfl, rfl⟩,
 ⟨_, Tryz.func10, by kernel_rfl, rfl⟩,
 ⟨_, Tryz.func11, by kernel_rfl, rfl⟩,
 ⟨_, Tryz.func12, by kernel_rfl, rfl⟩,
 ⟨_, Tryz.func13, by kernel_rfl, rfl⟩,
 ⟨_, Tryz.func14, by kernel_rfl, rfl⟩,
 ⟨_, Tryz.func15, by kernel_rfl, rfl⟩,
 ⟨_, Tryz.func16, by kernel_rfl, rfl⟩,
 ⟨_, Tryz.func17, by kernel_rfl, rfl⟩,
 ⟨_, Tryz.func18, by kernel_rfl, rfl⟩,
 ⟨_, Tryz.func19, by kernel_rfl, rfl⟩,
 ⟨_, Tryz.func20, by kernel_rfl, rfl⟩,
 ⟨_, Tryz.func21, by kernel_rfl, rfl⟩,
 ⟨_, Tryz.func22, by kernel_rfl, rfl⟩,
 ⟨_, Tryz.func23, by kernel_rfl, rfl⟩,
 ⟨_, Tryz.func24, by kernel_rfl, rfl⟩,
 ⟨_, Tryz.func25, by kernel_rfl, rfl⟩,
 ⟨_, Tryz.func26, by kernel_rfl, rfl⟩,
 ⟨_, Tryz.func27, by kernel_rfl, rfl⟩,
 ⟨_, Tryz.func28, by kernel_rfl, rfl⟩,
 ⟨_, Tryz.func29, by kernel_rfl, rfl⟩,
 ⟨_, Tryz.func30, by kernel_rfl, rfl⟩,
 ⟨_, Tryz.func31, by kernel_rfl, rfl⟩,
 ⟨_, Tryz.func32, by kernel_rfl, rfl⟩,
 ⟨_, Tryz.func33, by kernel_rfl, rfl⟩,
 ⟨_, Tryz.func34, by kernel_rfl, rfl⟩,
 ⟨_, Tryz.func35, by kernel_rfl, rfl⟩,
 ⟨_, Tryz.func36, by kernel_rfl, rfl⟩,
 ⟨_, Tryz.func37, by kernel_rfl, rfl⟩,
 ⟨_, Tryz.func38, by kernel_rfl, rfl⟩,
 ⟨_, Tryz.func39, by kernel_rfl, rfl⟩,
 ⟨_, Tryz.func40, by kernel_rfl, rfl⟩,
 ⟨_, Tryz.func41, by kernel_rfl, rfl⟩,
 ⟨_, Tryz.func42, by kernel_rfl, rfl⟩,
 ⟨_, Tryz.func43, by kernel_rfl, rfl⟩,
 ⟨_, Tryz.func44, by kernel_rfl, rfl⟩,
 ⟨_, Tryz.func45, by kernel_rfl, rfl⟩,
 ⟨_, Tryz.func46, by kernel_rfl, rfl⟩,
 ⟨_, Tryz.func47, by kernel_rfl, rfl⟩,
 ⟨_, Tryz.func48, by kernel_rfl, rfl⟩,
 ⟨_, Tryz.func49, by kernel_rfl, rfl⟩,
 ⟨_, Tryz.func50, by kernel_rfl, rfl⟩,
 ⟨_, Tryz.func51, by kernel_rfl, rfl⟩,
 ⟨_, Tryz.func52, by kernel_rfl, rfl⟩,
 ⟨_, Tryz.func53, by kernel_rfl, rfl⟩,
 ⟨_, Tryz.func54, by kernel_rfl, rfl⟩,
 ⟨_, Tryz.func55, by kernel_rfl, rfl⟩,
 ⟨_, Tryz.func56, by kernel_rfl, rfl⟩,
 ⟨_, Tryz.func57, by kernel_rfl, rfl⟩,
 ⟨_, Tryz.func58, by kernel_rfl, rfl⟩,
 ⟨_, Tryz.func59, by kernel_rfl, rfl⟩,
 ⟨_, Tryz.func60, by kernel_rfl, rfl⟩,
 ⟨_, Tryz.func61, by kernel_rfl, rfl⟩,
 ⟨_, Tryz.func62, by kernel_rfl, rfl⟩,
 ⟨_, Tryz.func63, by kernel_rfl, rfl⟩,
 ⟨_, Tryz.func64, by kernel_rfl, rfl⟩,
 ⟨_, Tryz.func65, by kernel_rfl, rfl⟩,
 ⟨_, Tryz.func66, by kernel_rfl, rfl⟩,
 ⟨_, Tryz.func67, by kernel_rfl, rfl⟩,
 ⟨_, Tryz.func68, by kernel_rfl, rfl⟩,
 ⟨_, Tryz.func69, by kernel_rfl, rfl⟩,
 ⟨_, Tryz.func70, by kernel_rfl, rfl⟩,
 ⟨_, Tryz.func71, by kernel_rfl, rfl⟩,
 ⟨_, Tryz.func72, by kernel_rfl, rfl⟩,
 ⟨_, Tryz.func73, by kernel_rfl, rfl⟩,
 ⟨_, Tryz.func74, by kernel_rfl, rfl⟩,
 ⟨_, Tryz.func75, by kernel_rfl, rfl⟩,
 ⟨_, Tryz.func76, by kernel_rfl, rfl⟩,
 ⟨_, Tryz.func77, by kernel_rfl, rfl⟩,
 ⟨_, Tryz.func78, by kernel_rfl, rfl⟩,
 ⟨_, Tryz.func79, by kernel_rfl, rfl⟩,
 ⟨_, Tryz.func80, by kernel_rfl, rfl⟩,
 ⟨_, Tryz.func81, by kernel_rfl, rfl⟩,
 ⟨_, Tryz.func82, by kernel_rfl, rfl⟩,
 ⟨_, Tryz.func83, by kernel_rfl, rfl⟩,
 ⟨_, Tryz.func84, by kernel_rfl, rfl⟩,
 ⟨_, Tryz.func85, by kernel_rfl, rfl⟩,
 ⟨_, Tryz.func86, by kernel_rfl, rfl⟩,
 ⟨_, Tryz.func87, by kernel_rfl, rfl⟩,
 ⟨_, Tryz.func88, by kernel_rfl, rfl⟩,
 ⟨_, Tryz.func89, by kernel_rfl, rfl⟩,
 ⟨_, Tryz.func90, by kernel_rfl, rfl⟩,
 ⟨_, Tryz.func91, by kernel_rfl, rfl⟩,
 ⟨_, Tryz.func93, by kernel_rfl, rfl⟩,
 ⟨_, Tryz.func95, by kernel_rfl, rfl⟩,
 ⟨_, Tryz.func96, by kernel_rfl, rfl⟩,
 ⟨_, Tryz.func97, by kernel_rfl, rfl⟩,
 ⟨_, Tryz.func98, by kernel_rfl, rfl⟩,
 ⟨_, Tryz.func99, by kernel_rfl, rfl⟩,
 ⟨_, Tryz.func100, by kernel_rfl, rfl⟩,
 ⟨_, Tryz.func101, by kernel_rfl, rfl⟩,
 ⟨_, Tryz.func102, by kernel_rfl, rfl⟩,
 ⟨_, Tryz.func103, by kernel_rfl, rfl⟩,
 ⟨_, Tryz.func104, by kernel_rfl, rfl⟩,
 ⟨_, Tryz.func105, by kernel_rfl, rfl⟩,
 ⟨_, Tryz.func106, by kernel_rfl, rfl⟩,
 ⟨_, Tryz.func107, by kernel_rfl, rfl⟩,
 ⟨_, Tryz.func108, by kernel_rfl, rfl⟩,
 ⟨_, Tryz.func109, by kernel_rfl, rfl⟩,
 ⟨_, Tryz.func110, by kernel_rfl, rfl⟩,
 ⟨_, Tryz.func111, by kernel_rfl, rfl⟩,
 ⟨_, Tryz.func112, by kernel_rfl, rfl⟩,
 ⟨_, Tryz.func113, by kernel_rfl, rfl⟩,
 ⟨_, Tryz.func114, by kernel_rfl, rfl⟩,
 ⟨_, Tryz.func115, by kernel_rfl, rfl⟩,
 ⟨_, Tryz.func116, by kernel_rfl, rfl⟩,
 ⟨_, Tryz.func117, by kernel_rfl, rfl⟩,
 ⟨_, Tryz.func118, by kernel_rfl, rfl⟩,
 ⟨_, Tryz.func119, by kernel_rfl, rfl⟩,
 ⟨_, Tryz.func120, by kernel_rfl, rfl⟩,
 ⟨_, Tryz.func121, by kernel_rfl, rfl⟩,
 ⟨_, Tryz.func122, by kernel_rfl, rfl⟩,
 ⟨_, Tryz.func123, by kernel_rfl, rfl⟩,
 ⟨_, Tryz.func124, by kernel_rfl, rfl⟩,
 ⟨_, Tryz.func125, by kernel_rfl, rfl⟩,
 ⟨_, Tryz.func126, by kernel_rfl, rfl⟩,
 ⟨_, Tryz.func148, by kernel_rfl, rfl⟩, trivial⟩
abbrev si : FuncId := 49
abbrev td : FuncId := 47
abbrev mv : FuncId := 83
abbrev og : FuncId := 104
abbrev mN : FuncId := 84
abbrev gU : FuncId := 103
abbrev dN : FuncId := 3
abbrev kK : FuncId := 29
abbrev iA : FuncId := 66
abbrev fJ : FuncId := 57
abbrev eo : FuncId := 53
abbrev fq : FuncId := 28
abbrev cC : FuncId := 54
abbrev dJ : FuncId := 55
abbrev gm : FuncId := 56
abbrev dW : FuncId := 86
abbrev eF : FuncId := 52
abbrev fe : FuncId := 50
abbrev gv : FuncId := 24
abbrev ic : FuncId := 85
abbrev gj : FuncId := 26
abbrev dp : FuncId := 35
abbrev eR : FuncId := 5
abbrev gR : FuncId := 34
abbrev dq : FuncId := 36
abbrev eS : FuncId := 37
abbrev fO : FuncId := 13
abbrev dS : FuncId := 38
abbrev eU : FuncId := 14
abbrev cX : FuncId := 6
abbrev cT : FuncId := 10
abbrev cE : FuncId := 23
abbrev cO : FuncId := 12
abbrev gT : FuncId := 65
abbrev et : FuncId := 25
abbrev kH : FuncId := 27
abbrev lr : FuncId := 59
abbrev jz : FuncId := 60
abbrev jD : FuncId := 88
abbrev iw : FuncId := 51
abbrev g0 : FuncId := 58
abbrev jO : FuncId := 87
abbrev im : FuncId := 107
abbrev ix : FuncId := 106
abbrev jy : FuncId := 30
abbrev u9 : FuncId := 20
abbrev xm : FuncId := 82
abbrev xA : FuncId := 45
abbrev tB : FuncId := 63
abbrev mR : FuncId := 91
abbrev fx : FuncId := 90
abbrev uW : FuncId := 32
abbrev pL : FuncId := 33
abbrev ow : FuncId := 78
abbrev oB : FuncId := 77
abbrev tO : FuncId := 99
abbrev qI : FuncId := 98
abbrev sf : FuncId := 96
abbrev vn : FuncId := 101
abbrev py : FuncId := 97
abbrev nW : FuncId := 79
abbrev lL : FuncId := 64
abbrev tP : FuncId := 76
abbrev wO : FuncId := 100
abbrev ks : FuncId := 111
abbrev jv : FuncId := 115
abbrev l3 : FuncId := 112
abbrev eE : FuncId := 116
abbrev qX : FuncId := 81
abbrev nU : FuncId := 46
abbrev oD : FuncId := 80
abbrev l9 : FuncId := 102
abbrev l7 : FuncId := 19
abbrev qF : FuncId := 42
abbrev mA : FuncId := 74
abbrev qH : FuncId := 44
abbrev qP : FuncId := 4
abbrev fZ : FuncId := 8
abbrev eK : FuncId := 9
abbrev dv : FuncId := 15
abbrev dD : FuncId := 7
abbrev dR : FuncId := 11
abbrev iz : FuncId := 17
abbrev ir : FuncId := 21
abbrev eY : FuncId := 48
abbrev gI : FuncId := 16
abbrev du : FuncId := 22
abbrev cM : FuncId := 75
abbrev fL : FuncId := 43
abbrev bW : FuncId := 89
abbrev eH : FuncId := 72
abbrev eM : FuncId := 71
abbrev cu : FuncId := 108
abbrev fU : FuncId := 73
abbrev ew : FuncId := 69
abbrev eX : FuncId := 70
abbrev fS : FuncId := 92
abbrev gE : FuncId := 94
abbrev nZ : FuncId := 105
abbrev qW : FuncId := 61
abbrev sE : FuncId := 18
abbrev qV : FuncId := 40
abbrev pe : FuncId := 62
abbrev oX : FuncId := 39
abbrev pk : FuncId := 31
abbrev qG : FuncId := 41
abbrev sI : FuncId := 68
abbrev qN : FuncId := 67
abbrev aF : TypeId := 3
abbrev wJ : TypeId := 4
abbrev sx : TypeId := 5
abbrev lZ : TypeId := 22
abbrev ny : TypeId := 28
abbrev da : TypeId := 31
abbrev bU : TypeId := 33
abbrev aL : TypeId := 38
abbrev cU : TypeId := 40
abbrev xN : TypeId := 53
abbrev gX : TypeId := 77
abbrev dj : TypeId := 104
abbrev vB : TypeId := 126
def eqs : List Nat := [50, 53, 81, 104]
theorem Iq : Es Tryz.prog eqs := ⟨⟨Tryz.stoodInHeld50, Tryz.eqGuardType50⟩, ⟨Tryz.stoodInHeld53, Tryz.eqGuardType53⟩, ⟨Tryz.stoodInHeld81, Tryz.eqGuardType81⟩, ⟨Tryz.stoodInHeld104, Tryz.eqGuardType104⟩, trivial⟩
theorem ax (real pf FX : List Nat) (loops GM : List (Nat × fC)) : bS ⟨Tryz.prog, tab, real, pf, FX, fns, loops, GM⟩ := FZ Cn (by kernel_rfl) Il Iq (by kernel_rfl)
end Go.Proofs.YtkmmphkjmamckacGreatDoor
