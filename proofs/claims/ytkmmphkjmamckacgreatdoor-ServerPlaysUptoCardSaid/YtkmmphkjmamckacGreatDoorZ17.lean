/- Texts joined: GSameR, GSameG, GRef2, GRef3, GRef4. -/
import Derived.Test.YtkmmphkjmamckacGreatDoorZ16
import Derived.Test.YtkmmphkjmamckacGreatDoorZ07
namespace Go.Proofs.YtkmmphkjmamckacGreatDoor
open Go
set_option linter.all false
theorem H8 (a b : Cl) : (decide (a.ch = b.ch) && (decide (a.ink = b.ink) && (decide (a.pic = b.pic) && (a.bold == b.bold)))) = decide (a = b) := by
 rw [Bool.eq_iff_iff, decide_eq_true_eq, Cl.pq]
 simp only [Bool.and_eq_true, decide_eq_true_eq, beq_iff_eq]
def qm (a b : Gr) : Bool := decide (a.wide = b.wide /\ a.high = b.high /\ a.cells = b.cells)
theorem xK {u : World} {a b : Gr} {p q : Option Addr} (ha : Cells u p a.cells) (hb : Cells u q b.cells) (c d : Nat) (hl : a.cells.length <= 100000000) :
  Spec Tryz.prog eS #[GrV a p a.cells.length c, GrV b q b.cells.length d] u (Told u (qm a b)) := by
 apply ji
 delta fj nG cnd iI lq
 simp only [decide_eq_true_eq, decide_eq_false_iff_not, Bool.not_eq_true', Bool.not_eq_false', true_and]
 have hu : Ext u (ab (ab u hole) hole) := ((Upd.refl u).alloc _).alloc _
 have no : ∀ {v : World}, Ext u v -> ¬ (a.wide = b.wide /\ a.high = b.high /\ a.cells = b.cells) -> Told u (qm a b) (.returned (.bool false)) v := fun hv hn => ⟨by unfold qm; rw [decide_eq_false hn], hv⟩
 refine ⟨fun h => no hu fun hh => h hh.1, fun h1 => ⟨fun h => no hu fun hh => h hh.2.1, fun h2 => ⟨fun h => no hu fun hh => h (by rw [hh.2.2]), fun h3 => ?_⟩⟩⟩
 refine ⟨fun x u1 => Ext u u1 /\ 0 <= x /\ x <= a.cells.length /\ ∀ i : Nat, i < x.toNat -> cg a.cells i = cg b.cells i, fun x _ => (a.cells.length - x).toNat, ⟨hu, by omega, by omega, by omega⟩, fun x u1 ⟨hv, h0, hx1, hi⟩ => ⟨fun hx => ?_, fun hx => ?_⟩⟩
 ·have hv2 : Ext u (af u1) := hv.drew
  obtain ⟨b1, o1, hp1, hr1⟩ := (ha.ext hv2).at (i := x.toNat) (by omega)
  obtain ⟨b2, o2, hp2, hr2⟩ := (hb.ext hv2).at (i := x.toNat) (by omega)
  refine ⟨b1, o1, hp1, h0, hx, _, _, _, _, rfl, hr1, b2, o2, hp2, h0, by omega, _, _, _, _, rfl, hr2, ?_⟩
  rw [H8]
  simp only [decide_eq_true_eq, decide_eq_false_iff_not]
  refine ⟨fun hne => no hv2 fun hh => hne (by rw [hh.2.2]), fun heq => ⟨by simp only [inK]; omega, ⟨hv2, by omega, by omega, fun i hi' => ?_⟩, by first | omega | (dsimp only; omega)⟩⟩
  rcases (by omega : i < x.toNat \/ i = x.toNat) with h | rfl
  ·exact hi i h
  ·exact heq
 ·refine ⟨?_, hv⟩
  unfold qm
  rw [decide_eq_true]
  exact ⟨h1, h2, gP (by omega) fun i hi' => hi i (by omega)⟩
def uE (a b : Gr) : Bool := decide (a.wide = b.wide /\ a.high = b.high /\ a.cells = b.cells /\ a.row = b.row /\ a.col = b.col /\ a.ink = b.ink /\ a.bold = b.bold /\ a.top = b.top /\ a.aA = b.aA)
theorem DG {a b : Gr} : uE a b = true ↔ a = b := by
 unfold uE
 rw [decide_eq_true_eq]
 cases a; cases b
 simp only [Gr.mk.injEq]
theorem CP {u : World} {a b : Gr} {p q : Option Addr} (ha : Cells u p a.cells) (hb : Cells u q b.cells) (c d : Nat) (hl : a.cells.length <= 100000000) :
  Spec Tryz.prog fO #[GrV a p a.cells.length c, GrV b q b.cells.length d] u (Told u (uE a b)) := by
 apply jG
 delta fI th cnd iI lq
 simp only [decide_eq_true_eq, decide_eq_false_iff_not, beq_iff_eq, beq_eq_false_iff_ne, ne_eq]
 have hu : Ext u (ab (ab u hole) hole) := ((Upd.refl u).alloc _).alloc _
 refine (xK (ha.ext hu) (hb.ext hu) c d hl).mono fun e u1 ⟨he, hu1⟩ => ⟨_, he, ?_⟩
 have x := hu.ext hu1
 have no : ¬ (a.wide = b.wide /\ a.high = b.high /\ a.cells = b.cells /\ a.row = b.row /\ a.col = b.col /\ a.ink = b.ink /\ a.bold = b.bold /\ a.top = b.top /\ a.aA = b.aA) -> Told u (uE a b) (.returned (.bool false)) u1 := fun hn => ⟨by unfold uE; rw [decide_eq_false hn], x⟩
 refine ⟨fun hs => ⟨fun h1 => ⟨fun h2 => ⟨fun h3 => ⟨fun h4 => ⟨fun h5 => ?_, fun hn => no fun h => hn h.2.2.2.2.2.2.2.1⟩, fun hn => no fun h => hn h.2.2.2.2.2.2.1⟩, fun hn => no fun h => hn h.2.2.2.2.2.1⟩, fun hn => no fun h => hn h.2.2.2.2.1⟩, fun hn => no fun h => hn h.2.2.2.1⟩, fun hn => no fun h => ?_⟩
 ·unfold qm at hs
  rw [decide_eq_true_eq] at hs
  refine ⟨?_, x⟩
  congr 2
  unfold uE
  exact decide_eq_decide.2 ⟨fun h => ⟨hs.1, hs.2.1, hs.2.2, h1, h2, h3, h4, h5, h⟩, fun h => h.2.2.2.2.2.2.2.2⟩
 ·unfold qm at hn
  rw [decide_eq_false_iff_not] at hn
  exact hn ⟨h.1, h.2.1, h.2.2.1⟩
def fM (u : World) (ok : Nat -> Prop) : List (List Value) -> List (List Cl) -> Prop
 | [], [] => True
 | x :: xs, l :: ls => (∃ q c, x = [.slice q l.length c] /\ Cells u q l /\ ∀ k, At q k -> ok k) /\ fM u ok xs ls
 | _, _ => False
section
variable {u u' : World} {ok ok' : Nat -> Prop}
theorem fM.len : ∀ {xs : List (List Value)} {ls : List (List Cl)}, fM u ok xs ls -> xs.length = ls.length
 | [], [], _ => rfl
 | _ :: _, _ :: _, h => by simp only [List.length_cons, fM.len h.2]
theorem fM.each : ∀ {xs : List (List Value)} {ls : List (List Cl)}, fM u ok xs ls -> ∀ y ∈ xs, y.length = 1
 | x :: xs, l :: ls, h, y, hy => by
  rcases List.mem_cons.1 hy with rfl | hy
  ·obtain ⟨_, _, rfl, _⟩ := h.1
   rfl
  ·exact fM.each h.2 y hy
 | [], [], _, _, hy => by simp at hy
theorem fM.upd {S : Nat -> Prop} (hu : Upd S u u') (hok : ∀ k, ok k -> ¬ S k /\ ok' k) : ∀ {xs : List (List Value)} {ls : List (List Cl)}, fM u ok xs ls -> fM u' ok' xs ls
 | [], [], _ => trivial
 | x :: xs, l :: ls, h => ⟨by
  obtain ⟨q, c, h1, h2, h3⟩ := h.1
  exact ⟨q, c, h1, h2.upd hu fun k hk => (hok k (h3 k hk)).1, fun k hk => (hok k (h3 k hk)).2⟩, fM.upd hu hok h.2⟩
theorem fM.snoc {q : Option Addr} {c : Nat} {l : List Cl} (hq : Cells u q l) (hk : ∀ k, At q k -> ok k) : ∀ {xs : List (List Value)} {ls : List (List Cl)}, fM u ok xs ls -> fM u ok (xs ++ [[.slice q l.length c]]) (ls ++ [l])
 | [], [], _ => ⟨⟨q, c, rfl, hq, hk⟩, trivial⟩
 | _ :: _, _ :: _, h => ⟨h.1, fM.snoc hq hk h.2⟩
theorem fM.at : ∀ {xs : List (List Value)} {ls : List (List Cl)} {i : Nat}, fM u ok xs ls -> i < ls.length -> ∃ q c, xs.getD i [] = [.slice q (ls.getD i []).length c] /\ Cells u q (ls.getD i []) /\ ∀ k, At q k -> ok k
 | x :: xs, l :: ls, 0, h, _ => by simpa using h.1
 | x :: xs, l :: ls, i + 1, h, hi => by simpa using fM.at (i := i) h.2 (by simpa using hi)
 | [], [], _, _, hi => by simp at hi
end
structure kR (u0 u : World) (p : Option Addr) (n c : Nat) (xs : List (List Value)) (ls : List (List Cl)) : Prop where
 own : Own u 1 p n c xs.flatten
 rows : fM u (fun k => k < u.heap.size /\ ¬ At p k) xs ls
 len : ls.length = n
 new : ∀ k, At p k -> u0.heap.size <= k
theorem kR.ext {u0 u u' : World} {p : Option Addr} {n c : Nat} {xs : List (List Value)} {ls : List (List Cl)} (h : kR u0 u p n c xs ls) (hu : Ext u u') : kR u0 u' p n c xs ls :=
 ⟨h.own.ext hu, h.rows.upd hu fun k hk => ⟨fun h => h, by have := hu.size; exact ⟨by omega, hk.2⟩⟩, h.len, h.new⟩
theorem kR.push {u0 v : World} {p : Option Addr} {n c : Nat} {xs : List (List Value)} {ls : List (List Cl)} (h : kR u0 v p n c xs ls) (h0 : u0.heap.size <= v.heap.size) (hn : n <= 1000) {q : Option Addr} {cq : Nat} {l : List Cl} (hq : Cells v q l) (hk : ∀ k, At q k -> k < v.heap.size /\ ¬ At p k) (t e : TypeId) {K : Option Addr -> Nat -> World -> Prop}
  (hK : ∀ p' c' w, kR u0 w p' (n + 1) c' (xs ++ [[.slice q l.length cq]]) (ls ++ [l]) -> Upd (At p) v w -> K p' c' w) :
  ∃ old new : List Value, old.length = n * 1 /\ Gets (ab v (.cells #[.slice q l.length cq] t)) p old /\ new.length = 1 * 1 /\ Gets (ab v (.cells #[.slice q l.length cq] t)) (some (Addr.mk v.heap.size 0 none)) new /\
   0 < 24 /\ (2 * (n + 1) + 192) * 24 <= 140737488355328 /\ okCells new True /\ (n + 1 <= c -> WrS (ab v (.cells #[.slice q l.length cq] t)) p (n * 1) (1 * 1)) /\
   ∀ p' cap u2, cD (ab v (.cells #[.slice q l.length cq] t)) e 1 [.slice none 0 0] p n c 1 old new p' cap u2 -> K p' cap u2 := by
 have hv : Ext v (ab v (.cells #[.slice q l.length cq] t)) := (Upd.refl v).alloc _
 have hh := h.ext hv
 have ef : Own (ab v (.cells #[.slice q l.length cq] t)) 1 _ 1 1 [.slice q l.length cq] := Own.fresh v (cs := [.slice q l.length cq]) rfl
 refine ⟨xs.flatten, [.slice q l.length cq], hh.own.len, hh.own.aH, rfl, ef.aH, by decide, by omega, by simp [okCells], fun hc => hh.own.wrs (by omega), fun p' cap u2 hr => ?_⟩
 obtain ⟨a1, a2, a3⟩ := hh.own.app hr hh.own.len hh.own.aH rfl rfl
 have hvs := hv.size
 have has := a2.size
 have hvs2 : (ab v (.cells #[.slice q l.length cq] t)).heap.size = v.heap.size + 1 := size_alloc _ _
 have hp' : ∀ k, At p' k -> At p k \/ v.heap.size < k := fun k hk1 => by
  rcases a3 with ⟨rfl, _⟩ | ⟨rfl, _⟩
  ·exact .inl hk1
  ·rw [ar hk1]; right; show v.heap.size < (ab v _).heap.size; omega
 have hok : ∀ k, k < v.heap.size /\ ¬ At p k -> k < u2.heap.size /\ ¬ At p' k := fun k hk => ⟨by omega, fun h => (hp' k h).elim hk.2 (by omega)⟩
 have hup : Upd (At p) v u2 := (hv.any (S := At p)).trans a2 fun _ _ h => h
 refine hK p' cap u2 ⟨?_, ?_, by simp [h.len], fun k hk1 => ?_⟩ hup
 ·rw [List.flatten_append]
  simpa using a1
 ·exact fM.snoc ((hq.upd hup fun k hk1 => (hk k hk1).2)) (fun k hk1 => hok k (hk k hk1)) (h.rows.upd hup fun k hk1 => ⟨hk1.2, hok k hk1⟩)
 ·rcases hp' k hk1 with h1 | h1
  ·exact h.new k h1
  ·omega
def oK (g : Gr) (r : Nat) : List Cl := (g.cells.drop (r * g.wide.toNat)).take g.wide.toNat
theorem xb {g : Gr} (hg : ao g) {r : Nat} (hr : (r : Int) < g.high) : (oK g r).length = g.wide.toNat := by
 have h1 := aB hg (r := r + 1) (by omega) (by omega)
 have e : ((r : Int) + 1).toNat * g.wide.toNat = r * g.wide.toNat + g.wide.toNat := by rw [show ((r : Int) + 1).toNat = r + 1 by omega, Nat.add_mul, Nat.one_mul]
 unfold oK
 rw [List.length_take, List.length_drop]
 omega
theorem F7 {u : World} {b o : Nat} {l : List Cl} (h : Cells u (some ⟨b, o, none⟩) l) {c i k : Nat} (hik : i + k <= l.length) (hc : c ≠ i) : Gets u (if c = i then some (Addr.mk b o none) else Option.map (fun a => Addr.add a (i * 4)) (some ⟨b, o, none⟩)) (aE ((l.drop i).take k)) := by
 rw [if_neg hc, j9]
 exact (h.sub hik).aH
theorem Fh {u : World} {g : Gr} {p : Option Addr} (h : Cells u p g.cells) {c : Nat} (hc : g.cells.length <= c) (hg : ao g) :
  Spec Tryz.prog ix #[GrV g p g.cells.length c] u fun e u' => ∃ q n cap xs, e = .returned (.slice q n cap) /\ kR u u' q n cap xs ((List.range g.high.toNat).map (oK g)) /\ n = g.high.toNat /\ Ext u u' := by
 apply lh
 delta iB r8 cnd iI lq
 simp only [decide_eq_true_eq, decide_eq_false_iff_not, true_and]
 have hu : Ext u (ab u hole) := (Upd.refl u).alloc _
 have hw1 := hg.w1
 have hw2 := hg.w2
 have hh1 := hg.h1
 have hh2 := hg.h2
 refine ⟨fun q n cap x u1 => ∃ xs, kR u u1 q n cap xs ((List.range x.toNat).map (oK g)) /\ n = x.toNat /\ Ext u u1 /\ 0 <= x /\ x <= g.high, fun _ _ _ x _ => (g.high - x).toNat,
  ⟨[], ⟨Own.nil _ _, trivial, rfl, fun k hk => (aJ hk).elim⟩, rfl, hu, Int.le_refl _, by omega⟩, ?_⟩
 rintro q n cap x u1 ⟨xs, hR, rfl, hu1, h0, h1⟩
 refine ⟨fun hx => ?_, fun hx => ⟨q, x.toNat, cap, xs, rfl, by rw [show g.high.toNat = x.toNat by omega]; exact hR, by omega, hu1⟩⟩
 have r0 := aB hg h0 h1
 have r1 := aB hg (r := x + 1) (by omega) (by omega)
 have e1 := bQ x g.wide
 have hfew := aK hg
 have hm : ((x + 1) * g.wide).toNat - (x * g.wide).toNat = g.wide.toNat := by omega
 have hrow : oK g x.toNat = (g.cells.drop (x * g.wide).toNat).take g.wide.toNat := by unfold oK; rw [<- r0.2.2.2]
 have hrl := xb hg (r := x.toNat) (by omega)
 obtain ⟨b, o, hp, _⟩ := h.at (i := 0) (by omega)
 subst hp
 refine ⟨by simp only [inK]; omega, by simp only [inK]; omega, by simp only [inK]; omega, r0.1, by omega, by omega, ?_⟩
 rw [hm]
 refine ⟨[], aE (oK g x.toNat), rfl, rfl, by rw [bq, hrl], ?_, by decide, by omega, (fQ _ _).2 trivial, fun _ => trivial, fun p1 cap1 u2 hr => ?_⟩
 ·rw [hrow]
  exact F7 (h.ext hu1) (by omega) (by omega)
 ·obtain ⟨o1, x1, o3⟩ := cD.none hr rfl (by rw [bq, hrl]) rfl
  rw [Nat.zero_add] at o1 ⊢
  have hp1 : p1 = some ⟨u1.heap.size, 0, none⟩ := o3.resolve_left fun hh => by omega
  subst hp1
  have hlt : u1.heap.size < u2.heap.size := (o1.at ⟨_, rfl, rfl⟩).1
  have hql : ∀ k, At q k -> k < u1.heap.size := fun k hk => (hR.own.at hk).1
  have hu2 := hu1.ext x1
  have hrc : Cells u2 (some ⟨u1.heap.size, 0, none⟩) (oK g x.toNat) := ⟨o1.aH⟩
  have hpush := (hR.ext x1).push (cq := cap1) hu2.size (by omega) hrc (fun k hk => by rw [ar hk]; exact ⟨hlt, fun hq => by have := hql _ hq; simp only at this; omega⟩) da da
   (K := fun p2 cap2 u3 => inK .i64 (x + 1) /\ (∃ xs, kR u u3 p2 (x.toNat + 1) cap2 xs ((List.range (x + 1).toNat).map (oK g)) /\ x.toNat + 1 = (x + 1).toNat /\ Ext u u3 /\ 0 <= x + 1 /\ x + 1 <= g.high) /\ (g.high - (x + 1)).toNat < (g.high - x).toNat) fun p2 cap2 u3 hR3 hu3 => by
    refine ⟨by simp only [inK]; omega, ⟨xs ++ [[.slice (some ⟨u1.heap.size, 0, none⟩) (oK g x.toNat).length cap1]], ?_, by omega, (hu2.trans hu3 fun k hk hq => by have := hR.new k hq; omega).mono fun _ _ h => h, by omega, by omega⟩, by omega⟩
    rw [show (x + 1).toNat = x.toNat + 1 by omega, List.range_succ, List.map_append]
    exact hR3
  rw [hrl] at hpush
  exact hpush
theorem Eg {w : Nat} : ∀ (ls : List (List Cl)) (q s : Nat), (∀ l ∈ ls, l.length = w) -> q < ls.length -> s < w -> cg ls.flatten (q * w + s) = cg (ls.getD q []) s
 | [], q, s, _, hq, _ => by simp at hq
 | l :: ls, 0, s, h, _, hs => by
  rw [List.flatten_cons, qe, Nat.zero_mul, Nat.zero_add, if_pos (by rw [h l List.mem_cons_self]; exact hs)]
  rfl
 | l :: ls, q + 1, s, h, hq, hs => by
  have hl := h l List.mem_cons_self
  rw [List.flatten_cons, qe, hl, Nat.add_mul, Nat.one_mul, if_neg (by omega), show q * w + w + s - w = q * w + s by omega]
  rw [Eg ls q s (fun m hm => h m (List.mem_cons_of_mem _ hm)) (by simpa using hq) hs]
  rfl
theorem Ca {w : Nat} : ∀ (ls : List (List Cl)), (∀ l ∈ ls, l.length = w) -> ls.flatten.length = ls.length * w
 | [], _ => by simp
 | l :: ls, h => by
  rw [List.flatten_cons, List.length_append, Ca ls fun m hm => h m (List.mem_cons_of_mem _ hm), h l List.mem_cons_self, List.length_cons, Nat.add_mul, Nat.one_mul]
  omega
def cJ (g : Gr) (fr to n : Int) (r : Nat) : List Cl :=
 if (r : Int) < fr \/ to <= r then oK g r
 else if fr <= (r : Int) + n /\ (r : Int) + n < to then oK g ((r : Int) + n).toNat
 else List.replicate g.wide.toNat .z
theorem vk {g : Gr} (hg : ao g) {fr to n : Int} (h0 : 0 <= fr) (h1 : to <= g.high) {r : Nat} (hr : (r : Int) < g.high) : (cJ g fr to n r).length = g.wide.toNat := by
 unfold cJ
 split
 ·exact xb hg hr
 ·split
  ·exact xb hg (by omega)
  ·simp
theorem Ed {g : Gr} {r s : Nat} (hs : s < g.wide.toNat) : cg (oK g r) s = cg g.cells (r * g.wide.toNat + s) := by
 unfold oK
 rw [tu hs, tQ]
theorem zv {g : Gr} (hg : ao g) {fr to n : Int} (h0 : 0 <= fr) (h1 : to <= g.high) : (dc g fr to n).cells = ((List.range g.high.toNat).map (cJ g fr to n)).flatten := by
 have hw1 := hg.w1
 have hh1 := hg.h1
 have hlen : ∀ l ∈ (List.range g.high.toNat).map (cJ g fr to n), l.length = g.wide.toNat := fun l hl => by
  obtain ⟨r, hr, rfl⟩ := List.mem_map.1 hl
  exact vk hg h0 h1 (by have := List.mem_range.1 hr; omega)
 have hc := kV hg
 refine gP ?_ fun i hi => ?_
 ·show (lR _ _ _ _ _).length = _
  rw [cP, Ca _ hlen, hc]
  simp
 ·have hi : i < g.cells.length := by
   have : (dc g fr to n).cells.length = g.cells.length := cP _ _ _ _ _
   omega
  show cg (lR _ _ _ _ _) i = _
  obtain ⟨q, s, hs, he, hq, hm⟩ := ux (i := i) (w := g.wide.toNat) (by omega)
  rw [hc, he] at hi
  have hqh : q < g.high.toNat := by
   apply Nat.lt_of_mul_lt_mul_right (a := g.wide.toNat)
   omega
  rw [ja (by rw [hc, he]; exact hi), hq]
  conv => rhs; rw [he]
  rw [Eg _ q s hlen (by simp; omega) hs]
  have hgd : ((List.range g.high.toNat).map (cJ g fr to n)).getD q [] = cJ g fr to n q := by
   simp [List.getD_eq_getElem?_getD, hqh]
  rw [hgd]
  unfold cJ
  by_cases c1 : (q : Int) < fr \/ to <= q
  ·rw [if_pos (by omega), if_pos c1, Ed hs, he]
  ·rw [if_neg (by omega), if_neg c1]
   by_cases c2 : fr <= (q : Int) + n /\ (q : Int) + n < to
   ·rw [if_pos (by omega), if_pos c2, Ed hs]
    rw [he, vZ (by omega)]
   ·rw [if_neg (by omega), if_neg c2, Ey]
theorem kR.at {u0 u : World} {p : Option Addr} {n c : Nat} {xs : List (List Value)} {ls : List (List Cl)} (h : kR u0 u p n c xs ls) {i : Nat} (hi : i < n) : ∃ b o q cq, p = some ⟨b, o, none⟩ /\ Rd u b (o + i * 1) [.slice q (ls.getD i []).length cq] /\ Cells u q (ls.getD i []) /\ ∀ k, At q k -> k < u.heap.size /\ ¬ At p k := by
 have hA : Arr u 1 p n xs := ⟨h.own.aH, by rw [h.rows.len, h.len], h.rows.each⟩
 obtain ⟨b, o, hp, hr⟩ := hA.at hi (by decide)
 obtain ⟨q, cq, h1, h2, h3⟩ := h.rows.at (i := i) (by rw [h.len]; exact hi)
 rw [h1] at hr
 exact ⟨b, o, q, cq, hp, hr, h2, h3⟩
theorem kU (ls : List (List Cl)) {i : Nat} (h : i < ls.length) : (ls.take (i + 1)).flatten = (ls.take i).flatten ++ ls.getD i [] := by
 rw [List.take_succ, List.getElem?_eq_getElem h, List.flatten_append]
 simp [List.getD_eq_getElem?_getD, List.getElem?_eq_getElem h]
theorem Ff {u0 u : World} {g : Gr} {p : Option Addr} {m c : Nat} {q : Option Addr} {n cap : Nat} {xs : List (List Value)} {ls : List (List Cl)} (h : kR u0 u q n cap xs ls) (hn : n <= 1000) (hw : ∀ l ∈ ls, l.length <= 1000) :
  Spec Tryz.prog im #[GrV g p m c, .slice q n cap] u (wD u { g with cells := ls.flatten }) := by
 apply k0
 delta ig s9 cnd iI lq
 simp only [decide_eq_true_eq, decide_eq_false_iff_not, true_and]
 have hu : Ext u (ab (ab u hole) hole) := ((Upd.refl u).alloc _).alloc _
 have hlt : ∀ i : Nat, i <= ls.length -> (ls.take i).flatten.length <= i * 1000 := fun i => by
  induction i with
  | zero => intro _; simp
  | succ i ih =>
   intro hi
   rw [kU ls (by omega), List.length_append]
   have := ih (by omega)
   have := hw (ls.getD i []) (by rw [List.getD_eq_getElem?_getD, List.getElem?_eq_getElem (by omega)]; exact List.getElem_mem _)
   omega
 refine ⟨fun x wide high gp gn gc row col ink bold top aA u1 => Ext u u1 /\ 0 <= x /\ x <= n /\ gn = ((ls.take x.toNat).flatten).length /\ Own u1 4 gp gn gc (aE ((ls.take x.toNat).flatten)) /\ (∀ k, At gp k -> u.heap.size <= k) /\ wide = g.wide /\ high = g.high /\ row = g.row /\ col = g.col /\ ink = g.ink /\ bold = g.bold /\ top = g.top /\ aA = g.aA,
  fun x _ _ _ _ _ _ _ _ _ _ _ _ => (n - x).toNat, ⟨hu, Int.le_refl _, by omega, by simp, by simp [aE]; exact Own.nil _ _, fun k hk => (aJ hk).elim, rfl, rfl, rfl, rfl, rfl, rfl, rfl, rfl⟩, ?_⟩
 rintro x wide high gp gn gc row col ink bold top aA u1 ⟨hu1, h0, h1, rfl, ho, hk, rfl, rfl, rfl, rfl, rfl, rfl, rfl, rfl⟩
 have hln := h.len
 refine ⟨fun hx => ?_, fun hx => ?_⟩
 ·obtain ⟨b, o, r, cr, hq, hr, hc, hkr⟩ := (h.ext hu1).at (i := x.toNat) (by omega)
  have hb := hlt x.toNat (by omega)
  have hrl := hw (ls.getD x.toNat []) (by rw [List.getD_eq_getElem?_getD, List.getElem?_eq_getElem (by omega)]; exact List.getElem_mem _)
  refine ⟨b, o, hq, h0, hx, _, _, _, rfl, hr, aE ((ls.take x.toNat).flatten), aE (ls.getD x.toNat []), ho.len, ho.aH, bq _, hc.aH, by decide, by omega, (fQ _ _).2 trivial, fun hcc => ho.wrs (by omega), fun p' cap' u2 hr2 => ?_⟩
  obtain ⟨a1, a2, a3⟩ := ho.app hr2 ho.len ho.aH (bq _) rfl
  have hx1 : (x + 1).toNat = x.toNat + 1 := by omega
  refine ⟨by simp only [inK]; omega, ⟨(hu1.trans a2 fun k hk' hat => by have := hk k hat; omega).mono fun _ _ h => h, by omega, by omega, ?_, ?_, fun k hk' => ?_, rfl, rfl, rfl, rfl, rfl, rfl, rfl, rfl⟩, by first | omega | (dsimp only; omega)⟩
  ·rw [hx1, kU ls (by omega), List.length_append]
  ·rw [hx1, kU ls (by omega), dA]
   exact a1
  ·rcases a3 with ⟨rfl, _⟩ | ⟨rfl, _⟩
   ·exact hk k hk'
   ·rw [ar hk']; exact hu1.size
 ·rw [List.take_of_length_le (by omega)] at ho ⊢
  exact ⟨⟨gp, gc, rfl, ho, hk⟩, hu1⟩
abbrev Gm (u1 : World) (g : Gr) (fr to n x : Int) (p' : Option Addr) (c' : Nat) (w : World) : Prop :=
 inK .i64 (x + 1) /\ (∃ ys, kR u1 w p' (x.toNat + 1) c' ys ((List.range (x + 1).toNat).map (cJ g fr to n)) /\ x.toNat + 1 = (x + 1).toNat /\ Ext u1 w /\ 0 <= x + 1 /\ x + 1 <= g.high) /\ (g.high - (x + 1)).toNat < (g.high - x).toNat
theorem Az {u : World} {g : Gr} {p : Option Addr} (h : Cells u p g.cells) {c : Nat} (hc : g.cells.length <= c) (hg : ao g) {fr to n : Int} (h0 : 0 <= fr) (h1 : to <= g.high) (hn0 : -100000 <= n) (hn1 : n <= 100000) :
  Spec Tryz.prog jO #[GrV g p g.cells.length c, .int .i64 fr, .int .i64 to, .int .i64 n] u (wD u (dc g fr to n)) := by
 apply lV
 delta jQ AK Bz wg sZ sc cnd iI lq
 simp only [decide_eq_true_eq, decide_eq_false_iff_not, true_and]
 have hu : Ext u (ab (ab u hole) hole) := ((Upd.refl u).alloc _).alloc _
 have hw1 := hg.w1
 have hw2 := hg.w2
 have hh1 := hg.h1
 have hh2 := hg.h2
 refine (Fh (h.ext hu) hc hg).mono fun e u1 ⟨q, qn, cap, xs, he, hR, hqn, hu1⟩ => ⟨_, _, _, he, ?_⟩
 have x1 := hu.ext hu1
 refine ⟨fun op on oc x v => ∃ ys, kR u1 v op on oc ys ((List.range x.toNat).map (cJ g fr to n)) /\ on = x.toNat /\ Ext u1 v /\ 0 <= x /\ x <= g.high, fun _ _ _ x _ => (g.high - x).toNat,
  ⟨[], ⟨Own.nil _ _, trivial, rfl, fun k hk => (aJ hk).elim⟩, rfl, Upd.refl _, Int.le_refl _, by omega⟩, ?_⟩
 rintro op on oc x v ⟨ys, hO, rfl, hv, hx0, hx1⟩
 refine ⟨fun hx => ?_, fun hx => ?_⟩
 ·have hx1' : (x + 1).toNat = x.toNat + 1 := by omega
  have grow : ∀ {w : World} {l : List Cl} {p' : Option Addr} {c' : Nat} {ys' : List (List Value)}, l = cJ g fr to n x.toNat -> Ext u1 w -> kR u1 w p' (x.toNat + 1) c' ys' ((List.range x.toNat).map (cJ g fr to n) ++ [l]) -> Gm u1 g fr to n x p' c' w := fun {w l p' c' ys'} hl hw hR3 => by
   refine ⟨by simp only [inK]; omega, ⟨ys', ?_, hx1'.symm, hw, by omega, by omega⟩, by omega⟩
   rw [hx1', List.range_succ, List.map_append, List.map_singleton, <- hl]
   exact hR3
  have out : ∀ {w v' : World}, Ext v v' -> Upd (At op) v' w -> Ext u1 w := fun hv' hw => ((hv.ext hv').trans hw fun k hk ho => by have := hO.new k ho; omega).mono fun _ _ h => h
  have take : ∀ r : Nat, (r : Int) < g.high -> ∃ b o q' cq, q = some ⟨b, o, none⟩ /\ Rd v b (o + r * 1) [.slice q' (oK g r).length cq] /\ Cells v q' (oK g r) /\ ∀ k, At q' k -> k < v.heap.size /\ ¬ At op k := fun r hr => by
   have hgd : ((List.range g.high.toNat).map (oK g)).getD r [] = oK g r := by
    simp [List.getD_eq_getElem?_getD]
    rw [List.getElem?_range (by omega)]; rfl
   have hA : Arr v 1 q qn xs := ⟨(hR.own.ext hv).aH, by rw [hR.rows.len, hR.len], hR.rows.each⟩
   obtain ⟨b, o, hq, hrd⟩ := hA.at (i := r) (by omega) (by decide)
   obtain ⟨q', cq, h1', h2', h3'⟩ := hR.rows.at (i := r) (by rw [hR.len]; omega)
   rw [hgd] at h1' h2'
   rw [h1'] at hrd
   have hvs := hv.size
   exact ⟨b, o, q', cq, hq, hrd, h2'.ext hv, fun k hk => ⟨by have := (h3' k hk).1; omega, fun ho => by have := hO.new k ho; have := (h3' k hk).1; omega⟩⟩
  have hvs := hv.size
  have own := fun {q' : Option Addr} {cq : Nat} {l : List Cl} (hl : l = cJ g fr to n x.toNat) (hcl : Cells v q' l) (hk : ∀ k, At q' k -> k < v.heap.size /\ ¬ At op k) =>
   hO.push (cq := cq) (K := Gm u1 g fr to n x) hvs (by omega) hcl hk da da fun p' c' w hR3 hw => grow hl (out (Upd.refl _) hw) hR3
  have hf : Ext v (ab v (.cells (aS g.wide.toNat [.int .i64 0, .int .i64 0, .int .i64 0, .bool false]).toArray dj)) := (Upd.refl v).alloc _
  have hco : Cells (ab v (.cells (aS g.wide.toNat [.int .i64 0, .int .i64 0, .int .i64 0, .bool false]).toArray dj)) (some ⟨v.heap.size, 0, none⟩) (List.replicate g.wide.toNat .z) := by
   rw [yw]
   exact (CO.fresh v (List.replicate g.wide.toNat .z) dj).cells
  have fresh := fun (hl : List.replicate g.wide.toNat .z = cJ g fr to n x.toNat) => (hO.ext hf).push (cq := g.wide.toNat) (K := Gm u1 g fr to n x) (by have := hf.size; omega) (by omega) hco (fun k hk => by
    rw [ar hk]
    refine ⟨by show v.heap.size < _; rw [size_alloc]; omega, fun ho => ?_⟩
    have := (hO.own.at ho).1
    simp only at this
    omega) da da fun p' c' w hR3 hw => grow hl (out hf hw) hR3
  rw [List.length_replicate] at fresh
  refine ⟨fun c1 => ?_, fun c1 => ⟨fun c2 => ?_, fun c2 => ⟨by simp only [inK]; omega, fun c3 => ⟨by simp only [inK]; omega, fun c4 => ⟨by simp only [inK]; omega, ?_⟩, fun c4 => ?_⟩, fun c3 => ?_⟩⟩⟩
  ·obtain ⟨b, o, q', cq, hq, hrd, hcl, hk⟩ := take x.toNat (by omega)
   exact ⟨b, o, hq, hx0, hx, _, _, _, rfl, hrd, own (by unfold cJ; rw [if_pos (by omega)]) hcl hk⟩
  ·obtain ⟨b, o, q', cq, hq, hrd, hcl, hk⟩ := take x.toNat (by omega)
   exact ⟨b, o, hq, hx0, hx, _, _, _, rfl, hrd, own (by unfold cJ; rw [if_pos (by omega)]) hcl hk⟩
  ·obtain ⟨b, o, q', cq, hq, hrd, hcl, hk⟩ := take (x + n).toNat (by omega)
   exact ⟨b, o, hq, by omega, by omega, _, _, _, rfl, hrd, own (by unfold cJ; rw [if_neg (by omega), if_pos (by omega), show ((x.toNat : Nat) : Int) = x by omega]) hcl hk⟩
  ·exact ⟨by omega, Int.le_refl _, by omega, by omega, fresh (by unfold cJ; rw [if_neg (by omega), if_neg (by omega)])⟩
  ·exact ⟨by omega, Int.le_refl _, by omega, by omega, fresh (by unfold cJ; rw [if_neg (by omega), if_neg (by omega)])⟩
 ·have hfin : x = g.high := by omega
  subst hfin
  refine (Ff (g := g) (p := p) (m := g.cells.length) (c := c) hO (by omega) fun l hl => ?_).mono fun e w ⟨⟨p', c', he, ho, hk⟩, hw⟩ => ⟨_, _, _, _, _, _, _, _, _, _, _, he, ⟨p', c', ?_, ?_, fun k hk' => by have := hk k hk'; have := x1.size; have := hv.size; omega⟩, x1.ext (hv.ext hw)⟩
  ·obtain ⟨r, hr, rfl⟩ := List.mem_map.1 hl
   rw [vk hg h0 h1 (by have := List.mem_range.1 hr; omega)]; omega
  ·rw [zv hg h0 h1]
   rfl
  ·rw [zv hg h0 h1]
   exact ho
structure gW (u : World) (p : Option Addr) (g : Gr) (e : Ending) (u' : World) : Prop where
 ex : ∃ p' c, e = .returned (GrV g p' g.cells.length c) /\ Own u' 4 p' g.cells.length c (aE g.cells) /\ ∀ k, At p' k -> At p k \/ u.heap.size <= k
 upd : Upd (At p) u u'
theorem gW.same {u u' : World} {p : Option Addr} {g : Gr} {c : Nat} (h : Own u 4 p g.cells.length c (aE g.cells)) (hu : Ext u u') : gW u p g (.returned (GrV g p g.cells.length c)) u' :=
 ⟨⟨p, c, rfl, h.ext hu, fun _ h => .inl h⟩, hu.any⟩
theorem xt {u : World} {g : Gr} {p : Option Addr} {c : Nat} (h : Own u 4 p g.cells.length c (aE g.cells)) (hg : ao g) :
  Spec Tryz.prog g0 #[GrV g p g.cells.length c] u (gW u p (ba g)) := by
 apply ka
 delta gB cnd iI lq
 simp only [decide_eq_true_eq, decide_eq_false_iff_not, true_and]
 have hu : Ext u (ab (ab u hole) hole) := ((Upd.refl u).alloc _).alloc _
 have hr1 := hg.r1
 have hr2 := hg.r2
 have hh2 := hg.h2
 have ht1 := hg.t1
 have ht2 := hg.t2
 have hb2 := hg.b2
 refine ⟨by simp only [inK]; omega, fun h1 => ?_, fun h1 => ⟨by simp only [inK]; omega, fun h2 => ⟨by simp only [inK]; omega, ?_⟩, fun h2 => ?_⟩⟩
 ·have e : ba g = dc g g.top g.aA 1 := by unfold ba; rw [if_pos h1]
  rw [e]
  exact (Az (h.ext hu).cells h.le hg ht1 hb2 (by decide) (by decide)).mono fun e u1 ⟨⟨p', c', he, ho, hk⟩, hu1⟩ => ⟨_, _, _, _, _, _, _, _, _, _, _, he, ⟨p', c', rfl, ho, fun k hk' => .inr (by have := hk k hk'; have := hu.size; omega)⟩, (hu.ext hu1).any⟩
 ·have e : ba g = { g with row := g.row + 1 } := by unfold ba; rw [if_neg h1, if_pos (by omega)]
  rw [e]
  exact gW.same (g := { g with row := g.row + 1 }) h hu
 ·have e : ba g = g := by unfold ba; rw [if_neg h1, if_neg (by omega)]
  rw [e]
  exact gW.same h hu
theorem CW {b : Nat} {u : World} : ∀ (l : List UInt8) (o i : Nat) (c : UInt8), Rd u b o (l.map fun b => Value.int .u8 b.toNat) -> l[i]? = some c -> Rd u b (o + i * 1) [.int .u8 ((c.toNat : Nat) : Int)]
 | [], _, _, _, _, h => by simp at h
 | x :: l, o, 0, c, hr, h => by
  simp only [List.getElem?_cons_zero, Option.some.injEq] at h
  subst h
  exact ⟨hr.1, trivial⟩
 | x :: l, o, i + 1, c, hr, h => by
  have := CW l (o + 1) i c hr.2 (by simpa using h)
  rwa [show o + (i + 1) * 1 = o + 1 + i * 1 by omega]
structure HH (v : World) (gb c bb : Nat) (g : Gr) (s : List UInt8) (r cl x : Int) (l : List Cl) (u1 : World) : Prop where
 own : CO u1 gb c l
 len : l.length = g.cells.length
 upd : Upd (· = gb) v u1
 bytes : Rd u1 bb 0 (s.map fun b => Value.int .u8 b.toNat)
 x0 : 0 <= x
 x1 : x <= s.length
 r0 : 0 <= r
 r1 : r <= 10 + x
 c0 : 0 <= cl
 c1 : cl <= 24 + x
 eq : picC g.wide g.high (min g.col (g.wide - 1)) s g.row (min g.col (g.wide - 1)) g.cells = picC g.wide g.high (min g.col (g.wide - 1)) (s.drop x.toNat) r cl l
theorem GO {u : World} {g : Gr} {gb : Nat} {c : Nat} (h : CO u gb c g.cells) (hg : ao g) (s : ByteArray) (hs : s.size <= 100000000) :
  Spec Tryz.prog jz #[GrV g (some ⟨gb, 0, none⟩) g.cells.length c, .string s] u (gW u (some ⟨gb, 0, none⟩) (dz g s.data.toList)) := by
 apply lB
 delta jt sD jY kb cnd iI lq
 simp only [decide_eq_true_eq, decide_eq_false_iff_not, true_and]
 have hw1 := hg.w1
 have hw2 := hg.w2
 have hh2 := hg.h2
 have hr1 := hg.r1
 have hr2 := hg.r2
 have hc1 := hg.c1
 have hlen := wW s
 have hgl := h.lt
 refine ⟨by simp only [inK]; omega, by simp only [inK]; omega, fun cap hcap => ?_⟩
 have hu : Ext u (ab (af (af (ab (ab u hole) hole))) (.cells (aV s ++ aS (cap - s.size) [.int .u8 0]).toArray sx (cap, cap + 1))) := (((((Upd.refl u).alloc _).alloc _).drew).drew).alloc _
 have hbb : Rd (ab (af (af (ab (ab u hole) hole))) (.cells (aV s ++ aS (cap - s.size) [.int .u8 0]).toArray sx (cap, cap + 1))) (ab (ab u hole) hole).heap.size 0 (s.data.toList.map fun b => Value.int .u8 b.toNat) := by
  refine j0 (t := sx) (f := (cap, cap + 1)) (aV s) [] (aS (cap - s.size) [.int .u8 0]) ?_
  rw [heap_alloc, if_pos (show (ab (ab u hole) hole).heap.size = (af (af (ab (ab u hole) hole))).heap.size from rfl)]
  simp
 have hne : (ab (ab u hole) hole).heap.size ≠ gb := by rw [size_alloc, size_alloc]; omega
 generalize hw0 : ab (af (af (ab (ab u hole) hole))) (.cells (aV s ++ aS (cap - s.size) [.int .u8 0]).toArray sx (cap, cap + 1)) = w0 at hu hbb
 refine ⟨fun r cl x u1 => ∃ l, HH w0 gb c (ab (ab u hole) hole).heap.size g s.data.toList r cl x l u1, fun _ _ x _ => (s.size - x).toNat, ⟨g.cells, h.ext hu, rfl, Upd.refl _, hbb, Int.le_refl _, by omega, hr1, by omega, by omega, by omega, by simp⟩, fun r cl x u1 ⟨l, I⟩ => ⟨fun hx => ?_, fun hx => ?_⟩⟩
 ·obtain ⟨i1, il, i3, ib, i4, i5, i6, i7, i8, i9, i10⟩ := I
  have hb : s.data.toList[x.toNat]? = some (s.data.toList[x.toNat]'(by omega)) := List.getElem?_eq_getElem _
  generalize s.data.toList[x.toNat]'(by omega) = ch at hb
  have hch : ch.toNat < 256 := ch.toNat_lt
  have hx1 : (x + 1).toNat = x.toNat + 1 := by omega
  rw [Ei hb, zA] at i10
  have hrb := CW s.data.toList 0 x.toNat ch ib hb
  have skip : ¬ ch.toNat = 45 -> ¬ (97 <= ch.toNat /\ ch.toNat < 105 /\ r < g.high /\ cl < g.wide) -> inK .i64 (cl + 1) /\ inK .i64 (x + 1) /\ (∃ l, HH w0 gb c (ab (ab u hole) hole).heap.size g s.data.toList r (cl + 1) (x + 1) l u1) /\ (s.size - (x + 1)).toNat < (s.size - x).toNat := fun h1 h2 => by
   rw [if_neg h1, if_neg h2, <- hx1] at i10
   exact ⟨by simp only [inK]; omega, by simp only [inK]; omega, ⟨l, i1, il, i3, ib, by omega, by omega, i6, by omega, by omega, by omega, i10⟩, by omega⟩
  refine ⟨_, 0, rfl, i4, hx, _, rfl, hrb, fun h45 => ?_, fun h45 => ⟨by simp only [inK]; omega, by simp only [inK]; omega, fun h97 => ⟨fun h105 => ⟨fun hrh => ⟨fun hcw => ?_, fun hcw => ?_⟩, fun hrh => ?_⟩, fun h105 => ?_⟩, fun h97 => ?_⟩⟩
  ·rw [if_pos (by omega), <- hx1] at i10
   exact ⟨by simp only [inK]; omega, by simp only [inK]; omega, ⟨l, i1, il, i3, ib, by omega, by omega, by omega, by omega, by omega, by omega, i10⟩, by first | omega | (dsimp only; omega)⟩
  ·have q0 := aB hg i6 (by omega)
   have q1 := aB hg (r := r + 1) (by omega) (by omega)
   rw [bQ] at q1
   have Y := i1.set ⟨0, 0, ((ch.toNat : Nat) : Int) - 96, false⟩ (i := (r * g.wide + cl).toNat) (by omega) (o := 0 + (r * g.wide + cl).toNat * 4) (by omega)
   rw [if_neg (by omega), if_pos ⟨by omega, by omega, hrh, hcw⟩, <- hx1] at i10
   exact ⟨by simp only [inK]; omega, by simp only [inK]; omega, gb, 0, rfl, by omega, by omega, rfl, i1.wr (by omega), by simp only [inK]; omega, by simp only [inK]; omega,
    ⟨_, Y, by rw [List.length_set]; exact il, i3.put (fun _ => rfl) _ _, (aI _ _ _).rd ib (fun h => hne h), by omega, by omega, i6, by omega, by omega, by omega, i10⟩, by first | omega | (dsimp only; omega)⟩
  ·exact skip (by omega) (fun h => hcw h.2.2.2)
  ·exact skip (by omega) (fun h => hrh h.2.2.1)
  ·exact skip (by omega) (by omega)
  ·exact skip (by omega) (by omega)
 ·obtain ⟨i1, il, i3, ib, i4, i5, i6, i7, i8, i9, i10⟩ := I
  rw [List.drop_eq_nil_of_le (by omega)] at i10
  have e : dz g s.data.toList = { g with cells := l } := by
   unfold dz
   rw [i10]
   rfl
  rw [e]
  refine ⟨⟨some ⟨gb, 0, none⟩, c, by rw [<- il], i1, fun _ h => .inl h⟩, (hu.any (S := At (some ⟨gb, 0, none⟩))).trans i3 fun k hk he => ⟨_, rfl, he.symm⟩⟩
theorem FR {S : Nat -> Prop} {u u' : World} {p : Option Addr} {n : Nat} {l : List Int} (h : bY u p n l) (hu : Upd S u u') (hp : n ≠ 0 -> ∀ k, At p k -> ¬ S k) : bY u' p n l := by
 by_cases hn : n = 0
 ·have hl := h.2
  have : l = [] := List.length_eq_zero_iff.1 (by omega)
  subst this
  refine ⟨?_, hl⟩
  cases p with
  | none => rfl
  | some a => exact sP _ _
 ·exact h.upd hu (hp hn)
theorem yi : ∀ (l : List Int) (g : Gr), (l.foldl cj g).wide = g.wide /\ (l.foldl cj g).high = g.high /\ (l.foldl cj g).cells = g.cells /\ (l.foldl cj g).row = g.row /\ (l.foldl cj g).col = g.col /\ (l.foldl cj g).top = g.top /\ (l.foldl cj g).aA = g.aA
 | [], g => ⟨rfl, rfl, rfl, rfl, rfl, rfl, rfl⟩
 | x :: l, g => by
  have h : (cj g x).wide = g.wide /\ (cj g x).high = g.high /\ (cj g x).cells = g.cells /\ (cj g x).row = g.row /\ (cj g x).col = g.col /\ (cj g x).top = g.top /\ (cj g x).aA = g.aA := by
   unfold cj
   repeat' split
   all_goals exact ⟨rfl, rfl, rfl, rfl, rfl, rfl, rfl⟩
  have ih := yi l (cj g x)
  rw [List.foldl_cons]
  exact ⟨ih.1.trans h.1, ih.2.1.trans h.2.1, ih.2.2.1.trans h.2.2.1, ih.2.2.2.1.trans h.2.2.2.1, ih.2.2.2.2.1.trans h.2.2.2.2.1, ih.2.2.2.2.2.1.trans h.2.2.2.2.2.1, ih.2.2.2.2.2.2.trans h.2.2.2.2.2.2⟩
theorem H2 {g : Gr} (hg : ao g) {b : Int} (hjk : b = 74 \/ b = 75) (l : List Int) : ∃ cs, aP g b l = { g with cells := cs } /\ cs.length = g.cells.length /\ ∀ i : Nat, i < g.cells.length ->
  (((b = 75 -> (i : Int) / g.wide = g.row) /\ ((aQ l 0 0 = 0 /\ g.row * g.wide + min g.col (g.wide - 1) <= i) \/ (aQ l 0 0 = 1 /\ (i : Int) <= g.row * g.wide + min g.col (g.wide - 1)) \/ aQ l 0 0 = 2)) -> cg cs i = .z) /\
  (¬ ((b = 75 -> (i : Int) / g.wide = g.row) /\ ((aQ l 0 0 = 0 /\ g.row * g.wide + min g.col (g.wide - 1) <= i) \/ (aQ l 0 0 = 1 /\ (i : Int) <= g.row * g.wide + min g.col (g.wide - 1)) \/ aQ l 0 0 = 2)) -> cg cs i = cg g.cells i) := by
 have hw1 := hg.w1
 have hr1 := hg.r1
 have hr2 := hg.r2
 have hc1 := hg.c1
 have r0 := aB hg hr1 (by omega)
 have r1 := aB hg (r := g.row + 1) (by omega) (by omega)
 have e1 := bQ g.row g.wide
 have hdiv : ∀ i : Nat, (i : Int) / g.wide = g.row ↔ g.row * g.wide <= i /\ (i : Int) < (g.row + 1) * g.wide := fun i => by
  have a := Int.le_ediv_iff_mul_le (a := g.row) (b := (i : Int)) (c := g.wide) (by omega)
  have b := Int.ediv_lt_iff_lt_mul (a := (i : Int)) (b := g.row + 1) (c := g.wide) (by omega)
  constructor
  ·intro h
   exact ⟨a.1 (by omega), b.1 (by omega)⟩
  ·rintro ⟨h1, h2⟩
   have := a.2 h1
   have := b.2 h2
   omega
 have key : ∀ (lo hi : Int) (fr to : Nat), aP g b l = m8 g (aQ l 0 0) (g.row * g.wide + min g.col (g.wide - 1)) lo hi -> 0 <= lo -> lo <= g.row * g.wide -> (∀ i : Nat, i < g.cells.length -> ((b = 75 -> (i : Int) / g.wide = g.row) ↔ lo <= i /\ (i : Int) < hi)) ->
   g.row * g.wide + min g.col (g.wide - 1) < hi ->
   ∃ cs, aP g b l = { g with cells := cs } /\ cs.length = g.cells.length /\ ∀ i : Nat, i < g.cells.length ->
  (((b = 75 -> (i : Int) / g.wide = g.row) /\ ((aQ l 0 0 = 0 /\ g.row * g.wide + min g.col (g.wide - 1) <= i) \/ (aQ l 0 0 = 1 /\ (i : Int) <= g.row * g.wide + min g.col (g.wide - 1)) \/ aQ l 0 0 = 2)) -> cg cs i = .z) /\
  (¬ ((b = 75 -> (i : Int) / g.wide = g.row) /\ ((aQ l 0 0 = 0 /\ g.row * g.wide + min g.col (g.wide - 1) <= i) \/ (aQ l 0 0 = 1 /\ (i : Int) <= g.row * g.wide + min g.col (g.wide - 1)) \/ aQ l 0 0 = 2)) -> cg cs i = cg g.cells i) := fun lo hi fr to he h0 hlo hio hhi => by
  have fin : ∀ a z : Nat, (∀ i : Nat, i < g.cells.length -> ((a <= i /\ i < z) ↔ ((lo <= i /\ (i : Int) < hi) /\ ((aQ l 0 0 = 0 /\ g.row * g.wide + min g.col (g.wide - 1) <= i) \/ (aQ l 0 0 = 1 /\ (i : Int) <= g.row * g.wide + min g.col (g.wide - 1)) \/ aQ l 0 0 = 2)))) ->
    aP g b l = { g with cells := cY a z g.cells } -> ∃ cs, aP g b l = { g with cells := cs } /\ cs.length = g.cells.length /\ ∀ i : Nat, i < g.cells.length ->
  (((b = 75 -> (i : Int) / g.wide = g.row) /\ ((aQ l 0 0 = 0 /\ g.row * g.wide + min g.col (g.wide - 1) <= i) \/ (aQ l 0 0 = 1 /\ (i : Int) <= g.row * g.wide + min g.col (g.wide - 1)) \/ aQ l 0 0 = 2)) -> cg cs i = .z) /\
  (¬ ((b = 75 -> (i : Int) / g.wide = g.row) /\ ((aQ l 0 0 = 0 /\ g.row * g.wide + min g.col (g.wide - 1) <= i) \/ (aQ l 0 0 = 1 /\ (i : Int) <= g.row * g.wide + min g.col (g.wide - 1)) \/ aQ l 0 0 = 2)) -> cg cs i = cg g.cells i) := fun a z hiff heq => by
   refine ⟨_, heq, bO _ _ _, fun i hi' => ⟨fun hc => ?_, fun hc => ?_⟩⟩
   ·rw [jf hi', if_pos ((hiff i hi').2 ⟨(hio i hi').1 hc.1, hc.2⟩)]
   ·rw [jf hi', if_neg fun ha => hc ⟨(hio i hi').2 ((hiff i hi').1 ha).1, ((hiff i hi').1 ha).2⟩]
  unfold m8 at he
  by_cases c0 : aQ l 0 0 = 0
  ·rw [if_pos c0] at he
   exact fin _ _ (fun i hi' => by omega) he
  rw [if_neg c0] at he
  by_cases c1 : aQ l 0 0 = 1
  ·rw [if_pos c1] at he
   exact fin _ _ (fun i hi' => by omega) he
  rw [if_neg c1] at he
  by_cases c2 : aQ l 0 0 = 2
  ·rw [if_pos c2] at he
   exact fin _ _ (fun i hi' => by omega) he
  rw [if_neg c2] at he
  exact fin 0 0 (fun i hi' => by omega) (by
   rw [he]
   have : cY 0 0 g.cells = g.cells := gP (bO _ _ _) fun i hi' => by
    rw [bO] at hi'
    rw [jf hi', if_neg (by omega)]
   rw [this])
 rcases hjk with rfl | rfl
 ·refine key 0 g.cells.length 0 0 ?_ (Int.le_refl _) r0.1 (fun i hi => ⟨fun _ => by omega, fun _ h => by omega⟩) (by omega)
  unfold aP
  dsimp only
  rw [if_neg (by decide), if_neg (by decide), if_neg (by decide), if_neg (by decide), if_neg (by decide), if_pos rfl]
 ·refine key (g.row * g.wide) ((g.row + 1) * g.wide) 0 0 ?_ r0.1 (Int.le_refl _) (fun i hi => ⟨fun h => (hdiv i).1 (h rfl), fun h _ => (hdiv i).2 h⟩) (by omega)
  unfold aP
  dsimp only
  rw [if_neg (by decide), if_neg (by decide), if_neg (by decide), if_neg (by decide), if_neg (by decide), if_neg (by decide), if_pos rfl]
structure JKI (u : World) (gb c : Nat) (g : Gr) (cs : List Cl) (i : Int) (v : World) : Prop where
 ex : ∃ m, CO v gb c m /\ m.length = g.cells.length /\ ∀ j : Nat, j < g.cells.length -> cg m j = if (j : Int) < i then cg cs j else cg g.cells j
 upd : Upd (At (some ⟨gb, 0, none⟩)) u v
 i0 : 0 <= i
 i1 : i <= g.cells.length
theorem JKI.skip {u v w : World} {gb c : Nat} {g : Gr} {cs : List Cl} {i : Int} (h : JKI u gb c g cs i v) (hi : i < g.cells.length) (hw : Ext v w) (he : cg cs i.toNat = cg g.cells i.toNat) : JKI u gb c g cs (i + 1) w := by
 obtain ⟨⟨m, h1, h2, h3⟩, h4, h5, h6⟩ := h
 refine ⟨⟨m, h1.ext hw, h2, fun j hj => ?_⟩, h4.ext hw, by omega, by omega⟩
 rw [h3 j hj]
 by_cases hji : j = i.toNat
 ·subst hji
  rw [if_neg (by omega), if_pos (by omega), he]
 ·by_cases hlt : (j : Int) < i
  ·rw [if_pos hlt, if_pos (by omega)]
  ·rw [if_neg hlt, if_neg (by omega)]
theorem JKI.store {u v w : World} {gb c : Nat} {g : Gr} {cs : List Cl} {i : Int} (h : JKI u gb c g cs i v) (hi : i < g.cells.length) (hw : Ext v w) (he : cg cs i.toNat = .z) :
  Wr w gb (0 + i.toNat * 4) 4 /\ JKI u gb c g cs (i + 1) (ae w gb (0 + i.toNat * 4) [.int .i64 0, .int .i64 0, .int .i64 0, .bool false]) := by
 obtain ⟨⟨m, h1, h2, h3⟩, h4, h5, h6⟩ := h
 refine ⟨(h1.ext hw).wr (by omega), ⟨m.set i.toNat .z, (h1.ext hw).set .z (by omega) (by omega), by rw [List.length_set]; exact h2, fun j hj => ?_⟩, (h4.ext hw).put (fun _ => ⟨_, rfl, rfl⟩) _ _, by omega, by omega⟩
 rw [nH (by omega)]
 by_cases hji : j = i.toNat
 ·subst hji
  rw [if_pos rfl, if_pos (by omega), he]
 ·rw [if_neg hji, h3 j hj]
  by_cases hlt : (j : Int) < i
  ·rw [if_pos hlt, if_pos (by omega)]
  ·rw [if_neg hlt, if_neg (by omega)]
theorem Gy {g : Gr} (hg : ao g) (b : Int) {N : Int} (hN : 1 <= N) : dc g g.row g.aA (if b = 76 then - min N 10 else min N 10) = dc g g.row g.aA (if b = 76 then -N else N) := by
 have hh2 := hg.h2
 have hr1 := hg.r1
 have hb2 := hg.b2
 have ht1 := hg.t1
 have ht2 := hg.t2
 by_cases h : N <= 10
 ·rw [show min N 10 = N by omega]
 ·unfold dc
  rw [FQ (m := if b = 76 then - min N 10 else min N 10) (n := if b = 76 then -N else N)]
  ·split <;> omega
  ·split <;> omega
theorem Ih {u : World} {g : Gr} {gb c : Nat} (h : CO u gb c g.cells) (hg : ao g) {b : Int} {lp : Option Addr} {ln lc : Nat} {l : List Int} (hl : bY u lp ln l) (hp : ln ≠ 0 -> ∀ k, At lp k -> k ≠ gb) (hn : ln <= 100000000) :
  Spec Tryz.prog lr #[GrV g (some ⟨gb, 0, none⟩) g.cells.length c, .int .i64 b, .slice lp ln lc] u (gW u (some ⟨gb, 0, none⟩) (aP g b l)) := by
 apply mI
 delta lj Ay zK AU zL Bb wu p9 zX ed zN v3 bc ke cnd iI lq
 simp only [decide_eq_true_eq, decide_eq_false_iff_not, Bool.not_eq_true', Bool.not_eq_false', true_and]
 have hu : Ext u (ab (ab u hole) hole) := ((Upd.refl u).alloc _).alloc _
 refine (tK (c := lc) (hl.ext hu) (k := 0) (by decide)).mono fun e u1 ⟨he, hu1⟩ => ⟨_, he, ?_⟩
 have x1 := hu.ext hu1
 have H := h.ext x1
 have hl1 := (hl.ext hu).ext hu1
 have hw1 := hg.w1
 have hw2 := hg.w2
 have hh1 := hg.h1
 have hh2 := hg.h2
 have hr1 := hg.r1
 have hr2 := hg.r2
 have hc1 := hg.c1
 have hc2 := hg.c2
 have ht1 := hg.t1
 have ht2 := hg.t2
 have hb2 := hg.b2
 have r0 := aB hg hr1 (by omega)
 have hfew := aK hg
 rw [show (0 : Int).toNat = 0 from rfl]
 have hn1 : max (aQ l 0 0) 1 = aQ l 0 1 := by unfold aQ; omega
 rw [hn1]
 have hnum : 1 <= aQ l 0 1 /\ aQ l 0 1 <= 999 := by unfold aQ; omega
 generalize hN : aQ l 0 1 = N at hnum
 have withs : ∀ (g' : Gr) {v : World}, g'.cells = g.cells -> Ext u v -> gW u (some ⟨gb, 0, none⟩) g' (.returned (GrV g' (some ⟨gb, 0, none⟩) g'.cells.length c)) v := fun g' v hc hv => gW.same (by rw [hc]; exact h) hv
 generalize hcmd : aP g b l = g'
 refine ⟨by simp only [inK]; omega, by simp only [inK]; omega, by simp only [inK]; omega, fun hc => ?_, fun h65 => ⟨fun hc => ?_, fun h66 => ⟨fun hc => ?_, fun h67 => ⟨fun hc => ?_, fun h68 => ⟨fun hc => ?_, fun h72 => ⟨fun h74 => ⟨fun _ => ?_, fun h => (h h74).elim⟩, fun h74 => ⟨fun h75 => ?_, fun h75 => ?_⟩⟩⟩⟩⟩⟩⟩
 rotate_left 7
 ·refine ⟨fun h76 => ⟨fun _ => ?_, fun h => (h h76).elim⟩, fun h76 => ⟨fun h77 => ?_, fun h77 => ?_⟩⟩
  rotate_left 2
  ·refine ⟨fun hc => ?_, fun h109 => ⟨fun hc => ?_, fun h114 => ?_⟩⟩
   ·subst hc
    have e : g' = l.foldl cj g := by
     rw [<- hcmd]
     unfold aP
     dsimp only
     rw [if_neg (by decide), if_neg (by decide), if_neg (by decide), if_neg (by decide), if_neg (by decide), if_neg (by decide), if_neg (by decide), if_neg (by decide), if_pos rfl]
    refine ⟨fun i w hi p n c' r cl ik bo t bt v => Ext u v /\ bY v lp ln l /\ 0 <= i /\ i <= ln /\ w = g.wide /\ hi = g.high /\ p = some ⟨gb, 0, none⟩ /\ n = g.cells.length /\ c = c' /\ r = g.row /\ cl = g.col /\ ik = ((l.take i.toNat).foldl cj g).ink /\ bo = ((l.take i.toNat).foldl cj g).bold /\ t = g.top /\ bt = g.aA,
     fun i _ _ _ _ _ _ _ _ _ _ _ _ => (ln - i).toNat, ⟨x1, hl1, Int.le_refl _, by omega, rfl, rfl, rfl, rfl, rfl, rfl, rfl, rfl, rfl, rfl, rfl⟩, ?_⟩
    rintro i w hi p n c' r cl ik bo t bt v ⟨hv, hlv, i0, i1, rfl, rfl, rfl, rfl, rfl, rfl, rfl, hik, hbo, rfl, rfl⟩
    have hln := hl.2
    refine ⟨fun hlt => ?_, fun hlt => ?_⟩
    ·obtain ⟨b', o', hp', hr'⟩ := hlv.at (i := i.toNat) (by omega)
     have hlast := zr g (l := l) (i := i.toNat) (by omega)
     rw [<- show (i + 1).toNat = i.toNat + 1 by omega] at hlast
     generalize l.getD i.toNat 0 = x at hr' hlast
     generalize (l.take i.toNat).foldl cj g = F at hik hbo hlast
     have next : ∀ (v' : World), v' = v -> ∀ ik' bo', (cj F x).ink = ik' -> (cj F x).bold = bo' -> inK .i64 (i + 1) /\ (Ext u v' /\ bY v' lp ln l /\ 0 <= i + 1 /\ i + 1 <= ln /\ g.wide = g.wide /\ g.high = g.high /\ some (Addr.mk gb 0 none) = some ⟨gb, 0, none⟩ /\ g.cells.length = g.cells.length /\ c = c /\ g.row = g.row /\ g.col = g.col /\ ik' = ((l.take (i + 1).toNat).foldl cj g).ink /\ bo' = ((l.take (i + 1).toNat).foldl cj g).bold /\ g.top = g.top /\ g.aA = g.aA) /\ (ln - (i + 1)).toNat < (ln - i).toNat := fun v' hv' ik' bo' h1 h2 => by
      subst hv'
      exact ⟨by simp only [inK]; omega, ⟨hv, hlv, by omega, by omega, rfl, rfl, rfl, rfl, rfl, rfl, rfl, by rw [hlast]; exact h1.symm, by rw [hlast]; exact h2.symm, rfl, rfl⟩, by omega⟩
     refine ⟨b', o', hp', i0, hlt, x, rfl, hr', fun c0 => ?_, fun c0 => ?_⟩
     ·exact next _ rfl _ _ (by unfold cj; rw [if_pos c0]) (by unfold cj; rw [if_pos c0])
     refine ⟨fun q v' => v' = v /\ (q = true ↔ x = 1 \/ x = 22), ⟨fun a => ⟨rfl, by simp [a]⟩, fun a => ⟨rfl, by simp [a]⟩⟩, fun q v' ⟨hv', hq⟩ => ⟨fun hqt => ?_, fun hqf => ?_⟩⟩
     ·rcases hq.1 hqt with c1 | c1
      ·exact next _ hv' _ _ (by unfold cj; rw [if_neg c0, if_pos c1]; exact hik.symm) (by unfold cj; rw [if_neg c0, if_pos c1]; simp [c1])
      ·exact next _ hv' _ _ (by unfold cj; rw [if_neg c0, if_neg (by omega), if_pos c1]; exact hik.symm) (by unfold cj; rw [if_neg c0, if_neg (by omega), if_pos c1]; simp [c1])
     have c1 : ¬ (x = 1 \/ x = 22) := fun hh => by rw [hq.2 hh] at hqf; cases hqf
     refine ⟨fun q2 v2 => v2 = v /\ (q2 = true ↔ 30 <= x /\ x <= 37), ⟨fun a => ⟨hv', by simp [a]⟩, fun a => ⟨hv', by simp [a]⟩⟩, fun q2 v2 ⟨hv2, hq2⟩ => ⟨fun hqt => ?_, fun hqf2 => ?_⟩⟩
     ·have c2 := hq2.1 hqt
      exact ⟨by simp only [inK]; omega, next _ hv2 _ _ (by unfold cj; rw [if_neg c0, if_neg (by omega), if_neg (by omega), if_pos (by omega)]) (by unfold cj; rw [if_neg c0, if_neg (by omega), if_neg (by omega), if_pos (by omega)]; exact hbo.symm)⟩
     have c2 : ¬ (30 <= x /\ x <= 37) := fun hh => by rw [hq2.2 hh] at hqf2; cases hqf2
     refine ⟨fun c3 => ?_, fun c3 => ?_⟩
     ·exact next _ hv2 _ _ (by unfold cj; rw [if_neg c0, if_neg (by omega), if_neg (by omega), if_neg (by omega), if_pos c3]) (by unfold cj; rw [if_neg c0, if_neg (by omega), if_neg (by omega), if_neg (by omega), if_pos c3]; exact hbo.symm)
     ·exact next _ hv2 _ _ (by unfold cj; rw [if_neg c0, if_neg (by omega), if_neg (by omega), if_neg (by omega), if_neg c3]; exact hik.symm) (by unfold cj; rw [if_neg c0, if_neg (by omega), if_neg (by omega), if_neg (by omega), if_neg c3]; exact hbo.symm)
    ·rw [List.take_of_length_le (by omega), <- e] at hik hbo
     have ho := yi l g
     rw [<- e] at ho
     obtain ⟨o1, o2, o3, o4, o5, o6, o7⟩ := ho
     have := withs g' o3 hv
     unfold GrV at this
     rw [o1, o2, o3, o4, o5, o6, o7, <- hik, <- hbo] at this
     exact this
   ·subst hc
    have e : g' = j4 g (N - 1) (aQ l 1 0) := by
     rw [<- hcmd, <- hN]
     unfold aP
     dsimp only
     rw [if_neg (by decide), if_neg (by decide), if_neg (by decide), if_neg (by decide), if_neg (by decide), if_neg (by decide), if_neg (by decide), if_neg (by decide), if_neg (by decide), if_pos rfl]
    refine (tK (c := lc) hl1 (k := 1) (by decide)).mono fun r u2 ⟨he, hu2⟩ => ⟨_, he, ?_⟩
    rw [show (1 : Int).toNat = 1 from rfl]
    have hm : 0 <= aQ l 1 0 /\ aQ l 1 0 <= 999 := by unfold aQ; omega
    generalize aQ l 1 0 = M at hm e
    have x2 := x1.ext hu2
    have hset : ∀ bot : Int, bot = (if M = 0 \/ g.high < M then g.high else M) -> ∀ v : World, Ext u v -> (N <= bot -> inK .i64 (N - 1) /\ gW u (some ⟨gb, 0, none⟩) g' (.returned (GrV { g with top := N - 1, aA := bot, row := 0, col := 0 } (some ⟨gb, 0, none⟩) g.cells.length c)) v) /\
      (¬ N <= bot -> gW u (some ⟨gb, 0, none⟩) g' (.returned (GrV g (some ⟨gb, 0, none⟩) g.cells.length c)) v) := fun bot hbot v hv => by
     have hreg : j4 g (N - 1) M = if N - 1 < bot then { g with top := N - 1, aA := bot, row := 0, col := 0 } else g := by
      unfold j4
      rw [hbot]
     rw [hreg] at e
     refine ⟨fun hlt => ⟨by simp only [inK]; omega, ?_⟩, fun hlt => ?_⟩
     ·rw [if_pos (by omega)] at e
      rw [e]
      exact withs { g with top := N - 1, aA := bot, row := 0, col := 0 } rfl hv
     ·rw [if_neg (by omega)] at e
      rw [e]
      exact withs g rfl hv
    refine ⟨fun q v => v = u2 /\ (q = true ↔ M = 0 \/ g.high < M), ⟨fun a => ⟨rfl, by simp [a]⟩, fun a => ⟨rfl, by simp [a]⟩⟩, fun q v ⟨hv, hq⟩ => ?_⟩
    subst hv
    refine ⟨fun hqt => ?_, fun hqf => ?_⟩
    ·exact hset g.high (by rw [if_pos (hq.1 hqt)]) _ x2
    ·exact hset M (by rw [if_neg (fun hh => by rw [hq.2 hh] at hqf; cases hqf)]) _ x2
   ·have e : g' = g := by
     rw [<- hcmd]
     unfold aP
     dsimp only
     rw [if_neg h65, if_neg h66, if_neg h67, if_neg h68, if_neg h72, if_neg h74, if_neg h75, if_neg (by omega), if_neg h109, if_neg h114]
    rw [e]
    exact withs g rfl x1
  all_goals
   have hlm : b = 76 \/ b = 77 := by omega
   have hcm : aP g b l = if g.row < g.top \/ g.aA <= g.row then g else { dc g g.row g.aA (if b = 76 then - min N 10 else min N 10) with col := 0 } := by
    rw [<- hN]
    unfold aP
    dsimp only
    rw [if_neg (by omega), if_neg (by omega), if_neg (by omega), if_neg (by omega), if_neg (by omega), if_neg (by omega), if_neg (by omega), if_pos hlm]
   rw [Gy hg b hnum.1, hcmd] at hcm
   refine ⟨fun q v => v = u1 /\ (q = true ↔ g.top <= g.row /\ g.row < g.aA), ⟨fun a => ⟨rfl, by simp [a]⟩, fun a => ⟨rfl, by simp [a]⟩⟩, fun q v ⟨hv, hq⟩ => ?_⟩
   subst hv
   refine ⟨fun hqt => ⟨fun hch => ⟨by simp only [inK]; omega, ?_⟩, fun hch => ?_⟩, fun hqf => ?_⟩
   ·have := hq.1 hqt
    rw [if_neg (by omega), if_pos hch] at hcm
    rw [hcm]
    exact (Az H.cells H.le hg (fr := g.row) (to := g.aA) (n := -N) hr1 hb2 (by omega) (by omega)).mono fun e u2 ⟨⟨p', c', he, ho, hk⟩, hu2⟩ => ⟨_, _, _, _, _, _, _, _, _, _, _, he, ⟨p', c', rfl, ho, fun k hk' => .inr (by have := hk k hk'; have := x1.size; omega)⟩, (x1.ext hu2).any⟩
   ·have := hq.1 hqt
    rw [if_neg (by omega), if_neg hch] at hcm
    rw [hcm]
    exact (Az H.cells H.le hg (fr := g.row) (to := g.aA) (n := N) hr1 hb2 (by omega) (by omega)).mono fun e u2 ⟨⟨p', c', he, ho, hk⟩, hu2⟩ => ⟨_, _, _, _, _, _, _, _, _, _, _, he, ⟨p', c', rfl, ho, fun k hk' => .inr (by have := hk k hk'; have := x1.size; omega)⟩, (x1.ext hu2).any⟩
   ·rw [if_pos (by
     have : ¬ (g.top <= g.row /\ g.row < g.aA) := fun hh => by rw [hq.2 hh] at hqf; cases hqf
     omega)] at hcm
    rw [hcm]
    exact withs g rfl x1
 ·subst hc
  have e : g' = { g with row := max 0 (g.row - N) } := by
   rw [<- hcmd, <- hN]
   unfold aP
   dsimp only
   rw [if_pos rfl]
  refine ⟨fun i w hi p n c' r cl ik bo t bt v => Ext u v /\ 0 <= i /\ i <= N /\ w = g.wide /\ hi = g.high /\ p = some ⟨gb, 0, none⟩ /\ n = g.cells.length /\ c = c' /\ r = max 0 (g.row - i) /\ cl = g.col /\ ik = g.ink /\ bo = g.bold /\ t = g.top /\ bt = g.aA,
   fun i _ _ _ _ _ _ _ _ _ _ _ _ => (N - i).toNat, ⟨x1, Int.le_refl _, by omega, rfl, rfl, rfl, rfl, rfl, by omega, rfl, rfl, rfl, rfl, rfl⟩, ?_⟩
  rintro i w hi p n c' r cl ik bo t bt v ⟨hv, i0, i1, rfl, rfl, rfl, rfl, rfl, hr, rfl, rfl, rfl, rfl, rfl⟩
  refine ⟨fun hlt => ⟨fun hc => ⟨by simp only [inK]; omega, by simp only [inK]; omega, ⟨hv, by omega, by omega, rfl, rfl, rfl, rfl, rfl, by omega, rfl, rfl, rfl, rfl, rfl⟩, by first | omega | (dsimp only; omega)⟩, fun hc => ⟨by simp only [inK]; omega, ⟨hv, by omega, by omega, rfl, rfl, rfl, rfl, rfl, by omega, rfl, rfl, rfl, rfl, rfl⟩, by first | omega | (dsimp only; omega)⟩⟩, fun hlt => ?_⟩
  have : i = N := by omega
  rw [e, <- this, <- hr]
  exact withs { g with row := r } rfl hv
 ·subst hc
  have e : g' = { g with row := min (g.high - 1) (g.row + N) } := by
   rw [<- hcmd, <- hN]
   unfold aP
   dsimp only
   rw [if_neg (by decide), if_pos rfl]
  refine ⟨fun i w hi p n c' r cl ik bo t bt v => Ext u v /\ 0 <= i /\ i <= N /\ w = g.wide /\ hi = g.high /\ p = some ⟨gb, 0, none⟩ /\ n = g.cells.length /\ c = c' /\ r = min (g.high - 1) (g.row + i) /\ cl = g.col /\ ik = g.ink /\ bo = g.bold /\ t = g.top /\ bt = g.aA,
   fun i _ _ _ _ _ _ _ _ _ _ _ _ => (N - i).toNat, ⟨x1, Int.le_refl _, by omega, rfl, rfl, rfl, rfl, rfl, by omega, rfl, rfl, rfl, rfl, rfl⟩, ?_⟩
  rintro i w hi p n c' r cl ik bo t bt v ⟨hv, i0, i1, rfl, rfl, rfl, rfl, rfl, hr, rfl, rfl, rfl, rfl, rfl⟩
  refine ⟨fun hlt => ⟨by simp only [inK]; omega, fun hc => ⟨by simp only [inK]; omega, by simp only [inK]; omega, ⟨hv, by omega, by omega, rfl, rfl, rfl, rfl, rfl, by omega, rfl, rfl, rfl, rfl, rfl⟩, by first | omega | (dsimp only; omega)⟩, fun hc => ⟨by simp only [inK]; omega, ⟨hv, by omega, by omega, rfl, rfl, rfl, rfl, rfl, by omega, rfl, rfl, rfl, rfl, rfl⟩, by first | omega | (dsimp only; omega)⟩⟩, fun hlt => ?_⟩
  have : i = N := by omega
  rw [e, <- this, <- hr]
  exact withs { g with row := r } rfl hv
 ·subst hc
  have e : g' = { g with col := min (g.col + N) (g.wide - 1) } := by
   rw [<- hcmd, <- hN, show min (g.col + aQ l 0 1) (g.wide - 1) = min (g.wide - 1) (g.col + aQ l 0 1) by omega]
   unfold aP
   dsimp only
   rw [if_neg (by decide), if_neg (by decide), if_pos rfl]
  rw [e]
  exact ⟨by simp only [inK]; omega, by simp only [inK]; omega, withs { g with col := min (g.col + N) (g.wide - 1) } rfl x1⟩
 ·subst hc
  have e : g' = { g with col := max (min g.col (g.wide - 1) - N) 0 } := by
   rw [<- hcmd, <- hN, show max (min g.col (g.wide - 1) - aQ l 0 1) 0 = max 0 (min g.col (g.wide - 1) - aQ l 0 1) by omega]
   unfold aP
   dsimp only
   rw [if_neg (by decide), if_neg (by decide), if_neg (by decide), if_pos rfl]
  rw [e]
  exact ⟨by simp only [inK]; omega, withs { g with col := max (min g.col (g.wide - 1) - N) 0 } rfl x1⟩
 ·subst hc
  have hd : Ext u1 (af u1) := (Upd.refl u1).drew
  refine ⟨by simp only [inK]; omega, (tK (c := lc) (hl1.ext hd) (k := 1) (by decide)).mono fun r u2 ⟨he, hu2⟩ => ⟨_, he, ?_⟩⟩
  rw [show (1 : Int).toNat = 1 from rfl]
  have hm1 : max (aQ l 1 0) 1 = aQ l 1 1 := by unfold aQ; omega
  rw [hm1]
  have hm : 1 <= aQ l 1 1 /\ aQ l 1 1 <= 999 := by unfold aQ; omega
  have e : g' = { g with row := min N g.high - 1, col := min (aQ l 1 1) g.wide - 1 } := by
   rw [<- hcmd, <- hN, show min (aQ l 0 1) g.high = min g.high (aQ l 0 1) by omega, show min (aQ l 1 1) g.wide = min g.wide (aQ l 1 1) by omega]
   unfold aP
   dsimp only
   rw [if_neg (by decide), if_neg (by decide), if_neg (by decide), if_neg (by decide), if_pos rfl]
  rw [e]
  exact ⟨by simp only [inK]; omega, withs { g with row := min N g.high - 1, col := min (aQ l 1 1) g.wide - 1 } rfl ((x1.ext hd).ext hu2)⟩
 all_goals
  have hjk : b = 74 \/ b = 75 := by omega
  obtain ⟨cs, e1, e2, e3⟩ := H2 hg hjk l
  rw [hcmd] at e1
  refine ⟨fun i v => JKI u gb c g cs i v, fun i _ => (g.cells.length - i).toNat, ⟨⟨g.cells, H, rfl, fun j hj => by rw [if_neg (by omega)]⟩, x1.any, Int.le_refl _, by omega⟩, fun i v I => ⟨fun hi => ?_, fun hi => ?_⟩⟩
  ·have i0 := I.i0
   have hd : Ext v (af v) := (Upd.refl v).drew
   have hi' : i.toNat < g.cells.length := by omega
   have e4 := e3 i.toNat hi'
   rw [show ((i.toNat : Nat) : Int) = i by omega] at e4
   have hlv : bY (af v) lp ln l := FR hl (I.upd.ext hd) fun h0 k hk ha => hp h0 k hk (ar ha)
   refine ⟨fun hb75 => ⟨i0, by omega, by simp only [inK]; omega, fun hne => ⟨by simp only [inK]; omega, I.skip hi hd (e4.2 fun hh => hne (hh.1 hb75)), by first | omega | (dsimp only; omega)⟩, fun heq => ?_⟩, fun hb75 => ?_⟩
   all_goals
    have hrow : b = 75 -> i / g.wide = g.row := by
     intro hh
     first | assumption | (exfalso; omega)
    refine (tK (c := lc) hlv (k := 0) (by decide)).mono fun e w ⟨he, hw⟩ => ⟨_, he, ?_⟩
    rw [show (0 : Int).toNat = 0 from rfl]
    have hvw := hd.ext hw
    have st : ((aQ l 0 0 = 0 /\ g.row * g.wide + min g.col (g.wide - 1) <= i) \/ (aQ l 0 0 = 1 /\ i <= g.row * g.wide + min g.col (g.wide - 1)) \/ aQ l 0 0 = 2) -> Wr w gb (0 + i.toNat * 4) 4 /\ inK .i64 (i + 1) /\ JKI u gb c g cs (i + 1) (ae w gb (0 + i.toNat * 4) [.int .i64 0, .int .i64 0, .int .i64 0, .bool false]) /\ ((g.cells.length : Int) - (i + 1)).toNat < ((g.cells.length : Int) - i).toNat := fun hc => by
     have s := I.store hi hvw (e4.1 ⟨hrow, hc⟩)
     exact ⟨s.1, by simp only [inK]; omega, s.2, by omega⟩
    have sk : ¬ ((aQ l 0 0 = 0 /\ g.row * g.wide + min g.col (g.wide - 1) <= i) \/ (aQ l 0 0 = 1 /\ i <= g.row * g.wide + min g.col (g.wide - 1)) \/ aQ l 0 0 = 2) -> inK .i64 (i + 1) /\ JKI u gb c g cs (i + 1) w /\ ((g.cells.length : Int) - (i + 1)).toNat < ((g.cells.length : Int) - i).toNat := fun hc =>
     ⟨by simp only [inK]; omega, I.skip hi hvw (e4.2 fun hh => hc hh.2), by omega⟩
    exact ⟨fun c0 => ⟨fun hle => ⟨gb, 0, rfl, i0, hi, rfl, st (by omega)⟩, fun hle => sk (by omega)⟩, fun c0 => ⟨fun c1 => ⟨fun hle => ⟨gb, 0, rfl, i0, hi, rfl, st (by omega)⟩, fun hle => sk (by omega)⟩, fun c1 => ⟨fun c2 => ⟨gb, 0, rfl, i0, hi, rfl, st (by omega)⟩, fun c2 => sk (by omega)⟩⟩⟩
  ·obtain ⟨⟨m, m1, m2, m3⟩, iu, i0, i1⟩ := I
   have hm : m = cs := gP (by omega) fun j hj => by rw [m3 j (by omega), if_pos (by omega)]
   subst hm
   rw [e1]
   exact ⟨⟨some ⟨gb, 0, none⟩, c, by rw [<- m2], m1, fun _ h => .inl h⟩, iu⟩
end Go.Proofs.YtkmmphkjmamckacGreatDoor
