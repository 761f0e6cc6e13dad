/-
  The document's own parser, whole.
-/
import Derived.Test.YtkmmphkjmamckaaPWalk3
namespace Go.Proofs.Ytkmmphkjmamckaa
open Go
set_option linter.all false

theorem iT {P Q : Prop} [Decidable Q] (h : P) : decide Q = true ↔ P ∧ Q := by simp [h]
theorem iF {P Q : Prop} (h : ¬ P) : false = true ↔ P ∧ Q := by simp [h]
theorem iT2 {P Q R : Prop} [Decidable R] (h : P) (h2 : Q) : decide R = true ↔ P ∧ Q ∧ R := by simp [h, h2]
theorem iF2 {P Q R : Prop} (h2 : ¬ Q) : false = true ↔ P ∧ Q ∧ R := by simp [h2]

def Done (u : World) (bp bl bs : Nat) (s : ByteArray) (evs : List Ev) (ln : Nat) (r : Pr × Ev) (u' : World) : Prop :=
  ∃ q n c lp' ln' lc' evs' xs', RI u bp bl bs s u'.heap.size r.1 q n c lp' ln' lc' evs' xs' u' ∧ evs' = evs ++ (if r.2.kind = 0 then [] else [r.2]) ∧ ln' ≤ ln + 1

section
variable {u : World} {bp bl bs N : Nat} {s : ByteArray} {pr : Pr} {pp : Option Addr} {pn pc : Nat} {lp : Option Addr} {ln lc : Nat} {evs : List Ev} {xs : List (List Value)} {u1 : World}

theorem RI.done0 (h : RI u bp bl bs s u1.heap.size pr pp pn pc lp ln lc evs xs u1) {r : Pr × Ev} (hr : r = (pr, .none)) : Done u bp bl bs s evs ln r u1 := by
  subst hr
  exact ⟨_, _, _, _, _, _, _, _, h, by simp [Ev.none], by omega⟩

theorem RI.done1 {lp' : Option Addr} {lc' : Nat} {ev : Ev} {xs' : List (List Value)} (h : RI u bp bl bs s u1.heap.size pr pp pn pc lp' (ln + 1) lc' (evs ++ [ev]) xs' u1) {r : Pr × Ev} (hr : r = (pr, ev)) (hk : ev.kind ≠ 0) : Done u bp bl bs s evs ln r u1 := by
  subst hr
  exact ⟨_, _, _, _, _, _, _, _, h, by simp [hk], by omega⟩

theorem tell_plain (h : RI u bp bl bs s u1.heap.size pr pp pn pc lp ln lc evs xs u1) (ev : Ev) (he : ev.ps = []) (hln : ln ≤ 4194304) :
    Spec Try.prog fn_fenestraref_FeedBytes_c1 #[EvV ev none 0 0, .pointer (some ⟨bl, 0, none⟩)] u1 fun e u2 => e = .returned (.tuple #[]) ∧ ∃ lp' lc', RI u bp bl bs s u2.heap.size pr pp pn pc lp' (ln + 1) lc' (evs ++ [ev]) (xs ++ [evRow ev none 0 0]) u2 :=
  tell_ok h ev none 0 0 ⟨by rw [he]; rfl, by rw [he]; rfl⟩ (fun _ h => (at_none h).elim) hln

theorem numV_set {l : List Int} {k : Nat} (hk : k < l.length) (v : Int) : numV (l.set k v) = numV (l.take k) ++ [.int .i64 v] ++ numV (l.drop (k + 1)) := by
  rw [List.set_eq_take_append_cons_drop, if_pos hk]
  simp [numV]

theorem numV_split {l : List Int} {k : Nat} (hk : k < l.length) : numV l = numV (l.take k) ++ [.int .i64 (l.getD k 0)] ++ numV (l.drop (k + 1)) := by
  have := numV_set hk (l.getD k 0)
  rw [← this]
  congr 1
  rw [List.getD_eq_getElem?_getD, List.getElem?_eq_getElem hk]
  simp

theorem Own.setNum {u : World} {b n c : Nat} {l : List Int} (h : Own u 1 (some ⟨b, 0, none⟩) n c (numV l)) {k : Nat} (hk : k < l.length) (v : Int) : Own (putCells u b (0 + k * 1) [.int .i64 v]) 1 (some ⟨b, 0, none⟩) n c (numV (l.set k v)) ∧ Wr u b (0 + k * 1) 1 := by
  have hw := h.wrs (o := k * 1) (m := 1) (by have := h.le; have := h.len'; omega)
  rw [numV_split hk] at h
  rw [numV_set hk]
  exact ⟨h.put (ys := [.int .i64 v]) (o := 0 + k * 1) rfl (by rw [numV_len, List.length_take]; omega), hw.2⟩

theorem Own.base {u : World} {p : Option Addr} {es n c : Nat} {cs : List Value} (h : Own u es p n c cs) (hn : 0 < n) : ∃ b, p = some ⟨b, 0, none⟩ := by
  rcases h with ⟨_, h, _⟩ | ⟨b, _, _, h, _⟩
  · omega
  · exact ⟨b, h⟩

theorem RI.setNum {b : Nat} (h : RI u bp bl bs s N pr (some ⟨b, 0, none⟩) pn pc lp ln lc evs xs u1) {k : Nat} (hk : k < pr.ps.length) (v : Int) :
    Wr u1 b (0 + k * 1) 1 ∧ RI u bp bl bs s (putCells u1 b (0 + k * 1) [.int .i64 v]).heap.size { pr with ps := pr.ps.set k v } (some ⟨b, 0, none⟩) pn pc lp ln lc evs xs (putCells u1 b (0 + k * 1) [.int .i64 v]) := by
  have hs := h.own.setNum hk v
  have hU : Upd (· = b) u1 (putCells u1 b (0 + k * 1) [.int .i64 v]) := Upd.put (S := (· = b)) (Upd.refl u1) (b := b) (fun _ => rfl) _ _
  have hb : At (some (Addr.mk b 0 none)) b := ⟨_, rfl, rfl⟩
  obtain ⟨t, hp⟩ := h.hp
  refine ⟨hs.2, h.setP (pr' := { pr with ps := pr.ps.set k v }) hs.1 (fun _ h => .inl h) hU (fun k hk => .inr (by subst hk; exact hb)) ⟨t, ?_⟩⟩
  rw [hU.old bp (by have := h.hi; have := h.bound; omega) fun e => (h.inP b hb).2.2.1 e.symm]
  exact hp

theorem rd_byte {b : Nat} : ∀ (l : List UInt8) (o i : Nat) (c : UInt8), Rd u b o (l.map fun b => Value.int .u8 b.toNat) → l[i]? = some c → Rd u b (o + i * 1) [.int .u8 ((c.toNat : Nat) : Int)]
  | [], _, _, _, _, h => by simp at h
  | x :: l, o, 0, c, hr, h => by
    simp only [List.getElem?_cons_zero, Option.some.injEq] at h
    subst h
    exact ⟨hr.1, trivial⟩
  | x :: l, o, i + 1, c, hr, h => by
    have := rd_byte l (o + 1) i c hr.2 (by simpa using h)
    rwa [show o + (i + 1) * 1 = o + 1 + i * 1 by omega]

end

set_option maxHeartbeats 4000000 in
theorem feedBytes_ok (pr0 : Pr) (pp0 : Option Addr) (pn0 pc0 : Nat) (s : ByteArray) {u : World} (h : Nums u pp0 pn0 pr0.ps) (hs : s.size ≤ 4194304) (hpn : pn0 ≤ 100000000) :
    Spec Try.prog fn_fenestraref_FeedBytes #[PrV pr0 pp0 pn0 pc0, .string s] u fun e u' => (GoodP pr0 ∧ FeedPost u (feedP pr0 s.data.toList) e u') ∨ (¬ GoodP pr0 ∧ e = .returned (.tuple #[PrV pr0 pp0 pn0 pc0, .slice none 0 0, .int .i64 1]) ∧ Ext u u') := by
  apply vc_fenestraref_FeedBytes_spec
  unfold vc_fenestraref_FeedBytes
  simp only [decide_eq_true_eq, decide_eq_false_iff_not, true_and]
  have hu0 : Ext u (allocW (allocW u (.cells (prCells pr0 pp0 pn0 pc0).toArray ty_api_Parser)) hole) := ((Upd.refl u).alloc _).alloc _
  have hb0 : (allocW (allocW u (.cells (prCells pr0 pp0 pn0 pc0).toArray ty_api_Parser)) hole).heap[u.heap.size]? = some (.cells (prCells pr0 pp0 pn0 pc0).toArray ty_api_Parser) := by
    rw [heap_alloc, if_neg (by rw [size_alloc]; omega), heap_alloc, if_pos rfl]
  have hr0 : Rd (allocW (allocW u (.cells (prCells pr0 pp0 pn0 pc0).toArray ty_api_Parser)) hole) u.heap.size 0 (prCells pr0 pp0 pn0 pc0) := rd_heap (t := ty_api_Parser) (f := (0, 0)) (prCells pr0 pp0 pn0 pc0) [] [] (by rw [hb0]; simp)
  have hs0 : u.heap.size < (allocW (allocW u (.cells (prCells pr0 pp0 pn0 pc0).toArray ty_api_Parser)) hole).heap.size := by simp only [size_alloc]; omega
  refine ⟨_, _, _, _, _, _, rfl, hr0, ?_⟩
  refine (goodParser_ok pr0 pp0 pn0 pc0 (h.ext hu0) hpn).mono fun e u1 ⟨g, he, hg, hu1⟩ => ⟨g, he, fun hn => ⟨_, _, _, _, _, _, rfl, hu1.rd hr0 fun h => h, .inr ⟨?_, rfl, hu0.ext hu1⟩⟩, fun hn => ⟨_, _, _, _, _, _, rfl, hu1.rd hr0 fun h => h, ?_⟩⟩
  · intro h
    rw [hg.2 h] at hn
    cases hn
  have hgood : GoodP pr0 := hg.1 (by simpa using hn)
  have hu2 := hu0.ext hu1
  have hs1 := hu1.size
  refine (copyParser_ok pr0 pp0 pn0 pc0 (h.ext hu2) hpn).mono fun e u2 ⟨q, c, he, ho, hu3, hq⟩ => ⟨_, _, _, _, _, _, he, rfl, ?_⟩
  have hs2 := hu3.size
  have hb2 : u2.heap[u.heap.size]? = some (.cells (prCells pr0 pp0 pn0 pc0).toArray ty_api_Parser) := by
    rw [hu3.old _ (by omega) fun h => h, hu1.old _ (by omega) fun h => h, hb0]
  have hput : putN (prCells pr0 pp0 pn0 pc0) 0 (prCells pr0 q pn0 c) = some (prCells pr0 q pn0 c) := rfl
  refine ⟨wr_block hb2 hput, fun cap hcap => ?_⟩
  have hb3 := put_block _ 0 _ _ u2 hb2 hput
  have hU3 : Upd (· = u.heap.size) u2 (putCells u2 u.heap.size 0 (prCells pr0 q pn0 c)) := Upd.put (S := (· = u.heap.size)) (Upd.refl u2) (b := u.heap.size) (fun _ => rfl) _ _
  have ho3 := ho.upd hU3 fun k hk e => by have := hq k hk; omega
  have hs3 : (putCells u2 u.heap.size 0 (prCells pr0 q pn0 c)).heap.size = u2.heap.size := put_size _ _ _
  have hxt3 : Ext u (putCells u2 u.heap.size 0 (prCells pr0 q pn0 c)) := ((hu2.ext hu3).trans hU3 fun k hk e => by omega).mono fun _ _ h => h
  generalize hv1 : putCells u2 u.heap.size 0 (prCells pr0 q pn0 c) = v1 at *
  have hRI : RI u u.heap.size v1.heap.size (v1.heap.size + 1) s (allocW (drewW (allocW v1 (.cells #[.slice none 0 0] 27))) (.cells (bytesV s ++ repl (cap - s.size) [.int .u8 0]).toArray 5 (cap, cap + 1))).heap.size pr0 q pn0 c none 0 0 [] [] (allocW (drewW (allocW v1 (.cells #[.slice none 0 0] 27))) (.cells (bytesV s ++ repl (cap - s.size) [.int .u8 0]).toArray 5 (cap, cap + 1))) := by
    have hx : Ext v1 (allocW (drewW (allocW v1 (.cells #[.slice none 0 0] 27))) (.cells (bytesV s ++ repl (cap - s.size) [.int .u8 0]).toArray 5 (cap, cap + 1))) := (((Upd.refl v1).alloc _).drew).alloc _
    have hsz : (allocW (drewW (allocW v1 (.cells #[.slice none 0 0] 27))) (.cells (bytesV s ++ repl (cap - s.size) [.int .u8 0]).toArray 5 (cap, cap + 1))).heap.size = v1.heap.size + 2 := by rw [size_alloc, size_drew, size_alloc]
    refine ⟨⟨_, by rw [hx.old _ (by omega) fun h => h]; exact hb3⟩, ⟨27, ?_⟩, ?_, ho3.ext hx, Own.nil _ _, trivial, hxt3.ext hx, fun k hk => ?_, fun _ h => (at_none h).elim, fun _ _ h => at_none h, by omega, by omega, by omega, Nat.le_refl _⟩
    · rw [heap_alloc, if_neg (by rw [size_drew, size_alloc]; omega), heap_drew, heap_alloc, if_pos rfl]
    · refine rd_heap (t := 5) (f := (cap, cap + 1)) (bytesV s) [] (repl (cap - s.size) [.int .u8 0]) ?_
      rw [heap_alloc, if_pos (by rw [size_drew, size_alloc])]
      simp
    · have := hq k hk
      have := (ho3.at hk).1
      exact ⟨by omega, by omega, by omega, by omega, by omega⟩
  have hbs : (allocW v1 (.cells #[.slice none 0 0] 27)).heap.size = v1.heap.size + 1 := size_alloc _ _
  rw [hbs]
  generalize v1.heap.size = bl at *
  refine ⟨fun x u1 => ∃ pr pp pn pc lp ln lc evs xs, GoodP pr ∧ 0 ≤ x ∧ x ≤ (s.size : Nat) ∧ ((ln : Nat) : Int) ≤ x ∧ feedP pr0 s.data.toList = ((feedP pr (s.data.toList.drop x.toNat)).1, evs ++ (feedP pr (s.data.toList.drop x.toNat)).2) ∧ RI u u.heap.size bl (bl + 1) s u1.heap.size pr pp pn pc lp ln lc evs xs u1, fun x _ => ((s.size : Nat) - x).toNat, ⟨pr0, q, pn0, c, none, 0, 0, [], [], hgood, by omega, by omega, by omega, by simp, hRI⟩, ?_⟩
  clear hRI hbs hv1 hb3 hU3 ho3 hs3 hxt3 hb2 hput hs2 ho hq hu3 hb0 hr0 hs0 hu1 hu2 hs1
  intro x u12 ⟨pr, pp, pn, pc, lp, ln, lc, evs, xs, hG, h0, hxs, hlx, hf, hI⟩
  refine ⟨fun hx => ?_, fun hx => ?_⟩
  · have hin : x.toNat < s.data.toList.length := by rw [bytes_len]; omega
    have hbb : s.data.toList[x.toNat]? = some (s.data.toList[x.toNat]) := List.getElem?_eq_getElem hin
    generalize s.data.toList[x.toNat] = by_ at hbb
    have hrb := rd_byte s.data.toList 0 x.toNat by_ hI.bytes hbb
    have hb255 : by_.toNat < 256 := by_.toNat_lt
    have hdrop := drop_cons hbb
    generalize hbdef : ((by_.toNat : Nat) : Int) = b at *
    refine ⟨Done u u.heap.size bl (bl + 1) s evs ln (stepR pr b), ⟨bl + 1, 0, rfl, h0, hx, b, rfl, hrb, by simp only [inK]; omega, ?_⟩, fun u' hd => ?_⟩
    ·
      have bd : ∀ {c : Bool} {Q : Prop}, (c = true ↔ Q) → ∀ {x y : World}, x = y → x = y ∧ (c = true ↔ Q) := fun h _ _ e => ⟨e, h⟩
      have hrd := hI.rdP
      have hln : ln ≤ 4194304 := by omega
      have hgl := hG.len
      have hgp := hG.pay
      have hIb := hI.bound
      have hlen0 := hI.own.len'
      have hpn4 : ((pn : Nat) : Int) < 4 ↔ pr.ps.length < 4 := by omega
      have hsz48 : ((pr.pl.size : Nat) : Int) < 48 ↔ pr.pl.size < 48 := by omega
      have hb0' : 0 ≤ b := by omega
      have hb1' : b ≤ 255 := by omega
      have hsz1 : ((pr.pl.size + 1 : Nat) : Int) ≤ 9223372036854775807 := by omega
      -- plain
      refine ⟨fun c u' => u' = u12 ∧ (c = true ↔ (32 ≤ b ∧ b ≤ 126)), ⟨fun h1 => ⟨rfl, by simp only [decide_eq_true_eq]; omega⟩, fun h1 => ⟨rfl, by simp only [Bool.false_eq_true, false_iff]; omega⟩⟩, ?_⟩
      rintro plain u13 ⟨hu13, hplain⟩
      subst hu13
      -- 1
      refine ⟨fun c u' => u' = u13 ∧ (c = true ↔ (b = 27 ∧ pr.at_ = 3)), ⟨fun h1 => ⟨_, rfl, ⟨hrd.1, trivial⟩, rfl, iT h1⟩, fun h1 => ⟨rfl, iF h1⟩⟩, ?_⟩
      rintro t1 u14 ⟨hu14, ht1⟩
      subst hu14
      refine ⟨fun ht => ?_, fun ht => ?_⟩
      · have hc := ht1.1 ht
        have hR : stepR pr b = ({ pr with at_ := 4 }, .none) := by unfold stepR; rw [if_pos hc]
        have := hI.store (pr' := { pr with at_ := 4 }) (q := pp) (n := pn) (c := pc) hI.own (fun _ h => .inl h) (o := 0 + 0) (ys := [.int .i64 4]) rfl
        exact ⟨rfl, this.1, this.2.done0 hR⟩
      have n1 : ¬ (b = 27 ∧ pr.at_ = 3) := fun h => by rw [ht1.2 h] at ht; cases ht
      -- 2
      refine ⟨fun c u' => u' = u14 ∧ (c = true ↔ (b = 27 ∧ pr.at_ = 4)), ⟨fun h1 => ⟨_, rfl, ⟨hrd.1, trivial⟩, rfl, iT h1⟩, fun h1 => ⟨rfl, iF h1⟩⟩, ?_⟩
      rintro t2 u15 ⟨hu15, ht2⟩
      subst hu15
      refine ⟨fun ht => ?_, fun ht => ?_⟩
      · have hc := ht2.1 ht
        have hR : stepR pr b = (.zero, .none) := by unfold stepR; rw [if_neg n1, if_pos hc]
        exact (ground_ok hI).mono fun e u' ⟨he, h⟩ => ⟨he, h.done0 hR⟩
      have n2 : ¬ (b = 27 ∧ pr.at_ = 4) := fun h => by rw [ht2.2 h] at ht; cases ht
      -- 3
      refine ⟨fun hc => ?_, fun n3 => ?_⟩
      · have hR : stepR pr b = ({ Pr.zero with at_ := 1 }, .none) := by unfold stepR; rw [if_neg n1, if_neg n2, if_pos hc]
        have := hI.store (pr' := { Pr.zero with at_ := 1 }) (q := none) (n := 0) (c := 0) (Own.nil _ _) (fun _ h => (at_none h).elim) (o := 0) (ys := prCells { Pr.zero with at_ := 1 } none 0 0) rfl
        exact ⟨rfl, this.1, this.2.done0 hR⟩
      -- 4
      refine ⟨fun c u' => u' = u15 ∧ (c = true ↔ (pr.at_ = 0 ∧ (32 ≤ b ∧ b ≤ 126))), ⟨_, rfl, ⟨hrd.1, trivial⟩, fun h1 => ⟨rfl, ⟨fun h => ⟨h1, hplain.1 h⟩, fun h => hplain.2 h.2⟩⟩, fun h1 => ⟨rfl, iF h1⟩⟩, ?_⟩
      rintro t4 u17 ⟨hu17, ht4⟩
      subst hu17
      refine ⟨fun ht => ?_, fun ht => ?_⟩
      · have hc := ht4.1 ht
        have hR : stepR pr b = (pr, ⟨1, b, [], noBytes⟩) := by unfold stepR; rw [if_neg n1, if_neg n2, if_neg n3, if_pos hc]
        exact (tell_plain hI ⟨1, b, [], noBytes⟩ rfl hln).mono fun e u' ⟨he, _, _, h⟩ => ⟨he, h.done1 hR (by simp)⟩
      have n4 : ¬ (pr.at_ = 0 ∧ (32 ≤ b ∧ b ≤ 126)) := fun h => by rw [ht4.2 h] at ht; cases ht
      -- 5
      refine ⟨_, rfl, ⟨hrd.1, trivial⟩, fun c5 => ?_, fun n5 => ?_⟩
      · refine ⟨fun c u' => u' = u17 ∧ (c = true ↔ (b = 8 ∨ b = 9 ∨ b = 10 ∨ b = 13)), ⟨fun h1 => ⟨rfl, ⟨fun _ => .inl h1, fun _ => rfl⟩⟩, fun h1 => ⟨fun h2 => ⟨rfl, ⟨fun _ => .inr (.inl h2), fun _ => rfl⟩⟩, fun h2 => ⟨fun h3 => ⟨rfl, ⟨fun _ => .inr (.inr (.inl h3)), fun _ => rfl⟩⟩, fun h3 => ⟨rfl, by rw [decide_eq_true_eq]; exact ⟨fun h => .inr (.inr (.inr h)), fun h => ((h.resolve_left h1).resolve_left h2).resolve_left h3⟩⟩⟩⟩⟩, ?_⟩
        rintro t5 u19 ⟨hu19, ht5⟩
        subst hu19
        refine ⟨fun ht => ?_, fun ht => ?_⟩
        · have hc := ht5.1 ht
          have hR : stepR pr b = (pr, ⟨2, b, [], noBytes⟩) := by unfold stepR; rw [if_neg n1, if_neg n2, if_neg n3, if_neg n4, if_pos c5, if_pos hc]
          exact (tell_plain hI ⟨2, b, [], noBytes⟩ rfl hln).mono fun e u' ⟨he, _, _, h⟩ => ⟨he, h.done1 hR (by simp)⟩
        · have hn : ¬ (b = 8 ∨ b = 9 ∨ b = 10 ∨ b = 13) := fun h => by rw [ht5.2 h] at ht; cases ht
          have hR : stepR pr b = (pr, .none) := by unfold stepR; rw [if_neg n1, if_neg n2, if_neg n3, if_neg n4, if_pos c5, if_neg hn]
          exact hI.done0 hR
      -- 6
      refine ⟨fun c u' => u' = u17 ∧ (c = true ↔ (pr.at_ = 1 ∧ b = 91)), ⟨_, rfl, ⟨hrd.1, trivial⟩, fun h1 => ⟨rfl, iT h1⟩, fun h1 => ⟨rfl, iF h1⟩⟩, ?_⟩
      rintro t6 u18 ⟨hu18, ht6⟩
      subst hu18
      refine ⟨fun ht => ?_, fun ht => ?_⟩
      · have hc := ht6.1 ht
        have hR : stepR pr b = ({ Pr.zero with at_ := 2, ps := [0] }, .none) := by unfold stepR; rw [if_neg n1, if_neg n2, if_neg n3, if_neg n4, if_neg n5, if_pos hc]
        have hv : Ext u18 (allocW u18 (.cells #[.int .i64 0] ty_int)) := (Upd.refl u18).alloc _
        have ef : Own (allocW u18 (.cells #[.int .i64 0] ty_int)) 1 _ 1 1 (numV [0]) := Own.fresh u18 (cs := [.int .i64 0]) rfl
        have := (hI.go hv).store (pr' := { Pr.zero with at_ := 2, ps := [0] }) ef (fun k h => .inr (by rw [at_some h]; exact Nat.le_refl _)) (o := 0) (ys := prCells { Pr.zero with at_ := 2, ps := [0] } (some ⟨u18.heap.size, 0, none⟩) 1 1) rfl
        exact ⟨rfl, this.1, this.2.done0 hR⟩
      have n6 : ¬ (pr.at_ = 1 ∧ b = 91) := fun h => by rw [ht6.2 h] at ht; cases ht
      -- 7
      refine ⟨fun c u' => u' = u18 ∧ (c = true ↔ (pr.at_ = 1 ∧ b = 80)), ⟨_, rfl, ⟨hrd.1, trivial⟩, fun h1 => ⟨rfl, iT h1⟩, fun h1 => ⟨rfl, iF h1⟩⟩, ?_⟩
      rintro t7 u20 ⟨hu20, ht7⟩
      subst hu20
      refine ⟨fun ht => ?_, fun ht => ?_⟩
      · have hc := ht7.1 ht
        have hR : stepR pr b = ({ Pr.zero with at_ := 3 }, .none) := by unfold stepR; rw [if_neg n1, if_neg n2, if_neg n3, if_neg n4, if_neg n5, if_neg n6, if_pos hc]
        have := hI.store (pr' := { Pr.zero with at_ := 3 }) (q := none) (n := 0) (c := 0) (Own.nil _ _) (fun _ h => (at_none h).elim) (o := 0) (ys := prCells { Pr.zero with at_ := 3 } none 0 0) rfl
        exact ⟨rfl, this.1, this.2.done0 hR⟩
      have n7 : ¬ (pr.at_ = 1 ∧ b = 80) := fun h => by rw [ht7.2 h] at ht; cases ht
      -- 8
      refine ⟨_, rfl, ⟨hrd.1, trivial⟩, fun c8 => ⟨fun hc => ?_, fun hc => ?_⟩, fun n8 => ?_⟩
      · have hR : stepR pr b = (.zero, ⟨5, 0, [], noBytes⟩) := by unfold stepR; rw [if_neg n1, if_neg n2, if_neg n3, if_neg n4, if_neg n5, if_neg n6, if_neg n7, if_pos c8, if_pos hc]
        exact (tell_plain hI ⟨5, 0, [], noBytes⟩ rfl hln).mono fun e u' ⟨he, _, _, h⟩ => ⟨he, (ground_ok h).mono fun e u' ⟨he, h⟩ => ⟨he, h.done1 hR (by simp)⟩⟩
      · have hR : stepR pr b = (.zero, .none) := by unfold stepR; rw [if_neg n1, if_neg n2, if_neg n3, if_neg n4, if_neg n5, if_neg n6, if_neg n7, if_pos c8, if_neg hc]
        exact (ground_ok hI).mono fun e u' ⟨he, h⟩ => ⟨he, h.done0 hR⟩
      -- 9
      refine ⟨fun c u' => u' = u20 ∧ (c = true ↔ (pr.at_ = 2 ∧ 48 ≤ b ∧ b ≤ 57)), ⟨_, rfl, ⟨hrd.1, trivial⟩, fun h1 => ⟨fun h2 => ⟨rfl, iT2 h1 h2⟩, fun h2 => ⟨rfl, iF2 h2⟩⟩, fun h1 => ⟨rfl, iF h1⟩⟩, ?_⟩
      rintro t9 u21 ⟨hu21, ht9⟩
      subst hu21
      refine ⟨fun ht => ?_, fun ht => ?_⟩
      · have hc := ht9.1 ht
        have hR : stepR pr b = ({ pr with ps := lastNum pr.ps b }, .none) := by unfold stepR; rw [if_neg n1, if_neg n2, if_neg n3, if_neg n4, if_neg n5, if_neg n6, if_neg n7, if_neg n8, if_pos hc]
        clear n1 n2 n3 n4 n5 n6 n7 n8 hplain ht1 ht2 ht4 ht6 ht7 ht9
        have hpos := hG.cmd.1 hc.1
        have hl := hI.own.len'
        obtain ⟨b1, rfl⟩ := hI.own.base (by omega)
        have hk : (((pn : Nat) : Int) - 1).toNat = pr.ps.length - 1 := by omega
        have hx0 := hG.nums _ (mem_getD 0 (show pr.ps.length - 1 < pr.ps.length by omega))
        obtain ⟨hx1, hx2⟩ := hx0
        have hv : Ext u21 (drewW u21) := (Upd.refl u21).drew
        have hI1 := hI.go hv
        obtain ⟨b', o', e', hr1⟩ := hI1.own.nums.at (i := (((pn : Nat) : Int) - 1).toNat) (by omega)
        cases e'
        have hI2 := hI1.setNum (k := (((pn : Nat) : Int) - 1).toNat) (by omega) (10 * pr.ps.getD (((pn : Nat) : Int) - 1).toNat 0 + b - 48)
        obtain ⟨hw2, hI2⟩ := hI2
        have hrd2 := hI2.rdP
        obtain ⟨b', o', e', hr2⟩ := hI2.own.nums.at (i := (((pn : Nat) : Int) - 1).toNat) (by omega)
        cases e'
        have hget : (pr.ps.set (((pn : Nat) : Int) - 1).toNat (10 * pr.ps.getD (((pn : Nat) : Int) - 1).toNat 0 + b - 48)).getD (((pn : Nat) : Int) - 1).toNat 0 = 10 * pr.ps.getD (((pn : Nat) : Int) - 1).toNat 0 + b - 48 := by
          rw [List.getD_eq_getElem?_getD, List.getElem?_set_self (by omega)]
          rfl
        rw [hget] at hr2
        refine ⟨_, _, _, rfl, ⟨hrd.2.1, trivial⟩, by simp only [inK]; omega, _, _, _, rfl, ⟨hI1.rdP.2.1, trivial⟩, _, _, _, rfl, ⟨hI1.rdP.2.1, trivial⟩, _, _, rfl, by omega, by omega, _, rfl, hr1, by simp only [inK, hk]; omega, by simp only [inK, hk]; omega, by simp only [inK, hk]; omega, _, _, rfl, by omega, by omega, rfl, hw2, _, _, _, rfl, ⟨hrd2.2.1, trivial⟩, _, _, rfl, by omega, by omega, _, rfl, hr2, fun h999 => ?_, fun h999 => ?_⟩
        · have hI3 := hI2.setNum (k := (((pn : Nat) : Int) - 1).toNat) (by simp only [List.length_set]; omega) 999
          refine ⟨_, _, _, rfl, ⟨hrd2.2.1, trivial⟩, _, _, rfl, by omega, by omega, rfl, hI3.1, hI3.2.done0 ?_⟩
          rw [hR]
          simp only [List.set_set, lastNum]
          rw [hk] at h999 ⊢
          rw [Int.min_eq_right (by omega)]
        · refine hI2.done0 ?_
          rw [hR]
          simp only [lastNum]
          rw [hk] at h999 ⊢
          rw [Int.min_eq_left (by omega)]
      have n9 : ¬ (pr.at_ = 2 ∧ 48 ≤ b ∧ b ≤ 57) := fun h => by rw [ht9.2 h] at ht; cases ht
      have hlen := hI.own.len'
      -- 10
      refine ⟨fun c u' => u' = u21 ∧ (c = true ↔ (pr.at_ = 2 ∧ b = 59 ∧ pr.ps.length < 4)), ⟨_, rfl, ⟨hrd.1, trivial⟩, fun h1 => ⟨fun h2 => ⟨_, _, _, rfl, ⟨hrd.2.1, trivial⟩, rfl, by rw [decide_eq_true_eq, hpn4]; exact ⟨fun h => ⟨h1, h2, h⟩, fun h => h.2.2⟩⟩, fun h2 => ⟨rfl, iF2 h2⟩⟩, fun h1 => ⟨rfl, iF h1⟩⟩, ?_⟩
      rintro t10 u22 ⟨hu22, ht10⟩
      subst hu22
      refine ⟨fun ht => ?_, fun ht => ?_⟩
      · have hc := ht10.1 ht
        have hR : stepR pr b = ({ pr with ps := pr.ps ++ [0] }, .none) := by unfold stepR; rw [if_neg n1, if_neg n2, if_neg n3, if_neg n4, if_neg n5, if_neg n6, if_neg n7, if_neg n8, if_neg n9, if_pos hc]
        clear n1 n2 n3 n4 n5 n6 n7 n8 n9 hplain ht1 ht2 ht4 ht6 ht7 ht9 ht10
        have hgets := hI.own.gets
        refine ⟨_, _, _, rfl, ⟨hrd.2.1, trivial⟩, [], numV pr.ps, rfl, rfl, by rw [numV_len]; omega, hgets, by decide, by omega, numV_ok _, fun _ => trivial, fun p cap1 u30 hr => ?_⟩
        obtain ⟨a1, a2, a3⟩ := AppR.none hr rfl (by rw [numV_len]; omega) rfl
        have hv2 : Ext u22 (allocW u30 (.cells #[.int .i64 0] ty_int)) := a2.alloc _
        have a1' := a1.ext ((Upd.refl u30).alloc (.cells #[.int .i64 0] ty_int))
        have ef : Own (allocW u30 (.cells #[.int .i64 0] ty_int)) 1 _ 1 1 [.int .i64 0] := Own.fresh u30 (cs := [.int .i64 0]) rfl
        refine ⟨numV pr.ps, numV [0], a1'.len, a1'.gets, rfl, ef.gets, by decide, by omega, numV_ok _, fun hc => a1'.wrs (by omega), fun p1 cap2 u31 hr1 => ?_⟩
        obtain ⟨c1, c2, c3⟩ := a1'.app hr1 a1'.len a1'.gets rfl rfl
        have hpN : ∀ k, At p k → u22.heap.size ≤ k := fun k hk => by
          rcases a3 with ⟨_, h⟩ | h
          · rw [h] at hk; exact (at_none hk).elim
          · rw [h] at hk; rw [at_some hk]; exact Nat.le_refl _
        have hv3 : Ext u22 u31 := (hv2.trans c2 fun k hk h => by have := hpN k h; omega).mono fun _ _ h => h
        have hI3 := hI.go hv3
        have ho3 : Own u31 1 p1 (0 + pn + 1) cap2 (numV (pr.ps ++ [0])) := by
          unfold numV at c1 ⊢
          rw [List.map_append]
          exact c1
        have := hI3.store (pr' := { pr with ps := pr.ps ++ [0] }) (q := p1) (n := 0 + pn + 1) (c := cap2) ho3 (fun k hk => .inr (by
          rcases c3 with ⟨h, _⟩ | ⟨h, _⟩
          · rw [h] at hk; exact hpN k hk
          · rw [h] at hk; rw [at_some hk]; exact hv2.size)) (o := 0 + 1) (ys := [.slice p1 (0 + pn + 1) cap2]) rfl
        exact ⟨rfl, this.1, this.2.done0 hR⟩
      have n10 : ¬ (pr.at_ = 2 ∧ b = 59 ∧ pr.ps.length < 4) := fun h => by rw [ht10.2 h] at ht; cases ht
      -- 11
      refine ⟨_, rfl, ⟨hrd.1, trivial⟩, fun c11 => ?_, fun n11 => ?_⟩
      · refine ⟨fun c u' => u' = u22 ∧ (c = true ↔ (64 ≤ b ∧ b ≤ 126)), ⟨fun h1 => ⟨rfl, iT h1⟩, fun h1 => ⟨rfl, iF h1⟩⟩, ?_⟩
        rintro t11 u23 ⟨hu23, ht11⟩
        subst hu23
        refine ⟨fun ht => ?_, fun ht => ?_⟩
        · have hc := ht11.1 ht
          have hR : stepR pr b = (.zero, ⟨3, b, pr.ps, noBytes⟩) := by unfold stepR; rw [if_neg n1, if_neg n2, if_neg n3, if_neg n4, if_neg n5, if_neg n6, if_neg n7, if_neg n8, if_neg n9, if_neg n10, if_pos c11, if_pos hc]
          clear n1 n2 n3 n4 n5 n6 n7 n8 n9 n10 hplain ht1 ht2 ht4 ht6 ht7 ht9 ht10 ht11
          have hgets := hI.own.gets
          refine ⟨_, _, _, rfl, ⟨hrd.2.1, trivial⟩, [], numV pr.ps, rfl, rfl, by rw [numV_len]; omega, hgets, by decide, by omega, numV_ok _, fun _ => trivial, fun p cap1 u30 hr => ?_⟩
          obtain ⟨a1, a2, a3⟩ := AppR.none hr rfl (by rw [numV_len]; omega) rfl
          have hI3 := hI.go a2
          refine (tell_ok hI3 ⟨3, b, pr.ps, noBytes⟩ p (0 + pn) cap1 a1.nums (fun k hk => ?_) hln).mono fun e u' ⟨he, _, _, h⟩ => ⟨he, (ground_ok h).mono fun e u' ⟨he, h⟩ => ⟨he, h.done1 hR (by simp)⟩⟩
          have hkk := (a1.at hk).1
          have hkN : u23.heap.size ≤ k := by
            rcases a3 with ⟨_, h⟩ | h
            · rw [h] at hk; exact (at_none hk).elim
            · rw [h] at hk; rw [at_some hk]; exact Nat.le_refl _
          have := hI.hi
          exact ⟨hkk, ⟨by omega, by omega⟩, fun h => by have := hI.inL k h; omega, fun h => by have := hI.inP k h; omega⟩
        · have hn : ¬ (64 ≤ b ∧ b ≤ 126) := fun h => by rw [ht11.2 h] at ht; cases ht
          have hR : stepR pr b = (.zero, .none) := by unfold stepR; rw [if_neg n1, if_neg n2, if_neg n3, if_neg n4, if_neg n5, if_neg n6, if_neg n7, if_neg n8, if_neg n9, if_neg n10, if_pos c11, if_neg hn]
          exact (ground_ok hI).mono fun e u' ⟨he, h⟩ => ⟨he, h.done0 hR⟩
      -- 12
      refine ⟨fun c u' => u' = u22 ∧ (c = true ↔ (pr.at_ = 3 ∧ b = 24)), ⟨_, rfl, ⟨hrd.1, trivial⟩, fun h1 => ⟨rfl, iT h1⟩, fun h1 => ⟨rfl, iF h1⟩⟩, ?_⟩
      rintro t12 u25 ⟨hu25, ht12⟩
      subst hu25
      refine ⟨fun ht => ?_, fun ht => ?_⟩
      · have hc := ht12.1 ht
        have hR : stepR pr b = (.zero, .none) := by unfold stepR; rw [if_neg n1, if_neg n2, if_neg n3, if_neg n4, if_neg n5, if_neg n6, if_neg n7, if_neg n8, if_neg n9, if_neg n10, if_neg n11, if_pos hc]
        exact (ground_ok hI).mono fun e u' ⟨he, h⟩ => ⟨he, h.done0 hR⟩
      have n12 : ¬ (pr.at_ = 3 ∧ b = 24) := fun h => by rw [ht12.2 h] at ht; cases ht
      -- 13
      refine ⟨_, rfl, ⟨hrd.1, trivial⟩, fun c13 => ?_, fun n13 => ?_⟩
      · have hpl' : plain = false → ¬ (32 ≤ b ∧ b ≤ 126) := fun h h2 => by rw [hplain.2 h2] at h; cases h
        refine ⟨fun c u' => u' = u25 ∧ (c = true ↔ ((32 ≤ b ∧ b ≤ 126) ∧ pr.pl.size < 48)), ⟨fun h1 => ⟨_, rfl, ⟨hrd.2.2.1, trivial⟩, rfl, by rw [decide_eq_true_eq, hsz48]; exact ⟨fun h => ⟨hplain.1 h1, h⟩, fun h => h.2⟩⟩, fun h1 => ⟨rfl, iF (hpl' h1)⟩⟩, ?_⟩
        rintro t13 u27 ⟨hu27, ht13⟩
        subst hu27
        refine ⟨fun ht => ?_, fun ht => ⟨fun hp => ?_, fun hp => ?_⟩⟩
        · have hc := ht13.1 ht
          have hR : stepR pr b = ({ pr with pl := pr.pl ++ byteS b }, .none) := by unfold stepR; rw [if_neg n1, if_neg n2, if_neg n3, if_neg n4, if_neg n5, if_neg n6, if_neg n7, if_neg n8, if_neg n9, if_neg n10, if_neg n11, if_neg n12, if_pos c13, if_pos hc]
          have hv : Ext u27 (allocW u27 (.cells #[.int .u8 b] 5)) := (Upd.refl u27).alloc _
          have ef : Own (allocW u27 (.cells #[.int .u8 b] 5)) 1 _ 1 1 [.int .u8 b] := Own.fresh u27 (cs := [.int .u8 b]) rfl
          have := (hI.go hv).store (pr' := { pr with pl := pr.pl ++ byteS b }) (q := pp) (n := pn) (c := pc) (hI.go hv).own (fun _ h => .inl h) (o := 0 + 2) (ys := [.string (pr.pl ++ byteS b)]) rfl
          exact ⟨_, rfl, ⟨hrd.2.2.1, trivial⟩, byteS b, rfl, by rw [bytesV_byteS hb0' hb1']; exact ef.gets, by rw [byteS_size]; exact hsz1, rfl, this.1, this.2.done0 hR⟩
        · have hn : ¬ ((32 ≤ b ∧ b ≤ 126) ∧ pr.pl.size < 48) := fun h => by rw [ht13.2 h] at ht; cases ht
          have hR : stepR pr b = ({ pr with long := true }, .none) := by unfold stepR; rw [if_neg n1, if_neg n2, if_neg n3, if_neg n4, if_neg n5, if_neg n6, if_neg n7, if_neg n8, if_neg n9, if_neg n10, if_neg n11, if_neg n12, if_pos c13, if_neg hn, if_pos (hplain.1 hp)]
          have := hI.store (pr' := { pr with long := true }) (q := pp) (n := pn) (c := pc) hI.own (fun _ h => .inl h) (o := 0 + 3) (ys := [.bool true]) rfl
          exact ⟨rfl, this.1, this.2.done0 hR⟩
        · have hn : ¬ ((32 ≤ b ∧ b ≤ 126) ∧ pr.pl.size < 48) := fun h => by rw [ht13.2 h] at ht; cases ht
          have hR : stepR pr b = (pr, .none) := by unfold stepR; rw [if_neg n1, if_neg n2, if_neg n3, if_neg n4, if_neg n5, if_neg n6, if_neg n7, if_neg n8, if_neg n9, if_neg n10, if_neg n11, if_neg n12, if_pos c13, if_neg hn, if_neg (hpl' hp)]
          exact hI.done0 hR
      -- 14
      refine ⟨_, rfl, ⟨hrd.1, trivial⟩, fun c14 => ?_, fun n14 => ?_⟩
      · refine ⟨fun c u' => u' = u25 ∧ (c = true ↔ (b = 92 ∧ pr.long = false)), ⟨fun h1 => ⟨_, rfl, ⟨hrd.2.2.2.1, trivial⟩, rfl, by simp [h1]⟩, fun h1 => ⟨rfl, by simp [h1]⟩⟩, ?_⟩
        rintro t14 u28 ⟨hu28, ht14⟩
        subst hu28
        refine ⟨fun ht => ?_, fun ht => ?_⟩
        · have hc := ht14.1 ht
          have hR : stepR pr b = (.zero, ⟨4, 0, [], pr.pl⟩) := by unfold stepR; rw [if_neg n1, if_neg n2, if_neg n3, if_neg n4, if_neg n5, if_neg n6, if_neg n7, if_neg n8, if_neg n9, if_neg n10, if_neg n11, if_neg n12, if_neg n13, if_pos c14, if_pos hc]
          exact ⟨_, rfl, ⟨hrd.2.2.1, trivial⟩, (tell_plain hI ⟨4, 0, [], pr.pl⟩ rfl hln).mono fun e u' ⟨he, _, _, h⟩ => ⟨he, (ground_ok h).mono fun e u' ⟨he, h⟩ => ⟨he, h.done1 hR (by simp)⟩⟩⟩
        · have hn : ¬ (b = 92 ∧ pr.long = false) := fun h => by rw [ht14.2 h] at ht; cases ht
          have hR : stepR pr b = (.zero, .none) := by unfold stepR; rw [if_neg n1, if_neg n2, if_neg n3, if_neg n4, if_neg n5, if_neg n6, if_neg n7, if_neg n8, if_neg n9, if_neg n10, if_neg n11, if_neg n12, if_neg n13, if_pos c14, if_neg hn]
          exact (ground_ok hI).mono fun e u' ⟨he, h⟩ => ⟨he, h.done0 hR⟩
      · clear n1 n2 n3 n4 n6 n7 n9 n10 n12 hplain ht1 ht2 ht4 ht6 ht7 ht9 ht10 ht12
        have := hG.lo
        have := hG.hi
        omega
    · obtain ⟨q', n', c', lp', ln', lc', evs', xs', hR, hev, hln'⟩ := hd
      rw [← step_ref hG] at hR hev
      refine ⟨by simp only [inK]; omega, ⟨_, q', n', c', lp', ln', lc', evs', xs', step_good hG, by omega, by omega, by omega, ?_, hR⟩, by first | omega | (dsimp only; omega)⟩
      rw [hf, hdrop, show (x + 1).toNat = x.toNat + 1 by omega, hev]
      simp only [feedP, hbdef, List.append_assoc]
  · have hv : Ext u12 (drewW u12) := (Upd.refl u12).drew
    have hI2 := hI.go hv
    refine ⟨_, _, _, _, _, _, rfl, hI2.rdP, _, _, _, rfl, hI2.rdL, .inl ⟨hgood, ?_⟩⟩
    have hd : s.data.toList.drop x.toNat = [] := by
      apply List.drop_eq_nil_of_le
      rw [bytes_len]
      omega
    rw [hf, hd]
    simp only [feedP, List.append_nil]
    refine ⟨pp, pn, pc, lp, ln, lc, rfl, hI2.own.nums, ⟨xs, ⟨hI2.list.gets, by rw [hI2.told.len, hI2.len], hI2.told.each⟩, hI2.told.upd (Upd.refl _) (S := fun _ => False) fun _ _ => ⟨fun h => h, trivial⟩⟩, hI2.ext⟩

end Go.Proofs.Ytkmmphkjmamckaa
