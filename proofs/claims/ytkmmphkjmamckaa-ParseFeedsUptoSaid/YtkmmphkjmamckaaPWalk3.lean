/-
  The document's own parser: its two closures, and what a byte does.
-/
import Derived.Test.YtkmmphkjmamckaaPWalk2
import Derived.Test.YtkmmphkjmamckaaVParse2
import Derived.Test.YtkmmphkjmamckaaPRef
import Derived.Test.YtkmmphkjmamckaaPSame
namespace Go.Proofs.Ytkmmphkjmamckaa
open Go
set_option linter.all false

abbrev prCells (p : Pr) (pp : Option Addr) (n c : Nat) : List Value := [.int .i64 p.at_, .slice pp n c, .string p.pl, .bool p.long]

/-- What the document's own parser holds while it reads: blocks 'bp' (the parser), 'bl' (the list), 'bs' (the bytes); all else that it made lies below N. -/
structure RI (u : World) (bp bl bs : Nat) (s : ByteArray) (N : Nat) (pr : Pr) (pp : Option Addr) (pn pc : Nat) (lp : Option Addr) (ln lc : Nat) (evs : List Ev) (xs : List (List Value)) (u1 : World) : Prop where
  hp : ∃ t, u1.heap[bp]? = some (.cells (prCells pr pp pn pc).toArray t (0, 0))
  hl : ∃ t, u1.heap[bl]? = some (.cells [Value.slice lp ln lc].toArray t (0, 0))
  bytes : Rd u1 bs 0 (bytesV s)
  own : Own u1 1 pp pn pc (numV pr.ps)
  list : Own u1 4 lp ln lc xs.flatten
  told : Evs u1 (fun k => k < N ∧ (k ≠ bp ∧ k ≠ bl) ∧ ¬ At lp k ∧ ¬ At pp k) xs evs
  ext : Ext u u1
  inP : ∀ k, At pp k → u.heap.size ≤ k ∧ k < N ∧ k ≠ bp ∧ k ≠ bl ∧ k ≠ bs
  inL : ∀ k, At lp k → u.heap.size ≤ k ∧ k < N ∧ k ≠ bp ∧ k ≠ bl ∧ k ≠ bs
  apart : ∀ k, At pp k → ¬ At lp k
  ne : bp ≠ bl ∧ bp ≠ bs ∧ bl ≠ bs
  lo : u.heap.size ≤ bp ∧ u.heap.size ≤ bl ∧ u.heap.size ≤ bs
  hi : bp < N ∧ bl < N ∧ bs < N
  bound : N ≤ u1.heap.size

section
variable {u : World} {bp bl bs N : Nat} {s : ByteArray} {pr : Pr} {pp : Option Addr} {pn pc : Nat} {lp : Option Addr} {ln lc : Nat} {evs : List Ev} {xs : List (List Value)} {u1 : World}

theorem RI.len (h : RI u bp bl bs s N pr pp pn pc lp ln lc evs xs u1) : evs.length = ln := by
  have := h.list.len
  rw [h.told.flat] at this
  omega

theorem RI.go (h : RI u bp bl bs s N pr pp pn pc lp ln lc evs xs u1) {v : World} (hv : Ext u1 v) : RI u bp bl bs s N pr pp pn pc lp ln lc evs xs v := by
  obtain ⟨⟨t, hp⟩, ⟨t', hl⟩, hb, ho, hL, ht, he, h1, h2, h3, h4, h5, h6, h7⟩ := h
  exact ⟨⟨t, by rw [hv.old bp (by omega) fun h => h]; exact hp⟩, ⟨t', by rw [hv.old bl (by omega) fun h => h]; exact hl⟩, hv.rd hb fun h => h, ho.ext hv, hL.ext hv, ht.upd hv fun k hk => ⟨fun h => h, hk⟩, he.ext hv, h1, h2, h3, h4, h5, h6, Nat.le_trans h7 hv.size⟩

/-- Another parser in its block. -/
theorem RI.setP (h : RI u bp bl bs s N pr pp pn pc lp ln lc evs xs u1) {v : World} {pr' : Pr} {q : Option Addr} {n c : Nat} (ho : Own v 1 q n c (numV pr'.ps)) (hq : ∀ k, At q k → At pp k ∨ N ≤ k) {S : Nat → Prop} (hv : Upd S u1 v) (hS : ∀ k, S k → k = bp ∨ At pp k) (hp : ∃ t, v.heap[bp]? = some (.cells (prCells pr' q n c).toArray t (0, 0))) :
    RI u bp bl bs s v.heap.size pr' q n c lp ln lc evs xs v := by
  obtain ⟨_, ⟨t', hl⟩, hb, ho', hL, ht, he, h1, h2, h3, h4, h5, h6, h7⟩ := h
  have hvs := hv.size
  have hn : ∀ k, k ≠ bp → ¬ At pp k → ¬ S k := fun k h1 h2 hs => (hS k hs).elim h1 h2
  have hbl : ¬ At pp bl := fun h => (h1 _ h).2.2.2.1 rfl
  have hbs : ¬ At pp bs := fun h => (h1 _ h).2.2.2.2 rfl
  refine ⟨hp, ⟨t', by rw [hv.old bl (by omega) (hn _ h4.1.symm hbl)]; exact hl⟩, hv.rd hb (hn _ h4.2.1.symm hbs), ho, hL.upd hv fun k hk => hn k (h2 k hk).2.2.1 fun h => h3 k h hk, ht.upd hv fun k hk => ⟨hn k hk.2.1.1 hk.2.2.2, by omega, hk.2.1, hk.2.2.1, fun h => (hq k h).elim hk.2.2.2 (by omega)⟩, ?_, fun k hk => ?_, fun k hk => ?_, fun k hk hl => ?_, h4, h5, by omega, Nat.le_refl _⟩
  · exact (he.trans hv fun k hk hs => by rcases hS k hs with rfl | h
                                         · omega
                                         · have := (h1 k h).1; omega).mono fun _ _ h => h
  · have hkv := (ho.at hk).1
    rcases hq k hk with h | h
    · exact ⟨(h1 k h).1, hkv, (h1 k h).2.2⟩
    · exact ⟨by omega, hkv, by omega, by omega, by omega⟩
  · have := h2 k hk
    exact ⟨this.1, by omega, this.2.2⟩
  · rcases hq k hk with h | h
    · exact h3 k h hl
    · have := h2 k hl; omega

/-- A store into the parser's block. -/
theorem RI.store (h : RI u bp bl bs s N pr pp pn pc lp ln lc evs xs u1) {pr' : Pr} {q : Option Addr} {n c : Nat} (ho : Own u1 1 q n c (numV pr'.ps)) (hq : ∀ k, At q k → At pp k ∨ N ≤ k) {o : Nat} {ys : List Value} (hput : putN (prCells pr pp pn pc) o ys = some (prCells pr' q n c)) :
    Wr u1 bp o ys.length ∧ RI u bp bl bs s (putCells u1 bp o ys).heap.size pr' q n c lp ln lc evs xs (putCells u1 bp o ys) := by
  obtain ⟨t, hp⟩ := h.hp
  have hU : Upd (· = bp) u1 (putCells u1 bp o ys) := Upd.put (S := (· = bp)) (Upd.refl u1) (b := bp) (fun _ => rfl) _ _
  refine ⟨wr_block hp hput, h.setP (ho.upd hU fun k hk e => ?_) hq hU (fun k hk => .inl hk) ⟨t, put_block ys o _ _ u1 hp hput⟩⟩
  subst e
  rcases hq _ hk with h2 | h2
  · exact (h.inP _ h2).2.2.1 rfl
  · have := h.hi; omega

theorem RI.rdP (h : RI u bp bl bs s N pr pp pn pc lp ln lc evs xs u1) : Rd u1 bp 0 (prCells pr pp pn pc) := by
  obtain ⟨t, hp⟩ := h.hp
  have := rd_heap (u := u1) (b := bp) (t := t) (f := (0, 0)) (prCells pr pp pn pc) [] [] (by rw [hp]; simp)
  exact this

theorem RI.rdL (h : RI u bp bl bs s N pr pp pn pc lp ln lc evs xs u1) : Rd u1 bl 0 [.slice lp ln lc] := by
  obtain ⟨t, hp⟩ := h.hl
  have := rd_heap (u := u1) (b := bl) (t := t) (f := (0, 0)) [.slice lp ln lc] [] [] (by rw [hp]; simp)
  exact this

theorem tell_ok (h : RI u bp bl bs s N pr pp pn pc lp ln lc evs xs u1) (ev : Ev) (ep : Option Addr) (en ec : Nat) (hn : Nums u1 ep en ev.ps) (hk : ∀ k, At ep k → k < u1.heap.size ∧ (k ≠ bp ∧ k ≠ bl) ∧ ¬ At lp k ∧ ¬ At pp k) (hln : ln ≤ 4194304) :
    Spec Try.prog fn_fenestraref_FeedBytes_c1 #[EvV ev ep en ec, .pointer (some ⟨bl, 0, none⟩)] u1 fun e u2 => e = .returned (.tuple #[]) ∧ ∃ lp' lc', RI u bp bl bs s u2.heap.size pr pp pn pc lp' (ln + 1) lc' (evs ++ [ev]) (xs ++ [evRow ev ep en ec]) u2 := by
  apply vc_fenestraref_FeedBytes_c1_spec
  unfold vc_fenestraref_FeedBytes_c1
  have hv1 : Ext u1 (allocW u1 hole) := (Upd.refl u1).alloc _
  refine ⟨lp, ln, lc, rfl, (h.go hv1).rdL, ?_⟩
  have hw : Ext u1 (allocW (allocW u1 hole) (.cells #[.int .i64 ev.kind, .int .i64 ev.b, .slice ep en ec, .string ev.pl] ty_api_Event)) := hv1.alloc _
  have hh := h.go hw
  have ef : Own (allocW (allocW u1 hole) (.cells #[.int .i64 ev.kind, .int .i64 ev.b, .slice ep en ec, .string ev.pl] ty_api_Event)) 4 _ 1 1 (evRow ev ep en ec) := Own.fresh (allocW u1 hole) (cs := evRow ev ep en ec) rfl
  refine ⟨xs.flatten, evRow ev ep en ec, hh.list.len, hh.list.gets, rfl, ef.gets, by decide, by omega, by simp [okCells, evRow], fun hc => hh.list.wrs (by omega), fun p' cap u3 hr => ?_⟩
  obtain ⟨a1, a2, a3⟩ := hh.list.app hr hh.list.len hh.list.gets rfl rfl
  have hws := hw.size
  have has := a2.size
  obtain ⟨⟨t, hp⟩, ⟨t', hl⟩, hb, ho, hL, ht, he, h1, h2, h3, h4, h5, h6, h7⟩ := hh
  have hbl : ¬ At lp bl := fun h => (h2 _ h).2.2.2.1 rfl
  have hl3 : u3.heap[bl]? = some (.cells [Value.slice lp ln lc].toArray t' (0, 0)) := by rw [a2.old bl (by omega) hbl]; exact hl
  have hput : putN [Value.slice lp ln lc] 0 [.slice p' (ln + 1) cap] = some [.slice p' (ln + 1) cap] := rfl
  have hU : Upd (· = bl) u3 (putCells u3 bl 0 [.slice p' (ln + 1) cap]) := Upd.put (S := (· = bl)) (Upd.refl u3) (b := bl) (fun _ => rfl) _ _
  have hA : Upd (fun k => k = bl ∨ At lp k) _ _ := (a2.mono fun k _ hk => Or.inr hk).trans hU fun k _ hk => Or.inl hk
  have hAs := hA.size
  have hp' : ∀ k, At p' k → At lp k ∨ (allocW (allocW u1 hole) (.cells #[.int .i64 ev.kind, .int .i64 ev.b, .slice ep en ec, .string ev.pl] ty_api_Event)).heap.size ≤ k := by
    clear hk
    intro k hk1
    rcases a3 with ⟨rfl, _⟩ | ⟨rfl, _⟩
    · exact .inl hk1
    · rw [at_some hk1]; exact .inr (Nat.le_refl _)
  have hpl : ∀ k, At p' k → k ≠ bl := by
    intro k hk1 e
    rcases hp' _ hk1 with h | h
    · exact hbl (e ▸ h)
    · omega
  refine ⟨rfl, wr_block hl3 hput, rfl, p', cap, ⟨t, ?_⟩, ⟨t', put_block _ 0 _ _ u3 hl3 hput⟩, ?_, ?_, ?_, ?_, ?_, ?_, ?_, ?_, h4, h5, by omega, Nat.le_refl _⟩
  · rw [hA.old bp (by omega) fun h => h.elim h4.1 fun h => (h2 _ h).2.2.1 rfl]
    exact hp
  · exact hA.rd hb fun h => h.elim (fun e => h4.2.2 e.symm) fun h => (h2 _ h).2.2.2.2 rfl
  · exact ho.upd hA fun k hk h => h.elim (h1 k hk).2.2.2.1 (h3 k hk)
  · have := a1.upd hU fun k hk e => hpl k hk e
    rw [List.flatten_append]
    simpa using this
  · have hok : ∀ k, k < u1.heap.size ∧ (k ≠ bp ∧ k ≠ bl) ∧ ¬ At lp k ∧ ¬ At pp k → k < (putCells u3 bl 0 [.slice p' (ln + 1) cap]).heap.size ∧ (k ≠ bp ∧ k ≠ bl) ∧ ¬ At p' k ∧ ¬ At pp k := fun k hk => ⟨by omega, hk.2.1, fun h => (hp' k h).elim hk.2.2.1 (by omega), hk.2.2.2⟩
    have hN := h.bound
    refine Evs.snoc ⟨ep, en, ec, rfl, (hn.ext hw).upd hA fun k hk' h => ?_, fun k hk' => hok k (hk k hk')⟩ (ht.upd hA fun k hk' => ⟨fun h => h.elim hk'.2.1.2 hk'.2.2.1, hok k ⟨by omega, hk'.2⟩⟩)
    exact h.elim (hk k hk').2.1.2 (hk k hk').2.2.1
  · exact (he.trans hA fun k hk h => by rcases h with rfl | h
                                        · omega
                                        · have := (h2 k h).1; omega).mono fun _ _ h => h
  · intro k hk
    have := h1 k hk
    exact ⟨this.1, by omega, this.2.2⟩
  · intro k hk
    have hkk : k < u3.heap.size := (a1.at hk).1
    have hN := h.bound
    have hpu : (putCells u3 bl 0 [.slice p' (ln + 1) cap]).heap.size = u3.heap.size := put_size _ _ _
    rcases hp' k hk with h | h
    · have := h2 k h
      exact ⟨this.1, by omega, this.2.2⟩
    · exact ⟨by omega, by omega, by omega, by omega, by omega⟩
  · intro k hk hl
    rcases hp' k hl with h | h
    · exact h3 k hk h
    · have := h1 k hk; omega

theorem ground_ok (h : RI u bp bl bs s N pr pp pn pc lp ln lc evs xs u1) :
    Spec Try.prog fn_fenestraref_FeedBytes_c2 #[.pointer (some ⟨bp, 0, none⟩)] u1 fun e u2 => e = .returned (.tuple #[]) ∧ RI u bp bl bs s u2.heap.size .zero none 0 0 lp ln lc evs xs u2 := by
  apply vc_fenestraref_FeedBytes_c2_spec
  unfold vc_fenestraref_FeedBytes_c2
  have := h.store (pr' := .zero) (q := none) (n := 0) (c := 0) (Own.nil _ _) (fun _ h => (at_none h).elim) (o := 0) (ys := prCells .zero none 0 0) rfl
  exact ⟨rfl, this.1, rfl, this.2⟩

end

end Go.Proofs.Ytkmmphkjmamckaa
