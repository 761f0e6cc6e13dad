/-
  Code and functions: what the proposition says is what runs.
-/
import Derived.Test.YtkmmphkjmamckaaVcCode
namespace Go.Proofs.Ytkmmphkjmamckaa
open Go
set_option linter.all false

theorem wp_loop_n {P : Program} {c : Code} {Q : Exit → Act → World → Prop} (I : Nat → Act → World → Prop)
    (round : ∀ n a w, I n a w → c.wp P (Exit.then (fun a' w' => ∃ m, m < n ∧ I m a' w') Q) a w) {n : Nat} {a : Act} {w : World} (h : I n a w) : (Code.loop c).wp P Q a w := by
  intro b k cs
  have key : ∀ n a w, I n a w → ∃ e a' w', Q e a' w' ∧ Arrives P (lone (b.at a (.code c :: .inLoop c :: k)) cs w) b k cs e a' w' := by
    intro n
    induction n using Nat.strongRecOn with
    | _ n ih =>
      intro a w hI
      obtain ⟨e, a₁, w₁, hq, harr⟩ := round n a w hI b (.inLoop c :: k) cs
      cases e with
      | normal =>
        obtain ⟨m, hlt, hI₁⟩ := hq
        obtain ⟨e₂, a₂, w₂, hq₂, harr₂⟩ := ih m hlt a₁ w₁ hI₁
        exact ⟨e₂, a₂, w₂, hq₂, .of_steps (Steps.trans harr (.one step_inLoop)) harr₂⟩
      | exit id => exact ⟨_, a₁, w₁, hq, .pass (x := .inLoop c) rfl (fun _ _ => .inl (by simp)) harr⟩
      | goto l => exact ⟨_, a₁, w₁, hq, .pass (x := .inLoop c) rfl (fun _ _ => .inl (by simp)) harr⟩
      | ret => exact ⟨_, a₁, w₁, hq, .pass (x := .inLoop c) rfl (fun _ _ => .inl (by simp)) harr⟩
      | panic ch => exact ⟨_, a₁, w₁, hq, .pass (x := .inLoop c) rfl (fun _ _ => .inl (by simp)) harr⟩
      | outgrown => exact ⟨_, a₁, w₁, hq, .pass (x := .inLoop c) rfl (fun _ _ => .inl (by simp)) harr⟩
  obtain ⟨e, a', w', hq, harr⟩ := key n a w h
  exact ⟨e, a', w', hq, .of_steps (.one step_loop) harr⟩

theorem St.deepen {u0 w0 : World} {ρ0 r : List Nat} {D E : List Nat} {a0 a1 a : Act} {K : KN} {w : World} (h : St u0 w0 (ρ0 ++ r) E a1 K a w) (ho : Out D a0 a1) : St u0 w0 ρ0 (D ++ E) a0 K a w := by
  obtain ⟨ρ, fr, ls, u, ⟨r', rfl⟩, h1, h2, h3, h4⟩ := h
  exact ⟨_, fr, ls, u, ⟨r ++ r', by simp⟩, h1, h2, h3, ho.left.trans h4.right⟩

theorem Qof.deepen {u0 w0 : World} {ρ0 r : List Nat} {D E : List Nat} {a0 a1 : Act} {Kn Kr : KN} {Kx : Nat → KN} (ho : Out D a0 a1) : ∀ e a w, Qof u0 w0 (ρ0 ++ r) E a1 Kn Kx Kr e a w → Qof u0 w0 ρ0 (D ++ E) a0 Kn Kx Kr e a w := by
  intro e a w h
  cases e with
  | normal => exact St.deepen h ho
  | exit id => exact St.deepen h ho
  | ret => exact St.deepen h ho
  | goto l => exact h
  | panic c => exact h
  | outgrown => exact h

theorem St.wider {u0 w0 : World} {ρ0 : List Nat} {D E : List Nat} {a0 a : Act} {K : KN} {w : World} (h : St u0 w0 ρ0 D a0 K a w) (hDE : ∀ t, memN E t = false → memN D t = false) : St u0 w0 ρ0 E a0 K a w := by
  obtain ⟨ρ, fr, ls, u, hr, h1, h2, h3, h4⟩ := h
  exact ⟨ρ, fr, ls, u, hr, h1, h2, h3, fun t ht => h4 t (hDE t ht)⟩

theorem Qof.wider {u0 w0 : World} {ρ0 : List Nat} {D E : List Nat} {a0 : Act} {Kn Kr : KN} {Kx : Nat → KN} (hDE : ∀ t, memN E t = false → memN D t = false) : ∀ e a w, Qof u0 w0 ρ0 D a0 Kn Kx Kr e a w → Qof u0 w0 ρ0 E a0 Kn Kx Kr e a w := by
  intro e a w h
  cases e with
  | normal => exact St.wider h hDE
  | exit id => exact St.wider h hDE
  | ret => exact St.wider h hDE
  | goto l => exact h
  | panic c => exact h
  | outgrown => exact h

theorem normSl_length : ∀ {l : List SS} {os xs : List SV}, os.length = l.length → xs.length = l.length → (normSl l os xs).length = l.length
  | [], _, _, _, _ => by simp [normSl]
  | s :: l, o :: os, x :: xs, h1, h2 => by simp [normSl, normSl_length (l := l) (os := os) (xs := xs) (by simpa using h1) (by simpa using h2)]
  | _ :: _, [], _, h, _ => by simp at h
  | _ :: _, _ :: _, [], _, h => by simp at h

/-- The opened frame: what is kept is the old one's. -/
theorem normSl_get : ∀ {l : List SS} {os xs : List SV} {i0 : Nat} {D : List Nat}, os.length = l.length → xs.length = l.length → keepsOk D i0 l = true → ∀ (t : Nat) (s : SV), (normSl l os xs)[t]? = some s →
    (memN D (i0 + t) = false ∧ os[t]? = some s) ∨ s = .junk ∨ (∃ x, xs[t]? = some x ∧ (s = x ∨ ∃ b, x = .lit b ∧ s = .v (.bool b)))
  | [], _, _, _, _, _, _, _, t, s, h => by simp [normSl] at h
  | _ :: _, [], _, _, _, h, _, _, _, _, _ => by simp at h
  | _ :: _, _ :: _, [], _, _, _, h, _, _, _, _ => by simp at h
  | k :: l, o :: os, x :: xs, i0, D, h1, h2, hk, t, s, h => by
    have hk' : keepsOk D (i0 + 1) l = true ∧ (k = .keep → memN D i0 = false) := by
      cases k <;> simp only [keepsOk, Bool.and_eq_true] at hk
      · exact ⟨hk.2, fun _ => by simpa using hk.1⟩
      all_goals exact ⟨hk, fun e => by cases e⟩
    cases t with
    | zero =>
      simp only [normSl, List.getElem?_cons_zero, Option.some.injEq] at h
      subst h
      cases k with
      | keep => exact .inl ⟨hk'.2 rfl, rfl⟩
      | junk => exact .inr (.inl rfl)
      | _ => refine .inr (.inr ⟨x, rfl, ?_⟩); cases x <;> simp [normS]
    | succ t =>
      simp only [normSl, List.getElem?_cons_succ] at h
      have := normSl_get (by simpa using h1) (by simpa using h2) hk'.1 t s h
      rw [show i0 + 1 + t = i0 + (t + 1) by omega] at this
      simpa using this

theorem FrOk.norm {ρ r : List Nat} {D : List Nat} {l : List SS} {os xs : List SV} {a0 a : Act} (h0 : FrOk ρ os a0) (h : FrOk (ρ ++ r) xs a) (ho : Out D a0 a) (h1 : os.length = l.length) (h2 : xs.length = l.length) (hk : keepsOk D 0 l = true)
    (hlp : ∀ (t i off : Nat), (normSl l os xs)[t]? = some (.lp i off) → memN D t = false ∧ os[t]? = some (.lp i off)) : FrOk ρ (normSl l os xs) a := by
  refine ⟨h.defers, by rw [normSl_length h1 h2, h.size, h2], fun t s y hs hy => ?_⟩
  rcases normSl_get h1 h2 hk t s hs with ⟨hm, hos⟩ | rfl | ⟨x, hx, hsx⟩
  · rw [Nat.zero_add] at hm
    rw [ho t hm] at hy
    exact h0.slot t s y hos hy
  · trivial
  · have hv := h.slot t x y hx hy
    rcases hsx with rfl | ⟨b, rfl, rfl⟩
    · cases s with
      | lp i off =>
        obtain ⟨hm, hos⟩ := hlp t i off hs
        rw [ho t hm] at hy
        exact h0.slot t _ y hos hy
      | _ => exact hv
    · exact hv

/-- No local pointer comes through a relation but by being kept. -/
theorem apSl_lp {α : Type} : ∀ {l : List SS} {os xs : List SV} {f : slTy l α} {R : α → Prop} {i0 : Nat} {D : List Nat}, os.length = l.length → keepsOk D i0 l = true → apSl l xs f R → ∀ (t i off : Nat), (normSl l os xs)[t]? = some (.lp i off) → memN D (i0 + t) = false ∧ os[t]? = some (.lp i off)
  | [], _, [], _, _, _, _, _, _, _, t, i, off, h => by simp [normSl] at h
  | [], _, _ :: _, _, _, _, _, _, _, h, _, _, _, _ => h.elim
  | _ :: _, _, [], _, _, _, _, _, _, h, _, _, _, _ => h.elim
  | _ :: _, [], _ :: _, _, _, _, _, h, _, _, _, _, _, _ => by simp at h
  | k :: l, o :: os, x :: xs, f, R, i0, D, h1, hk, ha, t, i, off, h => by
    have hk' : keepsOk D (i0 + 1) l = true ∧ (k = .keep → memN D i0 = false) := by
      cases k <;> simp only [keepsOk, Bool.and_eq_true] at hk
      · exact ⟨hk.2, fun _ => by simpa using hk.1⟩
      all_goals exact ⟨hk, fun e => by cases e⟩
    have ha : apSS k x f (fun g => apSl l xs g R) := ha
    cases t with
    | zero =>
      simp only [normSl, List.getElem?_cons_zero, Option.some.injEq] at h
      cases k with
      | keep => exact ⟨hk'.2 rfl, by simpa [normS] using h⟩
      | junk => simp [normS] at h
      | cell c => cases x <;> simp [normS] at h <;> exact ha.elim
      | agg c => cases x <;> simp [normS] at h <;> exact ha.elim
      | opq => cases x <;> simp [normS] at h <;> exact ha.elim
    | succ t =>
      simp only [normSl, List.getElem?_cons_succ] at h
      have hex : ∃ g, apSl l xs g R := by
        obtain ⟨g, hg, _⟩ := apSS_and (s := k) (x := x) ha ha
        exact ⟨g, hg⟩
      obtain ⟨g, hg⟩ := hex
      have := apSl_lp (by simpa using h1) hk'.1 hg t i off h
      rw [show i0 + 1 + t = i0 + (t + 1) by omega] at this
      simpa using this

theorem MS.take {u0 w0 u w : World} {ρ r : List Nat} {ls : List Loc} (h : MS u0 w0 (ρ ++ r) ls u w) {n : Nat} (hn : ρ.length = n) (hl : n ≤ ls.length) : MS u0 w0 ρ (ls.take n) u w := by
  subst hn
  refine ⟨h.le, h.kept, h.sz, by simp; omega, (List.nodup_append.1 h.nodup).1, fun i l b hl' hb => ?_, fun b hb => h.new b (by simp [hb])⟩
  have hi := (List.getElem?_eq_some_iff.1 hb).1
  rw [List.getElem?_take_of_lt hi] at hl'
  exact h.own i l b hl' (by rw [List.getElem?_append_left hi]; exact hb)

section
variable {C : Ctx} {u0 w0 : World}

theorem W_sound (hC : CtxOk C) : ∀ (c : Code) (Kn : KN) (Kx : Nat → KN) (Kr : KN) {ρ : List Nat} {fr : List SV} {ls : List Loc} {u w : World} {a : Act}, MS u0 w0 ρ ls u w → FrOk ρ fr a → W C c Kn Kx Kr fr ls u →
    c.wp C.P (Qof u0 w0 ρ (dsts c) a Kn Kx Kr) a w := by
  intro c
  induction c with
  | skip =>
    intro Kn Kx Kr ρ fr ls u w a hm hf h
    exact wp_skip ⟨ρ, fr, ls, u, ⟨[], by simp⟩, hm, hf, h, Out.refl _ _⟩
  | region id ops draw =>
    intro Kn Kx Kr ρ fr ls u w a hm hf h
    simp only [W] at h
    have toQ : ∀ e a' w', NQ (St u0 w0 ρ (dstsL ops.toList) a Kn) e a' w' → Qof u0 w0 ρ (dsts (.region id ops draw)) a Kn Kx Kr e a' w' := by
      intro e a' w' hq
      cases e <;> first | exact hq | exact hq.elim
    cases draw with
    | true =>
      simp only [if_true] at h
      split at h
      · rename_i hsel
        have := any_sound hC hsel ops.size (Array.replicate ops.size false) [] [] (ρ0 := ρ) ⟨[], by simp⟩ hm.drew hf (Out.refl _ a) Closed.start (fun q hq => by cases hq) h
        exact Code.wp_mono toQ (wp_region_any hC.mixed (wpAny_of_P _ _ _ _ this))
      · exact h.elim
    | false =>
      simp only [Bool.false_eq_true, if_false] at h
      have := ops_sound hC ops.toList (fun o ho => ho) (ρ0 := ρ) ⟨[], by simp⟩ hm hf (Out.refl _ a) h
      rw [Array.toArray_toList] at this
      exact Code.wp_mono toQ (wp_region_list this)
  | seq x y ihx ihy =>
    intro Kn Kx Kr ρ fr ls u w a hm hf h
    simp only [W] at h
    split at h
    · refine wp_seq (Code.wp_mono (fun e a' w' hq => ?_) (ihx _ _ _ hm hf h))
      cases e with
      | normal =>
        obtain ⟨ρ1, fr1, ls1, u1, ⟨r, rfl⟩, hm1, hf1, hk1, ho1⟩ := hq
        exact Code.wp_mono (Qof.deepen ho1) (ihy _ _ _ hm1 hf1 hk1)
      | exit id => exact St.wider hq fun t ht => by simp only [dsts, memN_append, Bool.or_eq_false_iff] at ht; exact ht.1
      | ret => exact St.wider hq fun t ht => by simp only [dsts, memN_append, Bool.or_eq_false_iff] at ht; exact ht.1
      | goto l => exact hq
      | panic c => exact hq
      | outgrown => exact hq
    · rename_i sh hsh
      split at h
      · rename_i hkeep
        obtain ⟨J, h1, h2⟩ := h
        refine wp_seq (Code.wp_mono (fun e a' w' hq => ?_) (ihx _ _ _ hm hf h1))
        cases e with
        | normal =>
          obtain ⟨ρ1, fr1, ls1, u1, ⟨r, rfl⟩, hm1, hf1, hk1, ho1⟩ := hq
          have hlen := opSh_len h2
          obtain ⟨⟨g, hg1, hg2⟩, hl1, hl2, hl3, _⟩ := apSh_op (LRel.refl _ _ hlen) hk1 h2
          have hlp := fun t i off ht => by
            have := apSl_lp (i0 := 0) hl2 hkeep hk1 t i off ht
            rwa [Nat.zero_add] at this
          have hf2 : FrOk ρ (normSl sh.slots fr fr1) a' := hf.norm hf1 ho1 hl2 hl1 hkeep hlp
          have hn : ls.length = sh.locs.length := opSh_len_eq h2
          have hm2 : MS u0 w0 ρ (ls1.take sh.locs.length) u1 w' := hm1.take (by rw [hm.len, hn]) hl3
          have := ihy _ _ _ hm2 hf2 (hg1 u1 hg2)
          refine Code.wp_mono (fun e a2 w2 hq2 => Qof.deepen (r := []) ho1 e a2 w2 (by simpa using hq2)) this
        | exit id => exact St.wider hq fun t ht => by simp only [dsts, memN_append, Bool.or_eq_false_iff] at ht; exact ht.1
        | ret => exact St.wider hq fun t ht => by simp only [dsts, memN_append, Bool.or_eq_false_iff] at ht; exact ht.1
        | goto l => exact hq
        | panic c => exact hq
        | outgrown => exact hq
      · exact h.elim
  | cond cnd x y ihx ihy =>
    intro Kn Kx Kr ρ fr ls u w a hm hf h
    simp only [W] at h
    have wx : ∀ e a' w', Qof u0 w0 ρ (dsts x) a Kn Kx Kr e a' w' → Qof u0 w0 ρ (dsts (.cond cnd x y)) a Kn Kx Kr e a' w' := Qof.wider fun t ht => by simp only [dsts, memN_append, Bool.or_eq_false_iff] at ht; exact ht.1
    have wy : ∀ e a' w', Qof u0 w0 ρ (dsts y) a Kn Kx Kr e a' w' → Qof u0 w0 ρ (dsts (.cond cnd x y)) a Kn Kx Kr e a' w' := Qof.wider fun t ht => by simp only [dsts, memN_append, Bool.or_eq_false_iff] at ht; exact ht.2
    split at h
    · rename_i hc
      exact wp_cond_true (ev_lit hf hc) (Code.wp_mono wx (ihx _ _ _ hm hf h))
    · rename_i hc
      exact wp_cond_false (ev_lit hf hc) (Code.wp_mono wy (ihy _ _ _ hm hf h))
    · rename_i t hc
      exact wp_cond_split (ev_v hf hc) (fun ht => Code.wp_mono wx (ihx _ _ _ hm hf (h.1 ht))) (fun ht => Code.wp_mono wy (ihy _ _ _ hm hf (h.2 ht)))
    · exact h.elim
  | block id c ih =>
    intro Kn Kx Kr ρ fr ls u w a hm hf h
    simp only [W] at h
    refine wp_block (Code.wp_mono (fun e a' w' hq => ?_) (ih _ _ _ hm hf h))
    cases e with
    | exit id' =>
      simp only [Exit.inBlock]
      have hq : St u0 w0 ρ (dsts c) a (if Nat.beq id' id then Kn else Kx id') a' w' := hq
      split
      · rename_i he
        subst he
        have hq2 : St u0 w0 ρ (dsts c) a Kn a' w' := by simpa using hq
        exact hq2
      · rename_i hne
        have : Nat.beq id' id = false := by
          cases hb : Nat.beq id' id with
          | false => rfl
          | true => exact absurd (Nat.eq_of_beq_eq_true hb) hne
        rw [this] at hq
        exact hq
    | normal => exact hq
    | ret => exact hq
    | goto l => exact hq
    | panic c => exact hq
    | outgrown => exact hq
  | loop c ih =>
    intro Kn Kx Kr ρ fr ls u w a hm hf h
    simp only [W] at h
    split at h
    · exact h.elim
    · rename_i sh hsh
      split at h
      · rename_i hkeep
        obtain ⟨J, M, h1, h2⟩ := h
        have hn : ls.length = sh.locs.length := opSh_len_eq h2
        -- the head of a round
        let body : Nat → List SV → List Loc → World → Prop := fun n fr1 ls1 u1 =>
          W C c (fun fr'' ls'' u'' => apSh sh ls1 fr'' ls'' J fun j' => j' u'' ∧ apSh sh ls1 fr'' ls'' M fun m' => m' u'' < n) Kx Kr fr1 ls1 u1
        let I : Nat → Act → World → Prop := fun n a1 w1 => ∃ fr1 ls1 u1, MS u0 w0 ρ ls1 u1 w1 ∧ FrOk ρ fr1 a1 ∧ Out (dsts c) a a1 ∧ LRel sh.locs ls ls1 ∧ ls1.length = sh.locs.length ∧ body n fr1 ls1 u1
        -- from a relation that holds to a round's head
        have enter : ∀ {r : List Nat} {lsR : List Loc} {fr1 : List SV} {ls1 : List Loc} {u1 w1 : World} {a1 : Act} {S : (World → Nat) → Prop}, LRel sh.locs ls lsR → MS u0 w0 (ρ ++ r) ls1 u1 w1 → FrOk (ρ ++ r) fr1 a1 → Out (dsts c) a a1 →
            apSh sh lsR fr1 ls1 J (fun j => j u1) → (apSh sh lsR fr1 ls1 M S → ∃ m, S m ∧ I (m u1) a1 w1) ∧ ∃ m, I m a1 w1 := by
          intro r lsR fr1 ls1 u1 w1 a1 S hl hm1 hf1 ho1 hJ
          obtain ⟨⟨g, hg1, hg2⟩, hl1, hl2, hl3, hl4⟩ := apSh_op hl hJ h2
          have hlp := fun t i off ht => by
            have := apSl_lp (i0 := 0) hl2 hkeep hJ t i off ht
            rwa [Nat.zero_add] at this
          have hf2 : FrOk ρ (normSl sh.slots fr fr1) a1 := hf.norm hf1 ho1 hl2 hl1 hkeep hlp
          have hm2 : MS u0 w0 ρ (ls1.take sh.locs.length) u1 w1 := hm1.take (by rw [hm.len, hn]) hl3
          have mk : ∀ m : World → Nat, (∀ u', g u' → W C c (fun fr'' ls'' u'' => apSh sh (ls1.take sh.locs.length) fr'' ls'' J fun j' => j' u'' ∧ apSh sh (ls1.take sh.locs.length) fr'' ls'' M fun m' => m' u'' < m u') Kx Kr (normSl sh.slots fr fr1) (ls1.take sh.locs.length) u') → I (m u1) a1 w1 :=
            fun m hb => ⟨_, _, u1, hm2, hf2, ho1, hl4, by simp; omega, hb u1 hg2⟩
          refine ⟨fun hM => ?_, ?_⟩
          · obtain ⟨m, hm1', hS⟩ := apSh_and hg1 (apSh_self hl2 hM)
            exact ⟨m, hS, mk m hm1'⟩
          · obtain ⟨m, hm1', _⟩ := apSh_and hg1 hg1
            exact ⟨_, mk m hm1'⟩
        obtain ⟨n, hn0⟩ := (enter (r := []) (S := fun _ => True) (LRel.refl _ _ (Nat.le_of_eq hn.symm)) (by simpa using hm) (by simpa using hf) (Out.refl _ _) h1).2
        refine wp_loop_n I (fun n a1 w1 hI => ?_) hn0
        obtain ⟨fr1, ls1, u1, hm1, hf1, ho1, hl1, hlen1, hbody⟩ := hI
        refine Code.wp_mono (fun e a' w' hq => ?_) (ih _ _ _ hm1 hf1 hbody)
        cases e with
        | normal =>
          obtain ⟨ρ2, fr2, ls2, u2, ⟨r, rfl⟩, hm2, hf2, hk2, ho2⟩ := hq
          obtain ⟨j, ⟨hj, hM⟩, _⟩ := apSh_and hk2 hk2
          have hJ : apSh sh ls1 fr2 ls2 J (fun j => j u2) := apSh_mono hk2 fun _ h => h.1
          have := (enter (S := fun m => m u2 < n) hl1 hm2 hf2 (ho1.trans ho2) hJ).1 hM
          obtain ⟨m, hlt, hI⟩ := this
          exact ⟨_, hlt, hI⟩
        | exit id =>
          have hq : St u0 w0 ρ (dsts c) a1 (Kx id) a' w' := hq
          obtain ⟨ρ2, fr2, ls2, u2, hr, hm2, hf2, hk2, ho2⟩ := hq
          exact ⟨ρ2, fr2, ls2, u2, hr, hm2, hf2, hk2, ho1.trans ho2⟩
        | ret =>
          have hq : St u0 w0 ρ (dsts c) a1 Kr a' w' := hq
          obtain ⟨ρ2, fr2, ls2, u2, hr, hm2, hf2, hk2, ho2⟩ := hq
          exact ⟨ρ2, fr2, ls2, u2, hr, hm2, hf2, hk2, ho1.trans ho2⟩
        | goto l => exact hq
        | panic c => exact hq
        | outgrown => exact hq
      · exact h.elim
  | exit id =>
    intro Kn Kx Kr ρ fr ls u w a hm hf h
    exact wp_exit ⟨ρ, fr, ls, u, ⟨[], by simp⟩, hm, hf, h, Out.refl _ _⟩
  | ret =>
    intro Kn Kx Kr ρ fr ls u w a hm hf h
    exact wp_ret ⟨ρ, fr, ls, u, ⟨[], by simp⟩, hm, hf, h, Out.refl _ _⟩
  | rangeFunc => intro Kn Kx Kr ρ fr ls u w a hm hf h; exact h.elim
  | scope => intro Kn Kx Kr ρ fr ls u w a hm hf h; exact h.elim
  | label => intro Kn Kx Kr ρ fr ls u w a hm hf h; exact h.elim
  | goto => intro Kn Kx Kr ρ fr ls u w a hm hf h; exact h.elim
  | refuse => intro Kn Kx Kr ρ fr ls u w a hm hf h; exact h.elim

def resSem (tmps : Array Value) : ResultVar → Sem Value
  | .tmp t => pure (tmps.getD t undef)
  | .cell b t => do loadVar t (← asAddr (tmps.getD b undef))

theorem res_one (hC : CtxOk C) {ρ : List Nat} {fr : List SV} {ls : List Loc} {u w : World} {a : Act} (hm : MS u0 w0 ρ ls u w) (hf : FrOk ρ fr a) {r : ResultVar} {p : Value → Prop} (h : resOne C fr ls u r p) :
    ∃ x, p x ∧ (resSem a.tmps r).run C.P w = .ok x w := by
  cases r with
  | tmp t =>
    simp only [resOne] at h
    split at h
    · rename_i x hx
      refine ⟨x, h, ?_⟩
      have := asV_eval hf hx
      simp only [resSem, Sem.run_pure]
      rw [show a.tmps.getD t undef = a.eval (.tmp t) from rfl, this]
    · exact h.elim
  | cell b t =>
    simp only [resOne] at h
    obtain ⟨s, v, e, hk, hs, hc, _, hr⟩ := read_load hC hm hf (dst := none) (ty := 0) (pos := "") (after := #[]) (g := none) h
    have hr := hr w hc
    cases s with
    | v x =>
      simp only at hk
      have hv : v = x := hs
      subst hv
      refine ⟨v, hk, ?_⟩
      simp only [resSem]
      rw [show a.tmps.getD b undef = a.eval (.tmp b) from rfl]
      simp only [execOp, Instr.loadAt, Sem.run_bind] at hr ⊢
      cases hx : a.eval (.tmp b) with
      | pointer ad =>
        rw [hx] at hr
        cases ad with
        | none => simp [Instr.sureAddr] at hr
        | some ad =>
          simp only [Instr.sureAddr, asAddr, Sem.run_pure, Result.andThen_ok] at hr ⊢
          cases hl : (loadVar t ad).run C.P w with
          | ok y w' =>
            rw [hl] at hr
            simp only [Result.andThen_ok, Result.ok.injEq, Next.value.injEq] at hr
            rw [hr.1, hr.2]
          | halt x' w' => rw [hl] at hr; simp at hr
      | _ => rw [hx] at hr; simp [Instr.sureAddr] at hr
    | lit b => exact hk.elim
    | lp i off => exact hk.elim
    | junk => exact hk.elim

theorem res_many (hC : CtxOk C) {ρ : List Nat} {fr : List SV} {ls : List Loc} {u w : World} {a : Act} (hm : MS u0 w0 ρ ls u w) (hf : FrOk ρ fr a) : ∀ {rs : List ResultVar} {p : List Value → Prop}, resMany C fr ls u rs p →
    ∃ xs, p xs ∧ (rs.mapM (resSem a.tmps)).run C.P w = .ok xs w
  | [], p, h => ⟨[], h, by simp⟩
  | r :: rs, p, h => by
    obtain ⟨x, h1, h2⟩ := res_one hC hm hf h
    obtain ⟨xs, h3, h4⟩ := res_many hC hm hf h1
    refine ⟨x :: xs, h3, ?_⟩
    rw [List.mapM_cons]
    simp only [Sem.run_bind, h2, Result.andThen_ok, h4, Sem.run_pure]

theorem ret_sound (hC : CtxOk C) {ρ : List Nat} {fr : List SV} {ls : List Loc} {u w : World} {a : Act} (hm : MS u0 w0 ρ ls u w) (hf : FrOk ρ fr a) {fn : Func} {R : Ending → World → Prop} (h : wRet C fn R fr ls u) :
    ∃ v, (results fn a.tmps).run C.P w = .ok v w ∧ R (.returned v) u := by
  unfold wRet at h
  obtain ⟨xs, h1, h2⟩ := res_many hC hm hf h
  have hrun : (results fn a.tmps).run C.P w = .ok (if h : xs.toArray.size = 1 then xs.toArray[0] else .tuple xs.toArray) w := by
    have e : results fn a.tmps = (do let vs ← fn.results.mapM (resSem a.tmps); pure (if h : vs.size = 1 then vs[0] else .tuple vs)) := by
      unfold results
      congr 1
    rw [e, Array.mapM_eq_mapM_toList]
    simp only [Sem.run_bind, Sem.run_map, h2, Result.andThen_ok, Sem.run_pure]
  refine ⟨_, hrun, ?_⟩
  rcases xs with _ | ⟨x, _ | ⟨y, xs⟩⟩
  · exact h1
  · exact h1
  · exact h1

/-- **What a function's proposition says is what a call of it does.** -/
theorem func_sound (hC : CtxOk C) {id : FuncId} {fn : Func} (hfn : C.P.funcs[id]? = some fn) {args : List Value} {u : World} {R : Ending → World → Prop} (h : wFunc C fn args u R) : Spec C.P id args.toArray u R := by
  intro w hle
  unfold wFunc at h
  split at h
  · rename_i c hb
    refine calls_of_wp hfn hb ?_
    have hm : MS u w [] [] u w := ⟨hle, ⟨Nat.le_refl _, fun k hk => ⟨hk, rfl⟩⟩, Nat.le_refl _, rfl, List.nodup_nil, (by intro i l b hl; simp at hl), (by simp)⟩
    have hf : FrOk [] (args.map SV.v ++ List.replicate (fn.ntmps - args.length) (.v (.tuple #[]))) { tmps := args.toArray ++ Array.replicate (fn.ntmps - args.toArray.size) undef, defers := [] } := by
      refine ⟨rfl, by simp, fun t s y hs hy => ?_⟩
      simp only [List.size_toArray] at hy
      rcases Nat.lt_or_ge t args.length with ht | ht
      · rw [List.getElem?_append_left (by simpa using ht), List.getElem?_map, List.getElem?_eq_getElem ht] at hs
        rw [Array.getElem?_append_left (by simpa using ht)] at hy
        simp only [Option.map_some, Option.some.injEq] at hs
        subst hs
        simp only [List.getElem?_toArray, List.getElem?_eq_getElem ht, Option.some.injEq] at hy
        exact hy.symm
      · rw [List.getElem?_append_right (by simpa using ht)] at hs
        rw [Array.getElem?_append_right (by simpa using ht)] at hy
        simp only [List.length_map, List.getElem?_replicate, List.size_toArray, Array.getElem?_replicate] at hs hy
        split at hs
        · rename_i hlt
          rw [if_pos hlt] at hy
          simp only [Option.some.injEq] at hs hy
          subst hs hy
          rfl
        · cases hs
    refine Code.wp_mono (fun e a w1 hq => ?_) (W_sound hC c _ _ _ hm hf h)
    have fin : ∀ K : KN, (∀ fr ls u1, K fr ls u1 → wRet C fn R fr ls u1) → ∀ {D a0}, St u w [] D a0 K a w1 → a.defers = [] ∧ ∃ v, (results fn a.tmps).run C.P w1 = .ok v w1 ∧ ∃ u', R (.returned v) u' ∧ Le u' w1 ∧ Kept u w u' w1 := by
      intro K hK D a0 hst
      obtain ⟨ρ, fr, ls, u1, _, hm1, hf1, hk, _⟩ := hst
      obtain ⟨v, h1, h2⟩ := ret_sound hC hm1 hf1 (hK _ _ _ hk)
      exact ⟨hf1.defers, v, h1, u1, h2, hm1.le, hm1.kept⟩
    cases e with
    | normal => exact fin _ (fun _ _ _ h => h) hq
    | ret => exact fin _ (fun _ _ _ h => h) hq
    | exit id =>
      obtain ⟨_, _, _, _, _, _, _, hk, _⟩ := hq
      exact hk.elim
    | goto l => exact hq
    | panic c => exact hq.elim
    | outgrown => exact hq.elim
  · exact h.elim

theorem func_spec {C : Ctx} (hC : CtxOk C) {id : FuncId} {fn : Func} (hfn : C.P.funcs[id]? = some fn) {args : List Value} {u : World} {R : Ending → World → Prop} {Q : Prop} (he : wFunc C fn args u R = Q) (h : Q) : Spec C.P id args.toArray u R := by
  subst he
  exact func_sound hC hfn h

theorem Spec.mono {P : Program} {f : FuncId} {args : Array Value} {u : World} {R R' : Ending → World → Prop} (h : Spec P f args u R) (hR : ∀ e u', R e u' → R' e u') : Spec P f args u R' := fun w hw => (h w hw).mono fun e _ ⟨u', h1, h2, h3⟩ => ⟨u', hR e u' h1, h2, h3⟩

end
end Go.Proofs.Ytkmmphkjmamckaa
