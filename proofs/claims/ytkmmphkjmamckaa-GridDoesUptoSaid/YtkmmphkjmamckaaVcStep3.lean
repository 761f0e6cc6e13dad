/-
  Every operation.
-/
import Derived.Test.YtkmmphkjmamckaaVcStep2
namespace Go.Proofs.Ytkmmphkjmamckaa
open Go
set_option linter.all false

section
variable {C : Ctx} {ρ : List Nat} {fr : List SV} {ls : List Loc} {u0 w0 u w : World} {a : Act} {Q : Exit → Act → World → Prop}

theorem rd_drew {w : World} {b o : Nat} {cs : List Value} (h : Rd w b o cs) : Rd (drewW w) b o cs := by rw [Rd_iff] at *; exact h
theorem gets_drew {w : World} {p : Option Addr} {cs : List Value} (h : Gets w p cs) : Gets (drewW w) p cs := by
  cases p with
  | none => exact h
  | some a => exact ⟨h.1, rd_drew h.2⟩

theorem run_firstCells_sl {P : Program} {w : World} {p : Option Addr} {es m c : Nat} {cs : List Value} (h : Gets w p cs) (hl : cs.length = m * es) : (Builtin.firstCells es m (.slice p m c)).run P w = .ok cs.toArray w := by
  cases p with
  | none =>
    have : cs = [] := h
    subst this
    rfl
  | some ad =>
    simp only [Builtin.firstCells]
    rw [← hl]
    exact run_loadCells_gets h

theorem run_firstCells_len {P : Program} {w : World} {p : Option Addr} {es n m c : Nat} {cs : List Value} (h : Gets w p cs) (hl : cs.length = n * es) : (Builtin.firstCells es n (.slice p m c)).run P w = .ok cs.toArray w := by
  cases p with
  | none =>
    have : cs = [] := h
    subst this
    rfl
  | some ad =>
    simp only [Builtin.firstCells]
    rw [← hl]
    exact run_loadCells_gets h

theorem run_firstCells_str {P : Program} {w : World} {es : Nat} {s : ByteArray} : (Builtin.firstCells es s.size (.string s)).run P w = .ok (bytesV s).toArray w := by
  simp only [Builtin.firstCells, Sem.run_pure]
  congr 1
  apply Array.ext'
  simp [bytesV]

theorem bytesV_plain (s : ByteArray) : ∀ y ∈ bytesV s, plain y = true := by
  intro y hy
  simp only [bytesV, List.mem_map] at hy
  obtain ⟨b, _, rfl⟩ := hy
  rfl

theorem step_builtin (hC : CtxOk C) (hm : MS u0 w0 ρ ls u w) (hf : FrOk ρ fr a) {dst : Option Tmp} {b : Builtin} {xs : Array Operand} {ats : Array TypeId} {ty : TypeId} {pos : String} {after : Array Edge} {g : Option (Nat × Bool)} {k : KO}
    {args : List Value} (hargs : asVs fr xs.toList = some args) (h : wBuiltin C b ats.toList args u fun y u e => k (.v y) ls u e) :
    (Oper.mk dst (.call ⟨.builtin b, xs, ats⟩) ty pos after g).wp C.P a w (Post u0 w0 ρ ls u w a ⟨dst, .call ⟨.builtin b, xs, ats⟩, ty, pos, after, g⟩ k) Q := by
  have hxs : xs.map a.eval = args.toArray := by
    have := asVs_eval hf _ _ hargs
    apply Array.ext'
    simp [this]
  by_cases hb : b = .len ∨ b = .max ∨ b = .min
  · exact Post.read hm (read_builtin hC hf hb hargs h)
  have run : ∀ (y : Value) (w' : World), (builtin b ats ty (xs.map fun | .const _ => true | _ => false) args.toArray).run C.P w = .ok (.value y) w' → (execOp a.eval ⟨dst, .call ⟨.builtin b, xs, ats⟩, ty, pos, after, g⟩).run C.P w = .ok (.value y) w' := fun y w' hr => by
    rw [BigFrame.execOp_builtin, hxs]
    exact hr
  obtain ⟨atl⟩ := ats
  simp only at h
  cases b <;> simp only [wBuiltin] at h <;> (try exact (hb (.inl rfl)).elim) <;> (try exact (hb (.inr (.inl rfl))).elim) <;> (try exact (hb (.inr (.inr rfl))).elim)
  case append =>
    unfold wAppend at h
    rcases atl with _ | ⟨t, _ | ⟨t', _ | ⟨t'', atl⟩⟩⟩ <;> try (simp only at h)
    rcases args with _ | ⟨x, _ | ⟨y, _ | ⟨z, args⟩⟩⟩ <;> try (simp only at h)
    cases x <;> try (simp only at h)
    rename_i p n c
    have fin : ∀ (e : TypeId) (ei : TI) (m : Nat) (src : List Value → Prop), elemTI C t = some (e, ei) → C.P.underlying t = some (.slice e) → (∃ d, C.P.underlying t' = some d ∧ ∀ k, d ≠ .int k) →
        (∀ w', (Builtin.lenOf y).run C.P w' = .ok m w') → (∀ new, src new → new.length = m * ei.size → (Builtin.firstCells ei.size m y).run C.P w = .ok new.toArray w ∧ (Builtin.firstCells ei.size m y).run C.P (drewW w) = .ok new.toArray (drewW w)) →
        appendVC u e ei.size ei.bytes ei.zero p n c m src (fun y u' => k (.v y) ls u' .wr) →
        (Oper.mk dst (.call ⟨.builtin .append, xs, [t, t'].toArray⟩) ty pos after g).wp C.P a w (Post u0 w0 ρ ls u w a ⟨dst, .call ⟨.builtin .append, xs, [t, t'].toArray⟩, ty, pos, after, g⟩ k) Q := by
      intro e ei m src he hd hd' hlen hcells hv
      obtain ⟨hti, _, htup, _⟩ := elemTI_spec hC he
      obtain ⟨old, new, ho, hold, hn, hsrc, heb, hroom, hp, h1, h2⟩ := hv
      rw [okCells_iff] at hp
      obtain ⟨hc0, hc1⟩ := hcells new hsrc hn
      rcases run_append (C := C) (ty := ty) rfl hti htup hd hd' ho (hm.le.gets hold) hlen hc0 hc1 heb hroom hp.1 (fun hc => by rw [hn]; exact hm.le.wrs (h1 hc)) with ⟨hc, hr⟩ | ⟨hc, cap, hcap, hr⟩
      · refine Post.of_run (y := .slice p (n + m) c) (w' := putSl w p (n * ei.size) new) (run _ _ (by rw [BigFrame.builtin_append, Sem.run_bind, hr]; rfl)) ?_
        exact Post.wr (h2 _ _ _ (.inl ⟨hc, rfl, rfl, rfl⟩)) (hm.putSl (by rw [hn]; exact h1 hc)) (putSl_le _ _ _ _)
      · refine Post.of_run (y := .slice (some ⟨w.heap.size, 0, none⟩) (n + m) cap) (w' := allocW (drewW w) (.cells (old ++ new ++ repl (cap - (n + m)) ei.zero).toArray e)) (run _ _ (by rw [BigFrame.builtin_append, Sem.run_bind, hr]; rfl)) ?_
        have hk := h2 _ _ _ (.inr ⟨hc, hcap, rfl, rfl⟩)
        rw [hm.le.size]
        exact Post.wr hk (hm.drew.alloc _) (alloc_le (drewW u) _)
    split at h
    · rename_i e0 _ _ _ e ei e1 _ _ _ xp m xc ht he ht'
      obtain ⟨dd, hd, hk⟩ := tiCell hC ht
      simp only [TKok] at hk
      subst hk
      obtain ⟨dd', hd', hk'⟩ := tiCell hC ht'
      simp only [TKok] at hk'
      subst hk'
      have hee : e = e0 := by
        rcases (elemTI_spec hC he).2.2.2 with ⟨_, _, _, hu⟩ | ⟨_, _, _, _, hu⟩
        · rw [hd] at hu; simpa using hu.symm
        · rw [hd] at hu; simp at hu
      subst hee
      exact fin e ei m _ he hd ⟨_, hd', by simp⟩ (fun w' => rfl) (fun new hs hl => ⟨run_firstCells_sl (hm.le.gets hs) hl, run_firstCells_sl (gets_drew (hm.le.gets hs)) hl⟩) h
    · rename_i e0 _ _ _ e ei _ _ _ s ht he ht'
      obtain ⟨dd, hd, hk⟩ := tiCell hC ht
      simp only [TKok] at hk
      subst hk
      obtain ⟨dd', hd', hk'⟩ := tiCell hC ht'
      simp only [TKok] at hk'
      subst hk'
      have hee : e = e0 := by
        rcases (elemTI_spec hC he).2.2.2 with ⟨_, _, _, hu⟩ | ⟨_, _, _, _, hu⟩
        · rw [hd] at hu; simpa using hu.symm
        · rw [hd] at hu; simp at hu
      subst hee
      exact fin e ei s.size _ he hd ⟨_, hd', by simp⟩ (fun w' => rfl) (fun new hs _ => by obtain ⟨rfl, _⟩ := hs; exact ⟨run_firstCells_str, run_firstCells_str⟩) h
    · exact h.elim
  case copy =>
    unfold wCopy at h
    rcases atl with _ | ⟨t, _ | ⟨t', _ | ⟨t'', atl⟩⟩⟩ <;> try (simp only at h)
    rcases args with _ | ⟨x, _ | ⟨y, _ | ⟨z, args⟩⟩⟩ <;> try (simp only at h)
    cases x <;> try (simp only at h)
    rename_i p n c
    split at h
    · rename_i e0 _ _ _ e ei xp m xc ht he
      obtain ⟨dd, hd, hk⟩ := tiCell hC ht
      simp only [TKok] at hk
      subst hk
      have hee : e = e0 := by
        rcases (elemTI_spec hC he).2.2.2 with ⟨_, _, _, hu⟩ | ⟨_, _, _, _, hu⟩
        · rw [hd] at hu; simpa using hu.symm
        · rw [hd] at hu; simp at hu
      subst hee
      obtain ⟨hti, _, _, _⟩ := elemTI_spec hC he
      obtain ⟨cs, hl, hsrc, hp, hw, hk⟩ := h
      rw [okCells_iff] at hp
      have hfc := run_firstCells_len (P := C.P) (m := m) (c := xc) (hm.le.gets hsrc) hl
      refine Post.of_run (run _ (putSl w p 0 cs) ?_) (Post.wr hk (hm.putSl (by rw [hl]; exact hw)) (putSl_le _ _ _ _))
      have hw' := hm.le.wrs hw
      have hstore : ((match p with | some ad => storeCells ad cs | none => pure ()) : Sem Unit).run C.P w = .ok () (putSl w p 0 cs) := by
        cases p with
        | none => rfl
        | some ad =>
          have := run_storeCells_wrs (P := C.P) (ad := ad) (off := 0) (cs := cs) (w := w) (by rw [hl]; exact hw') hp.1
          have e : ad.add 0 = ad := by obtain ⟨b, o, s⟩ := ad; cases s <;> simp [Addr.add]
          rw [e] at this
          simpa [putSl] using this
      rw [BigFrame.builtin_copy]
      simp only [Builtin.copy_, List.getElem?_toArray, List.getElem?_cons_zero, List.getElem?_cons_succ, Sem.run_bind, run_under hd, Result.andThen_ok, Builtin.lenOf, Sem.run_pure, run_sizeOf hti]
      rw [show Nat.min m n = min m n from rfl, hfc]
      simp only [Result.andThen_ok]
      cases p with
      | none => simp [putSl, goInt]
      | some ad =>
        simp only at hstore
        simp [hstore, goInt]
    · exact h.elim

theorem step_buildSlice (hC : CtxOk C) (hm : MS u0 w0 ρ ls u w) (hf : FrOk ρ fr a) {dst : Option Tmp} {t : TypeId} {n : Nat} {parts : Array (Nat × Operand)} {ty : TypeId} {pos : String} {after : Array Edge} {g : Option (Nat × Bool)} {k : KO}
    (h : wOp C ⟨dst, .buildSlice t n parts, ty, pos, after, g⟩ fr ls u k) : (Oper.mk dst (.buildSlice t n parts) ty pos after g).wp C.P a w (Post u0 w0 ρ ls u w a ⟨dst, .buildSlice t n parts, ty, pos, after, g⟩ k) Q := by
  simp only [wOp] at h
  split at h
  · rename_i e0 _ _ _ e ei l ht he hl
    obtain ⟨dd, hd, hk⟩ := tiCell hC ht
    simp only [TKok] at hk
    subst hk
    have hee : e = e0 := by
      rcases (elemTI_spec hC he).2.2.2 with ⟨_, _, _, hu⟩ | ⟨_, _, _, _, hu⟩
      · rw [hd] at hu; simpa using hu.symm
      · rw [hd] at hu; simp at hu
    subst hee
    obtain ⟨hti, hz, htup, _⟩ := elemTI_spec hC he
    split at h
    · rename_i hble
      have hle := Nat.le_of_ble_eq_true hble
      split at h
      · rename_i cells hfill
        have hparts := partsV_eval hf parts.toList l hl
        have hpl : (parts.map fun (i, x) => (i, a.eval x)).toList = l := by rw [← hparts]; simp
        obtain ⟨inf, z, hinf, hzz, hzc⟩ := zero_spec hti htup
        have hzl : ei.zero.length = ei.size := by
          have := hti.zlen
          cases hki : ei.k <;> rw [hki] at this <;> first | exact this | exact absurd hki (htup _)
        have hne : ei.zero ≠ [] := by intro e; rw [e] at hzl; exact hz hzl.symm
        have hfs := fill_spec hC (t := t) (place := fun i => some (i * ei.size, ei.size)) (fun i off fi hm => by
          rw [ht] at hm
          simp only [he, Option.map_some, Option.some.injEq, Prod.mk.injEq] at hm
          rw [← hm.1, ← hm.2]) l (repl n ei.zero) cells hfill
        refine Post.of_run (y := .slice (some ⟨w.heap.size, 0, none⟩) n n) (w' := allocW w (.cells cells.toArray e)) ?_ (by rw [hm.le.size]; exact Post.wr h (hm.alloc _) (alloc_le _ _))
        have hbig : ¬ n * ei.size > 2 ^ 24 := by omega
        simp only [execOp, Instr.buildSlice, Sem.run_bind, run_under hd, Result.andThen_ok, run_sizeOf hti]
        rw [if_neg hbig]
        by_cases h0 : n * ei.size = 0
        · have hr0 : repl n ei.zero = [] := List.length_eq_zero_iff.1 (by rw [repl_length, hzl]; exact h0)
          rw [hr0] at hfs
          rw [if_pos h0]
          simp only [h0, Array.range_zero', List.map_toArray, List.map_nil, hpl, hfs, newRow, Sem.run_bind, run_newObj, Sem.run_pure, Result.andThen_ok]
          rfl
        · have hrow : ((Array.range (n * ei.size)).map fun i => ei.zero.toArray[i % ei.zero.toArray.size]!) = (repl n ei.zero).toArray := by
            rw [← hzl]
            exact zeros_eq n ei.zero hne
          rw [if_neg h0]
          simp only [zeroValue, typeInfo, Sem.run_bind, run_program, hinf, Sem.run_pure, Result.andThen_ok, hzz, hzc, hrow, hpl, hfs, newRow, run_newObj]
          rfl
      · exact h.elim
    · exact h.elim
  · exact h.elim

theorem step_makeSlice (hC : CtxOk C) (hm : MS u0 w0 ρ ls u w) (hf : FrOk ρ fr a) {dst : Option Tmp} {t : TypeId} {l c : Operand} {ty : TypeId} {pos : String} {after : Array Edge} {g : Option (Nat × Bool)} {k : KO}
    (h : wOp C ⟨dst, .makeSlice t l c, ty, pos, after, g⟩ fr ls u k) : (Oper.mk dst (.makeSlice t l c) ty pos after g).wp C.P a w (Post u0 w0 ρ ls u w a ⟨dst, .makeSlice t l c, ty, pos, after, g⟩ k) Q := by
  simp only [wOp] at h
  split at h
  · rename_i e0 _ _ _ e ei k1 n k2 m ht he hl hc
    obtain ⟨dd, hd, hk⟩ := tiCell hC ht
    simp only [TKok] at hk
    subst hk
    have hee : e = e0 := by
      rcases (elemTI_spec hC he).2.2.2 with ⟨_, _, _, hu⟩ | ⟨_, _, _, _, hu⟩
      · rw [hd] at hu; simpa using hu.symm
      · rw [hd] at hu; simp at hu
    subst hee
    obtain ⟨hti, hz, htup, _⟩ := elemTI_spec hC he
    obtain ⟨h0, h1, h2, h3, h4⟩ := h
    obtain ⟨inf', hinf', _, hby⟩ := hti.info
    obtain ⟨inf, z, hinf, hzz, hzc⟩ := zero_spec hti htup
    rw [hinf] at hinf'
    simp only [Option.some.injEq] at hinf'
    subst hinf'
    have hzl : ei.zero.length = ei.size := by
      have := hti.zlen
      cases hki : ei.k <;> rw [hki] at this <;> first | exact this | exact absurd hki (htup _)
    have hne : ei.zero ≠ [] := by intro e; rw [e] at hzl; exact hz hzl.symm
    refine Post.of_run (y := .slice (some ⟨w.heap.size, 0, none⟩) n.toNat m.toNat) (w' := allocW w (.cells (repl m.toNat ei.zero).toArray e)) ?_ (by rw [hm.le.size]; exact Post.wr h4 (hm.alloc _) (alloc_le _ _))
    have hw1 : IntKind.i64.wrap n = n := IntWalk.i64_in n (by omega)
    have hw2 : IntKind.i64.wrap m = m := IntWalk.i64_in m (by omega)
    have hcond : ¬ ((decide (m < 0) || decide ((inf.bytes : Int) * m > 2 ^ 48)) || decide (n < 0) || decide (n > m)) = true := by
      rw [hby]
      simp only [Bool.or_eq_true, decide_eq_true_eq]
      omega
    simp only [execOp, ev_v hf hl, ev_v hf hc, Instr.makeSlice, Sem.run_bind, run_under hd, Result.andThen_ok, asInt, asIntOf, Sem.run_pure, typeInfo, run_program, hinf, hw1, hw2]
    rw [if_neg hcond]
    simp only [run_askRoom, Result.andThen_ok, run_sizeOf hti, Sem.run_bind]
    by_cases h0 : m.toNat * ei.size = 0
    · have hr0 : repl m.toNat ei.zero = [] := List.length_eq_zero_iff.1 (by rw [repl_length, hzl]; exact h0)
      rw [hr0, if_pos h0]
      simp only [h0, Array.range_zero', List.map_toArray, List.map_nil, newRow, Sem.run_bind, run_newObj, Sem.run_pure, Result.andThen_ok]
      rfl
    · have hrow : ((Array.range (m.toNat * ei.size)).map fun i => ei.zero.toArray[i % ei.zero.toArray.size]!) = (repl m.toNat ei.zero).toArray := by
        rw [← hzl]
        exact zeros_eq m.toNat ei.zero hne
      rw [if_neg h0]
      simp only [zeroValue, typeInfo, Sem.run_bind, run_program, hinf, Sem.run_pure, Result.andThen_ok, hzz, hzc, hrow, newRow, run_newObj]
      rfl
  · exact h.elim

theorem run_call {P : Program} {id : FuncId} {fn : Func} (hfn : P.funcs[id]? = some fn) (h1 : (fn.name == "runtime.NumGoroutine") = false) (h2 : fn.body.isNone = false) (args : Array Value) (w : World) : (callFunc id args).run P w = .ok (.enter id args) w := by
  simp only [callFunc, Sem.run_bind, run_program, Result.andThen_ok, hfn, h1, h2, Bool.false_eq_true, if_false, Sem.run_pure]

theorem exTy_some {T : List TI} {t : TypeId} {p : Value → Prop} (h : exTy T t p) : ∃ y, p y := by
  have one : ∀ (t : TypeId) (p : Value → Prop), exOne T t p → ∃ y, p y := fun t p h => by
    obtain ⟨ti, hti⟩ := exOne_ti h
    obtain ⟨y, h, _⟩ := exOne_spec hti h
    exact ⟨y, h⟩
  have many : ∀ (ts : List TypeId) (p : List Value → Prop), exMany T ts p → ∃ y, p y := by
    intro ts
    induction ts with
    | nil => intro p h; exact ⟨_, h⟩
    | cons t ts ih =>
      intro p h
      obtain ⟨x, h⟩ := one _ _ h
      obtain ⟨l, h⟩ := ih _ h
      exact ⟨_, h⟩
  unfold exTy at h
  split at h
  · obtain ⟨l, h⟩ := many _ _ h
    exact ⟨_, h⟩
  · exact one _ _ h

theorem step_call (hC : CtxOk C) (hm : MS u0 w0 ρ ls u w) (hf : FrOk ρ fr a) {dst : Option Tmp} {f : Operand} {xs : Array Operand} {ats : Array TypeId} {ty : TypeId} {pos : String} {after : Array Edge} {g : Option (Nat × Bool)} {k : KO}
    {args : List Value} (hargs : asVs fr xs.toList = some args) (h : wCall C ⟨dst, .call ⟨.value f, xs, ats⟩, ty, pos, after, g⟩ (ev fr f) args ls u k) :
    (Oper.mk dst (.call ⟨.value f, xs, ats⟩) ty pos after g).wp C.P a w (Post u0 w0 ρ ls u w a ⟨dst, .call ⟨.value f, xs, ats⟩, ty, pos, after, g⟩ k) Q := by
  have hxs : xs.map a.eval = args.toArray := by
    have := asVs_eval hf _ _ hargs
    apply Array.ext'
    simp [this]
  unfold wCall at h
  split at h
  · rename_i id first captured hev
    split at h
    · rename_i hmem
      have hfe := ev_v hf hev
      obtain ⟨fn, hfn, h1, h2⟩ := hC.fn id hmem
      unfold Oper.wp
      have hrun : (execOp a.eval ⟨dst, .call ⟨.value f, xs, ats⟩, ty, pos, after, g⟩).run C.P w = .ok (.enter id (first ++ args.toArray ++ captured)) w := by
        simp only [execOp, resolve, Deferred.ofValue, hfe, hxs, Sem.run_bind, Sem.run_pure, Result.andThen_ok, invoke, run_call hfn h1 h2]
      rw [hrun]
      have hspec := h w hm.le
      rw [show (first.toList ++ args ++ captured.toList).toArray = first ++ args.toArray ++ captured by apply Array.ext'; simp] at hspec
      refine Calls.mono hspec fun e w' ⟨u', hR, hle, hkept⟩ => ?_
      obtain ⟨y, rfl, hk⟩ := exTy_some hR
      exact Post.wr hk (hm.call hle hkept) hkept.size
    · exact h.elim
  · exact h.elim

theorem foldl_bytes : ∀ (l : List UInt8) (s : ByteArray), (l.map fun b => ((b.toNat : Nat) : Int)).foldl (fun r n => r.push (UInt8.ofNat n.toNat)) s = ⟨s.data ++ l.toArray⟩
  | [], s => by simp
  | b :: l, s => by
    rw [List.map_cons, List.foldl_cons, foldl_bytes l]
    simp [ByteArray.push]

theorem run_bytes {P : Program} {w : World} {p : Option Addr} {n c : Nat} {st : ByteArray} (hsz : st.size = n) (hg : Gets w p (bytesV st)) : (Conv.bytesToString (.slice p n c)).run P w = .ok (.string st) w := by
  cases p with
  | none =>
    have h0 : bytesV st = [] := hg
    have : st = ByteArray.empty := by
      obtain ⟨⟨l⟩⟩ := st
      simp only [bytesV, List.map_eq_nil_iff] at h0
      subst h0
      rfl
    subst this
    rfl
  | some ad =>
    have hl := run_loadCells_gets (P := P) hg
    have hlen : (bytesV st).length = n := by rw [← hsz]; simp [bytesV]
    rw [hlen] at hl
    have e : bytesV st = ((st.data.toList.map fun b => ((b.toNat : Nat) : Int)).map (Value.int .u8)) := by simp [bytesV]
    rw [e] at hl
    rw [run_bytesToString w _ n c _ hl, foldl_bytes]
    congr 2
    obtain ⟨⟨l⟩⟩ := st
    simp [ByteArray.empty, ByteArray.emptyWithCapacity]
    rfl

theorem run_toBytes {P : Program} {e : TypeId} {st : ByteArray} (w : World) : ∃ cap, st.size ≤ cap ∧ (Conv.stringToBytes e st).run P w = .ok (.slice (some ⟨w.heap.size, 0, none⟩) st.size cap) (allocW (drewW w) (.cells (bytesV st ++ repl (cap - st.size) [.int .u8 0]).toArray e (cap, cap + 1))) := by
  obtain ⟨cap, hcap, hcut⟩ : ∃ cap, st.size ≤ cap ∧ (Question.appendCap st.size 0 e).cut (w.tape w.drawn (.appendCap st.size 0 e)) = cap := ⟨_, Nat.le_add_right _ _, rfl⟩
  refine ⟨cap, hcap, ?_⟩
  have hforced : (Question.appendCap st.size 0 e).forced = false := rfl
  have hel : (st.data.map fun b => Value.int .u8 b.toNat) ++ Array.replicate (cap - st.size) (.int .u8 0) = (bytesV st ++ repl (cap - st.size) [.int .u8 0]).toArray := by
    apply Array.ext'
    have : repl (cap - st.size) [Value.int .u8 0] = List.replicate (cap - st.size) (.int .u8 0) := by
      generalize cap - st.size = k
      induction k with
      | zero => rfl
      | succ k ih => rw [show repl (k + 1) [Value.int .u8 0] = [Value.int .u8 0] ++ repl k [.int .u8 0] by simp [repl, List.replicate_succ], ih]; rfl
    simp [bytesV, this]
  have hsz : (bytesV st ++ repl (cap - st.size) [Value.int .u8 0]).length = cap := by
    rw [List.length_append, repl_length]
    have : (bytesV st).length = st.size := by simp [bytesV]
    rw [this]
    simp
    omega
  have hsh : ∀ (o : Array Value) (k : Nat), (drewW w).heap.size = k → (allocW (drewW w) (.cells o e)).shape? k = some (e, o.size) := by
    intro o k hk
    unfold World.shape?
    rw [heap_alloc, if_pos hk.symm]
  simp only [Conv.stringToBytes, Sem.run_bind, run_choose, hforced, Bool.false_eq_true, if_false, hcut, Result.andThen_ok, newRow, run_newObj, Sem.run_pure, hel, markStringish, run_shape]
  have e1 : ({ heap := w.heap.push (.cells (bytesV st ++ repl (cap - st.size) [.int .u8 0]).toArray e), tape := w.tape, drawn := w.drawn + 1, os := w.os, output := w.output } : World) = allocW (drewW w) (.cells (bytesV st ++ repl (cap - st.size) [.int .u8 0]).toArray e) := rfl
  rw [e1, hsh _ w.heap.size rfl]
  simp only [run_freeze, List.size_toArray, hsz, Result.andThen_ok]
  congr 1
  show World.freeze _ _ _ = _
  unfold World.freeze
  rw [if_neg (by decide)]
  unfold allocW
  congr 1
  apply Array.ext_getElem?
  intro i
  rw [Array.getElem?_modify]
  show (if (drewW w).heap.size = i then _ else _) = _
  split
  · rename_i h
    subst h
    simp
  · rename_i h
    simp only [Array.getElem?_push]
    rw [if_neg (by omega), if_neg (by omega)]

theorem step_convert (hC : CtxOk C) (hm : MS u0 w0 ρ ls u w) (hf : FrOk ρ fr a) {dst : Option Tmp} {s d : TypeId} {x : Operand} {ty : TypeId} {pos : String} {after : Array Edge} {g : Option (Nat × Bool)} {k : KO}
    (h : wOp C ⟨dst, .convert s d x, ty, pos, after, g⟩ fr ls u k) : (Oper.mk dst (.convert s d x) ty pos after g).wp C.P a w (Post u0 w0 ρ ls u w a ⟨dst, .convert s d x, ty, pos, after, g⟩ k) Q := by
  by_cases hr : isRead C ⟨dst, .convert s d x, ty, pos, after, g⟩ = true
  · exact Post.read hm (read_op hC hm hf hr h)
  simp only [wOp] at h
  split at h
  · rename_i y hy
    have hy' := asV_eval hf hy
    unfold wConvert at h
    split at h
    · rename_i hs hd
      exfalso
      apply hr
      simp only [isRead]
      rw [hs, hd]
    · rename_i e _ _ _ _ _ _ p n c hs hd
      obtain ⟨d1, hd1, hk1⟩ := tiCell hC hs
      obtain ⟨d2, hd2, hk2⟩ := tiCell hC hd
      simp only [TKok] at hk1 hk2
      subst hk1 hk2
      split at h
      · rename_i he
        obtain ⟨d3, hd3, hk3⟩ := tiCell hC he
        simp only [TKok] at hk3
        subst hk3
        obtain ⟨st, hsz, hg, hk⟩ := h
        refine Post.of_run (y := .string st) (w' := w) ?_ (Post.wr hk hm (Nat.le_refl _))
        have hg' := hm.le.gets hg
        have hconv : (Conv.bytesToString (.slice p n c)).run C.P w = .ok (.string st) w := run_bytes hsz hg'
        simp only [execOp, hy', convert, Sem.run_bind, run_under hd1, run_under hd2, run_under hd3, Result.andThen_ok, hconv, Sem.run_pure]
      · exact h.elim
    · rename_i _ _ _ e _ _ _ st hs hd
      obtain ⟨d1, hd1, hk1⟩ := tiCell hC hs
      obtain ⟨d2, hd2, hk2⟩ := tiCell hC hd
      simp only [TKok] at hk1 hk2
      subst hk1 hk2
      split at h
      · rename_i he
        obtain ⟨d3, hd3, hk3⟩ := tiCell hC he
        simp only [TKok] at hk3
        subst hk3
        obtain ⟨cap, hcap, hrun⟩ := run_toBytes (P := C.P) (e := e) (st := st) w
        refine Post.of_run (y := .slice (some ⟨w.heap.size, 0, none⟩) st.size cap) ?_ (by rw [hm.le.size]; exact Post.wr (h cap hcap) (hm.drew.alloc _) (alloc_le (drewW u) _))
        simp only [execOp, hy', convert, Sem.run_bind, run_under hd1, run_under hd2, run_under hd3, Result.andThen_ok, hrun, Sem.run_pure]
      · exact h.elim
    · exact h.elim
  · exact h.elim

end
end Go.Proofs.Ytkmmphkjmamckaa
